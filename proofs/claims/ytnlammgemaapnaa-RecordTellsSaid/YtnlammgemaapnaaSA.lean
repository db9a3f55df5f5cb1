/- Layer 7: RecordBack. -/
import Derived.Test.YtnlammgemaapnaaRW
set_option linter.unusedSimpArgs false
set_option linter.unusedVariables false
set_option maxRecDepth 100000
namespace Go.Proofs.Ytnlammgemaapnaa
open Go Go.Sx
theorem back_great (r : Rec) (cw : Nat) (B : List Int) (cb : Nat) (hg : 40 < r.n) : VCall Try.prog 5 [.agg (recC r (.slice 0 r.n cw)), .slice 1 B.length cb] [.row 9 r.n fun j => wrC (r.w j), rw B] fun v h => v = .bool true ∧ h = [.row 9 r.n fun j => wrC (r.w j), rw B] := by
  have h0 := great_v r cw true (decide_eq_true hg)
  unfold recC at h0 ⊢
  unfold rw
  refine VCall.trim 2 (Nat.le_of_ble_eq_true rfl) ?_
  refine wbody Try.func5 rfl (by kernel_rfl) ?_
  rw [Try.ntmps5, Try.results5]
  simp (implicitDefEqProofs := false) (maxSteps := 1000000) only [rX1, bd, bdL, bdB, bdH, bdT, front, VLe, VLeL, BLe, Phan, TLe, HLe, ro, Blk.owned, CLe, rr, given, mrg, exct, shr, ren, renL, renB, Nat.reduceBEq, Nat.reduceBNe, rX0, ofVal, ofVals, cellsV, vStore.isTup, eqL, eqV, Blk.deg, oneV, elApp, Nat.reduceAdd, Nat.reduceSub, Nat.reduceMul, Nat.reduceLT, Nat.reduceLeDiff, Nat.reduceEqDiff, Int.reduceToNat, Int.reduceGT, Int.reduceGE, Int.reduceMul, Int.reduceLT, Int.reduceLE, Int.reduceAdd, Int.reduceSub, Int.reduceNeg, reduceCtorEq, Sf.T3, Sf.T4, Sf.T24, Sf.T26, Sf.T5, Sf.T22, Sf.T27, Sf.T89, Sf.T29, Sf.T31, Sf.T32, Sf.T9, nmC, nmV, rBE, ow, wrC, rw, recC, zr, rk]
  refine vframe (h0) [0] (by rfl) (by simp only [rX2, bd, bdL, bdB, bdH, bdT, front, VLe, VLeL, BLe, Phan, TLe, HLe, ro, Blk.owned, CLe, rr, given, mrg, exct, shr, ren, renL, renB, Nat.reduceAdd, Nat.reduceSub, Nat.reduceLT, Nat.reduceLeDiff, Nat.reduceEqDiff, Nat.reduceBEq, Nat.reduceBNe, reduceCtorEq, nmC, nmV, rBE, ow, wrC, rw, recC, zr, rk]) ?_
  rintro v h ⟨rfl, rfl⟩ -
  simp (implicitDefEqProofs := false) (maxSteps := 1000000) only [rX2, bd, bdL, bdB, bdH, bdT, front, VLe, VLeL, BLe, Phan, TLe, HLe, ro, Blk.owned, CLe, rr, given, mrg, exct, shr, ren, renL, renB, Nat.reduceAdd, Nat.reduceSub, Nat.reduceLT, Nat.reduceLeDiff, Nat.reduceEqDiff, Nat.reduceBEq, Nat.reduceBNe, reduceCtorEq, nmC, nmV, rBE, ow, wrC, rw, recC, zr, rk, rX0, ofVal, ofVals, cellsV, vStore.isTup, eqL, eqV, Blk.deg, oneV, elApp, Nat.reduceAdd, Nat.reduceSub, Nat.reduceMul, Nat.reduceLT, Nat.reduceLeDiff, Nat.reduceEqDiff, Int.reduceToNat, Int.reduceGT, Int.reduceGE, Int.reduceMul, Int.reduceLT, Int.reduceLE, Int.reduceAdd, Int.reduceSub, Int.reduceNeg, reduceCtorEq, Sf.T3, Sf.T4, Sf.T24, Sf.T26, Sf.T5, Sf.T22, Sf.T27, Sf.T89, Sf.T29, Sf.T31, Sf.T32, Sf.T9, nmC, nmV, rBE, ow, wrC, rw, recC, zr, rk]
  refine vframe (wakes_ok) [] (by rfl) (by simp only [rX2, bd, bdL, bdB, bdH, bdT, front, VLe, VLeL, BLe, Phan, TLe, HLe, ro, Blk.owned, CLe, rr, given, mrg, exct, shr, ren, renL, renB, Nat.reduceAdd, Nat.reduceSub, Nat.reduceLT, Nat.reduceLeDiff, Nat.reduceEqDiff, Nat.reduceBEq, Nat.reduceBNe, reduceCtorEq, nmC, nmV, rBE, ow, wrC, rw, recC, zr, rk]) ?_
  rintro v h ⟨rfl, rfl⟩ -
  simp (implicitDefEqProofs := false) (maxSteps := 1000000) only [rX2, bd, bdL, bdB, bdH, bdT, front, VLe, VLeL, BLe, Phan, TLe, HLe, ro, Blk.owned, CLe, rr, given, mrg, exct, shr, ren, renL, renB, Nat.reduceAdd, Nat.reduceSub, Nat.reduceLT, Nat.reduceLeDiff, Nat.reduceEqDiff, Nat.reduceBEq, Nat.reduceBNe, reduceCtorEq, nmC, nmV, rBE, ow, wrC, rw, recC, zr, rk, rX0, ofVal, ofVals, cellsV, vStore.isTup, eqL, eqV, Blk.deg, oneV, elApp, Nat.reduceAdd, Nat.reduceSub, Nat.reduceMul, Nat.reduceLT, Nat.reduceLeDiff, Nat.reduceEqDiff, Int.reduceToNat, Int.reduceGT, Int.reduceGE, Int.reduceMul, Int.reduceLT, Int.reduceLE, Int.reduceAdd, Int.reduceSub, Int.reduceNeg, reduceCtorEq, Sf.T3, Sf.T4, Sf.T24, Sf.T26, Sf.T5, Sf.T22, Sf.T27, Sf.T89, Sf.T29, Sf.T31, Sf.T32, Sf.T9, nmC, nmV, rBE, ow, wrC, rw, recC, zr, rk]
theorem back_long (r : Rec) (cw : Nat) (B : List Int) (cb : Nat) (hg : ¬ 40 < r.n) (hb : 300 < B.length) : VCall Try.prog 5 [.agg (recC r (.slice 0 r.n cw)), .slice 1 B.length cb] [.row 9 r.n fun j => wrC (r.w j), rw B] fun v h => v = .bool true ∧ h = [.row 9 r.n fun j => wrC (r.w j), rw B] := by
  have h0 := great_v r cw false (decide_eq_false hg)
  unfold recC at h0 ⊢
  unfold rw
  refine VCall.trim 2 (Nat.le_of_ble_eq_true rfl) ?_
  refine wbody Try.func5 rfl (by kernel_rfl) ?_
  rw [Try.ntmps5, Try.results5]
  simp (implicitDefEqProofs := false) (maxSteps := 1000000) only [rX1, bd, bdL, bdB, bdH, bdT, front, VLe, VLeL, BLe, Phan, TLe, HLe, ro, Blk.owned, CLe, rr, given, mrg, exct, shr, ren, renL, renB, Nat.reduceBEq, Nat.reduceBNe, rX0, ofVal, ofVals, cellsV, vStore.isTup, eqL, eqV, Blk.deg, oneV, elApp, Nat.reduceAdd, Nat.reduceSub, Nat.reduceMul, Nat.reduceLT, Nat.reduceLeDiff, Nat.reduceEqDiff, Int.reduceToNat, Int.reduceGT, Int.reduceGE, Int.reduceMul, Int.reduceLT, Int.reduceLE, Int.reduceAdd, Int.reduceSub, Int.reduceNeg, reduceCtorEq, Sf.T3, Sf.T4, Sf.T24, Sf.T26, Sf.T5, Sf.T22, Sf.T27, Sf.T89, Sf.T29, Sf.T31, Sf.T32, Sf.T9, nmC, nmV, rBE, ow, wrC, rw, recC, zr, rk]
  refine vframe (h0) [0] (by rfl) (by simp only [rX2, bd, bdL, bdB, bdH, bdT, front, VLe, VLeL, BLe, Phan, TLe, HLe, ro, Blk.owned, CLe, rr, given, mrg, exct, shr, ren, renL, renB, Nat.reduceAdd, Nat.reduceSub, Nat.reduceLT, Nat.reduceLeDiff, Nat.reduceEqDiff, Nat.reduceBEq, Nat.reduceBNe, reduceCtorEq, nmC, nmV, rBE, ow, wrC, rw, recC, zr, rk]) ?_
  rintro v h ⟨rfl, rfl⟩ -
  simp (implicitDefEqProofs := false) (maxSteps := 1000000) only [rX2, bd, bdL, bdB, bdH, bdT, front, VLe, VLeL, BLe, Phan, TLe, HLe, ro, Blk.owned, CLe, rr, given, mrg, exct, shr, ren, renL, renB, Nat.reduceAdd, Nat.reduceSub, Nat.reduceLT, Nat.reduceLeDiff, Nat.reduceEqDiff, Nat.reduceBEq, Nat.reduceBNe, reduceCtorEq, nmC, nmV, rBE, ow, wrC, rw, recC, zr, rk, rX0, ofVal, ofVals, cellsV, vStore.isTup, eqL, eqV, Blk.deg, oneV, elApp, Nat.reduceAdd, Nat.reduceSub, Nat.reduceMul, Nat.reduceLT, Nat.reduceLeDiff, Nat.reduceEqDiff, Int.reduceToNat, Int.reduceGT, Int.reduceGE, Int.reduceMul, Int.reduceLT, Int.reduceLE, Int.reduceAdd, Int.reduceSub, Int.reduceNeg, reduceCtorEq, Sf.T3, Sf.T4, Sf.T24, Sf.T26, Sf.T5, Sf.T22, Sf.T27, Sf.T89, Sf.T29, Sf.T31, Sf.T32, Sf.T9, nmC, nmV, rBE, ow, wrC, rw, recC, zr, rk]
  refine ⟨fun _ => ?_, fun h => by omega⟩
  refine vframe (wakes_ok) [] (by rfl) (by simp only [rX2, bd, bdL, bdB, bdH, bdT, front, VLe, VLeL, BLe, Phan, TLe, HLe, ro, Blk.owned, CLe, rr, given, mrg, exct, shr, ren, renL, renB, Nat.reduceAdd, Nat.reduceSub, Nat.reduceLT, Nat.reduceLeDiff, Nat.reduceEqDiff, Nat.reduceBEq, Nat.reduceBNe, reduceCtorEq, nmC, nmV, rBE, ow, wrC, rw, recC, zr, rk]) ?_
  rintro v h ⟨rfl, rfl⟩ -
  simp (implicitDefEqProofs := false) (maxSteps := 1000000) only [rX2, bd, bdL, bdB, bdH, bdT, front, VLe, VLeL, BLe, Phan, TLe, HLe, ro, Blk.owned, CLe, rr, given, mrg, exct, shr, ren, renL, renB, Nat.reduceAdd, Nat.reduceSub, Nat.reduceLT, Nat.reduceLeDiff, Nat.reduceEqDiff, Nat.reduceBEq, Nat.reduceBNe, reduceCtorEq, nmC, nmV, rBE, ow, wrC, rw, recC, zr, rk, rX0, ofVal, ofVals, cellsV, vStore.isTup, eqL, eqV, Blk.deg, oneV, elApp, Nat.reduceAdd, Nat.reduceSub, Nat.reduceMul, Nat.reduceLT, Nat.reduceLeDiff, Nat.reduceEqDiff, Int.reduceToNat, Int.reduceGT, Int.reduceGE, Int.reduceMul, Int.reduceLT, Int.reduceLE, Int.reduceAdd, Int.reduceSub, Int.reduceNeg, reduceCtorEq, Sf.T3, Sf.T4, Sf.T24, Sf.T26, Sf.T5, Sf.T22, Sf.T27, Sf.T89, Sf.T29, Sf.T31, Sf.T32, Sf.T9, nmC, nmV, rBE, ow, wrC, rw, recC, zr, rk]
theorem str_self (a : ByteArray) : (a != a) = false := by
  have : (a == a) = true := by
    first
    | exact beq_self_eq_true a
    | (show (a.data == a.data) = true; exact beq_self_eq_true _)
    | exact decide_eq_true rfl
  show (!(a == a)) = false
  rw [this]; rfl
theorem str_same (n : Nat) (B : List Int) : ((bytesOf n fun j => bE B j) != bytesOf n (bE B)) = false := by
  have e : (bytesOf n fun j => bE B j) = bytesOf n (bE B) := rfl
  rw [e]; exact str_self _
theorem same_v (a b : Rec) (ca cb : Nat) (hn : a.n ≤ 1000) (h : SameR a b) : VCall Try.prog 17 [.agg (recC a (.slice 0 a.n ca)), .agg (recC b (.slice 1 b.n cb))] [.row 9 a.n fun j => wrC (a.w j), .row 9 b.n fun j => wrC (b.w j)] fun v h => v = .bool true ∧ h = [.row 9 a.n fun j => wrC (a.w j), .row 9 b.n fun j => wrC (b.w j)] := by
  have := same_ok a b ca cb hn
  rw [decide_eq_true h] at this
  exact this
theorem may_v (cw : Nat) (r : Rec) (hn : r.n ≤ 1000) (hk : -128 ≤ r.k ∧ r.k ≤ 127) (hw : RecW r) (hM : MayR r) : VCall Try.prog 20 [.agg (recC r (.slice 0 r.n cw))] [.row 9 r.n fun j => wrC (r.w j)] fun v h => v = .bool true ∧ h = [.row 9 r.n fun j => wrC (r.w j)] := by
  have := may_ok cw r hn hk hw
  rw [decide_eq_true hM] at this
  exact this
theorem back_no_bad (r : Rec) (cw : Nat) (B : List Int) (cb : Nat) (hg : ¬ 40 < r.n) (hb : ¬ 300 < B.length) (hk : -128 ≤ r.k ∧ r.k ≤ 127) (hw : RecW r) (hB : Bys B) (hcb : B.length ≤ cb) (hM : ¬ MayR r) (hno : ∀ s, ¬ Good B s) : VCall Try.prog 5 [.agg (recC r (.slice 0 r.n cw)), .slice 1 B.length cb] [.row 9 r.n fun j => wrC (r.w j), rw B] fun v h => v = .bool true ∧ h = [.row 9 r.n fun j => wrC (r.w j), rw B] := by
  have h0 := great_v r cw false (decide_eq_false hg)
  have h1 := Bytes_ok cw r (by omega) hk hw
  rw [show rB r = [] from if_neg hM, show rE r = 2 from if_neg hM] at h1
  simp only [List.length_nil] at h1
  unfold recC ow at h1
  simp only [List.length_nil] at h1
  have hr := read_bad B cb hB (by omega) hcb hno
  unfold rw recC at hr
  unfold recC at h0 ⊢
  unfold rw
  refine VCall.trim 2 (Nat.le_of_ble_eq_true rfl) ?_
  refine wbody Try.func5 rfl (by kernel_rfl) ?_
  rw [Try.ntmps5, Try.results5]
  simp (implicitDefEqProofs := false) (maxSteps := 1000000) only [rX1, bd, bdL, bdB, bdH, bdT, front, VLe, VLeL, BLe, Phan, TLe, HLe, ro, Blk.owned, CLe, rr, given, mrg, exct, shr, ren, renL, renB, Nat.reduceBEq, Nat.reduceBNe, rX0, ofVal, ofVals, cellsV, vStore.isTup, eqL, eqV, Blk.deg, oneV, elApp, Nat.reduceAdd, Nat.reduceSub, Nat.reduceMul, Nat.reduceLT, Nat.reduceLeDiff, Nat.reduceEqDiff, Int.reduceToNat, Int.reduceGT, Int.reduceGE, Int.reduceMul, Int.reduceLT, Int.reduceLE, Int.reduceAdd, Int.reduceSub, Int.reduceNeg, reduceCtorEq, Sf.T3, Sf.T4, Sf.T24, Sf.T26, Sf.T5, Sf.T22, Sf.T27, Sf.T89, Sf.T29, Sf.T31, Sf.T32, Sf.T9, nmC, nmV, rBE, ow, wrC, rw, recC, zr, rk]
  refine vframe (h0) [0] (by rfl) (by simp only [rX2, bd, bdL, bdB, bdH, bdT, front, VLe, VLeL, BLe, Phan, TLe, HLe, ro, Blk.owned, CLe, rr, given, mrg, exct, shr, ren, renL, renB, Nat.reduceAdd, Nat.reduceSub, Nat.reduceLT, Nat.reduceLeDiff, Nat.reduceEqDiff, Nat.reduceBEq, Nat.reduceBNe, reduceCtorEq, nmC, nmV, rBE, ow, wrC, rw, recC, zr, rk]) ?_
  rintro v h ⟨rfl, rfl⟩ -
  simp (implicitDefEqProofs := false) (maxSteps := 1000000) only [rX2, bd, bdL, bdB, bdH, bdT, front, VLe, VLeL, BLe, Phan, TLe, HLe, ro, Blk.owned, CLe, rr, given, mrg, exct, shr, ren, renL, renB, Nat.reduceAdd, Nat.reduceSub, Nat.reduceLT, Nat.reduceLeDiff, Nat.reduceEqDiff, Nat.reduceBEq, Nat.reduceBNe, reduceCtorEq, nmC, nmV, rBE, ow, wrC, rw, recC, zr, rk, rX0, ofVal, ofVals, cellsV, vStore.isTup, eqL, eqV, Blk.deg, oneV, elApp, Nat.reduceAdd, Nat.reduceSub, Nat.reduceMul, Nat.reduceLT, Nat.reduceLeDiff, Nat.reduceEqDiff, Int.reduceToNat, Int.reduceGT, Int.reduceGE, Int.reduceMul, Int.reduceLT, Int.reduceLE, Int.reduceAdd, Int.reduceSub, Int.reduceNeg, reduceCtorEq, Sf.T3, Sf.T4, Sf.T24, Sf.T26, Sf.T5, Sf.T22, Sf.T27, Sf.T89, Sf.T29, Sf.T31, Sf.T32, Sf.T9, nmC, nmV, rBE, ow, wrC, rw, recC, zr, rk]
  refine ⟨fun h => by omega, fun _ => ?_⟩
  refine vframe (h1) [0] (by rfl) (by simp only [rX2, bd, bdL, bdB, bdH, bdT, front, VLe, VLeL, BLe, Phan, TLe, HLe, ro, Blk.owned, CLe, rr, given, mrg, exct, shr, ren, renL, renB, Nat.reduceAdd, Nat.reduceSub, Nat.reduceLT, Nat.reduceLeDiff, Nat.reduceEqDiff, Nat.reduceBEq, Nat.reduceBNe, reduceCtorEq, nmC, nmV, rBE, ow, wrC, rw, recC, zr, rk]) ?_
  rintro v h ⟨cap, hcap, rfl, rfl⟩ -
  simp (implicitDefEqProofs := false) (maxSteps := 1000000) only [rX2, bd, bdL, bdB, bdH, bdT, front, VLe, VLeL, BLe, Phan, TLe, HLe, ro, Blk.owned, CLe, rr, given, mrg, exct, shr, ren, renL, renB, Nat.reduceAdd, Nat.reduceSub, Nat.reduceLT, Nat.reduceLeDiff, Nat.reduceEqDiff, Nat.reduceBEq, Nat.reduceBNe, reduceCtorEq, nmC, nmV, rBE, ow, wrC, rw, recC, zr, rk, rX0, ofVal, ofVals, cellsV, vStore.isTup, eqL, eqV, Blk.deg, oneV, elApp, Nat.reduceAdd, Nat.reduceSub, Nat.reduceMul, Nat.reduceLT, Nat.reduceLeDiff, Nat.reduceEqDiff, Int.reduceToNat, Int.reduceGT, Int.reduceGE, Int.reduceMul, Int.reduceLT, Int.reduceLE, Int.reduceAdd, Int.reduceSub, Int.reduceNeg, reduceCtorEq, Sf.T3, Sf.T4, Sf.T24, Sf.T26, Sf.T5, Sf.T22, Sf.T27, Sf.T89, Sf.T29, Sf.T31, Sf.T32, Sf.T9, nmC, nmV, rBE, ow, wrC, rw, recC, zr, rk]
  refine ⟨fun h => by omega, fun _ => ?_⟩
  refine vframe (hr) [1] (by rfl) (by simp only [rX2, bd, bdL, bdB, bdH, bdT, front, VLe, VLeL, BLe, Phan, TLe, HLe, ro, Blk.owned, CLe, rr, given, mrg, exct, shr, ren, renL, renB, Nat.reduceAdd, Nat.reduceSub, Nat.reduceLT, Nat.reduceLeDiff, Nat.reduceEqDiff, Nat.reduceBEq, Nat.reduceBNe, reduceCtorEq, nmC, nmV, rBE, ow, wrC, rw, recC, zr, rk]) ?_
  rintro v h ⟨co2, rfl, rfl⟩ -
  simp (implicitDefEqProofs := false) (maxSteps := 1000000) only [rX2, bd, bdL, bdB, bdH, bdT, front, VLe, VLeL, BLe, Phan, TLe, HLe, ro, Blk.owned, CLe, rr, given, mrg, exct, shr, ren, renL, renB, Nat.reduceAdd, Nat.reduceSub, Nat.reduceLT, Nat.reduceLeDiff, Nat.reduceEqDiff, Nat.reduceBEq, Nat.reduceBNe, reduceCtorEq, nmC, nmV, rBE, ow, wrC, rw, recC, zr, rk, rX0, ofVal, ofVals, cellsV, vStore.isTup, eqL, eqV, Blk.deg, oneV, elApp, Nat.reduceAdd, Nat.reduceSub, Nat.reduceMul, Nat.reduceLT, Nat.reduceLeDiff, Nat.reduceEqDiff, Int.reduceToNat, Int.reduceGT, Int.reduceGE, Int.reduceMul, Int.reduceLT, Int.reduceLE, Int.reduceAdd, Int.reduceSub, Int.reduceNeg, reduceCtorEq, Sf.T3, Sf.T4, Sf.T24, Sf.T26, Sf.T5, Sf.T22, Sf.T27, Sf.T89, Sf.T29, Sf.T31, Sf.T32, Sf.T9, nmC, nmV, rBE, ow, wrC, rw, recC, zr, rk]
  refine ⟨fun h => by omega, fun _ => ?_⟩
  refine vframe (wakes_ok) [] (by rfl) (by simp only [rX2, bd, bdL, bdB, bdH, bdT, front, VLe, VLeL, BLe, Phan, TLe, HLe, ro, Blk.owned, CLe, rr, given, mrg, exct, shr, ren, renL, renB, Nat.reduceAdd, Nat.reduceSub, Nat.reduceLT, Nat.reduceLeDiff, Nat.reduceEqDiff, Nat.reduceBEq, Nat.reduceBNe, reduceCtorEq, nmC, nmV, rBE, ow, wrC, rw, recC, zr, rk]) ?_
  rintro v h ⟨rfl, rfl⟩ -
  simp (implicitDefEqProofs := false) (maxSteps := 1000000) only [rX2, bd, bdL, bdB, bdH, bdT, front, VLe, VLeL, BLe, Phan, TLe, HLe, ro, Blk.owned, CLe, rr, given, mrg, exct, shr, ren, renL, renB, Nat.reduceAdd, Nat.reduceSub, Nat.reduceLT, Nat.reduceLeDiff, Nat.reduceEqDiff, Nat.reduceBEq, Nat.reduceBNe, reduceCtorEq, nmC, nmV, rBE, ow, wrC, rw, recC, zr, rk, rX0, ofVal, ofVals, cellsV, vStore.isTup, eqL, eqV, Blk.deg, oneV, elApp, Nat.reduceAdd, Nat.reduceSub, Nat.reduceMul, Nat.reduceLT, Nat.reduceLeDiff, Nat.reduceEqDiff, Int.reduceToNat, Int.reduceGT, Int.reduceGE, Int.reduceMul, Int.reduceLT, Int.reduceLE, Int.reduceAdd, Int.reduceSub, Int.reduceNeg, reduceCtorEq, Sf.T3, Sf.T4, Sf.T24, Sf.T26, Sf.T5, Sf.T22, Sf.T27, Sf.T89, Sf.T29, Sf.T31, Sf.T32, Sf.T9, nmC, nmV, rBE, ow, wrC, rw, recC, zr, rk]
theorem back_yes_bad (r : Rec) (cw : Nat) (B : List Int) (cb : Nat) (hg : ¬ 40 < r.n) (hb : ¬ 300 < B.length) (hk : -128 ≤ r.k ∧ r.k ≤ 127) (hw : RecW r) (hB : Bys B) (hcb : B.length ≤ cb) (hM : MayR r) (hno : ∀ s, ¬ Good B s) : VCall Try.prog 5 [.agg (recC r (.slice 0 r.n cw)), .slice 1 B.length cb] [.row 9 r.n fun j => wrC (r.w j), rw B] fun v h => v = .bool true ∧ h = [.row 9 r.n fun j => wrC (r.w j), rw B] := by
  have h0 := great_v r cw false (decide_eq_false hg)
  have h1 := Bytes_ok cw r (by omega) hk hw
  have h3 := sectors_ok cw r (by omega) hk hw
  have hL := hM.length
  obtain ⟨s, hgood, hsame⟩ := hM.good
  rw [show rE r = 0 from if_pos hM] at h1 h3
  have hBL : Bys (rB r) := by unfold rB; rw [if_pos hM]; exact Bys.cons (u8_range _) (Bys.bX r hw)
  generalize hLe : rB r = L at h1 h3 hL hgood hBL
  obtain ⟨hsn, hsw, hs1, hs7⟩ := hgood.ok hBL
  obtain ⟨q, hq⟩ : ∃ q : Int, ((L.length : Int) + 45 - 1) / 45 = q := ⟨_, rfl⟩
  rw [hq] at h3
  have hq1 : 1 ≤ q ∧ q ≤ 2 ∧ (L.length : Int) ≤ q * 45 ∧ (q - 1) * 45 < (L.length : Int) := by omega
  have w1 : IntKind.i64.wrap (q * 45) = q * 45 := IntWalk.i64_in _ (by omega)
  have w2 : IntKind.i64.wrap (q - 1) = q - 1 := IntWalk.i64_in _ (by omega)
  have w3 : IntKind.i64.wrap ((q - 1) * 45) = (q - 1) * 45 := IntWalk.i64_in _ (by omega)
  have w4 : IntKind.i64.wrap ((L.length : Int) - 1) = ((L.length - 1 : Nat) : Int) := by rw [IntWalk.i64_in _ (by omega)]; omega
  have hMs : MayR s := hM.same hsame
  unfold recC ow at h1
  unfold recC at h3
  have hr := read_bad B cb hB (by omega) hcb hno
  unfold rw recC at hr
  unfold recC at h0 ⊢
  unfold rw
  refine VCall.trim 2 (Nat.le_of_ble_eq_true rfl) ?_
  refine wbody Try.func5 rfl (by kernel_rfl) ?_
  rw [Try.ntmps5, Try.results5]
  simp (implicitDefEqProofs := false) (maxSteps := 1000000) only [rX1, bd, bdL, bdB, bdH, bdT, front, VLe, VLeL, BLe, Phan, TLe, HLe, ro, Blk.owned, CLe, rr, given, mrg, exct, shr, ren, renL, renB, Nat.reduceBEq, Nat.reduceBNe, rX0, ofVal, ofVals, cellsV, vStore.isTup, eqL, eqV, Blk.deg, oneV, elApp, Nat.reduceAdd, Nat.reduceSub, Nat.reduceMul, Nat.reduceLT, Nat.reduceLeDiff, Nat.reduceEqDiff, Int.reduceToNat, Int.reduceGT, Int.reduceGE, Int.reduceMul, Int.reduceLT, Int.reduceLE, Int.reduceAdd, Int.reduceSub, Int.reduceNeg, reduceCtorEq, Sf.T3, Sf.T4, Sf.T24, Sf.T26, Sf.T5, Sf.T22, Sf.T27, Sf.T89, Sf.T29, Sf.T31, Sf.T32, Sf.T9, nmC, nmV, rBE, ow, wrC, rw, recC, zr, rk]
  refine vframe (h0) [0] (by rfl) (by simp only [rX2, bd, bdL, bdB, bdH, bdT, front, VLe, VLeL, BLe, Phan, TLe, HLe, ro, Blk.owned, CLe, rr, given, mrg, exct, shr, ren, renL, renB, Nat.reduceAdd, Nat.reduceSub, Nat.reduceLT, Nat.reduceLeDiff, Nat.reduceEqDiff, Nat.reduceBEq, Nat.reduceBNe, reduceCtorEq, nmC, nmV, rBE, ow, wrC, rw, recC, zr, rk]) ?_
  rintro v h ⟨rfl, rfl⟩ -
  simp (implicitDefEqProofs := false) (maxSteps := 1000000) only [rX2, bd, bdL, bdB, bdH, bdT, front, VLe, VLeL, BLe, Phan, TLe, HLe, ro, Blk.owned, CLe, rr, given, mrg, exct, shr, ren, renL, renB, Nat.reduceAdd, Nat.reduceSub, Nat.reduceLT, Nat.reduceLeDiff, Nat.reduceEqDiff, Nat.reduceBEq, Nat.reduceBNe, reduceCtorEq, nmC, nmV, rBE, ow, wrC, rw, recC, zr, rk, rX0, ofVal, ofVals, cellsV, vStore.isTup, eqL, eqV, Blk.deg, oneV, elApp, Nat.reduceAdd, Nat.reduceSub, Nat.reduceMul, Nat.reduceLT, Nat.reduceLeDiff, Nat.reduceEqDiff, Int.reduceToNat, Int.reduceGT, Int.reduceGE, Int.reduceMul, Int.reduceLT, Int.reduceLE, Int.reduceAdd, Int.reduceSub, Int.reduceNeg, reduceCtorEq, Sf.T3, Sf.T4, Sf.T24, Sf.T26, Sf.T5, Sf.T22, Sf.T27, Sf.T89, Sf.T29, Sf.T31, Sf.T32, Sf.T9, nmC, nmV, rBE, ow, wrC, rw, recC, zr, rk]
  refine ⟨fun h => by omega, fun _ => ?_⟩
  refine vframe (h1) [0] (by rfl) (by simp only [rX2, bd, bdL, bdB, bdH, bdT, front, VLe, VLeL, BLe, Phan, TLe, HLe, ro, Blk.owned, CLe, rr, given, mrg, exct, shr, ren, renL, renB, Nat.reduceAdd, Nat.reduceSub, Nat.reduceLT, Nat.reduceLeDiff, Nat.reduceEqDiff, Nat.reduceBEq, Nat.reduceBNe, reduceCtorEq, nmC, nmV, rBE, ow, wrC, rw, recC, zr, rk]) ?_
  rintro v h ⟨cap, hcap, rfl, rfl⟩ -
  simp (implicitDefEqProofs := false) (maxSteps := 1000000) only [rX2, bd, bdL, bdB, bdH, bdT, front, VLe, VLeL, BLe, Phan, TLe, HLe, ro, Blk.owned, CLe, rr, given, mrg, exct, shr, ren, renL, renB, Nat.reduceAdd, Nat.reduceSub, Nat.reduceLT, Nat.reduceLeDiff, Nat.reduceEqDiff, Nat.reduceBEq, Nat.reduceBNe, reduceCtorEq, nmC, nmV, rBE, ow, wrC, rw, recC, zr, rk, rX0, ofVal, ofVals, cellsV, vStore.isTup, eqL, eqV, Blk.deg, oneV, elApp, Nat.reduceAdd, Nat.reduceSub, Nat.reduceMul, Nat.reduceLT, Nat.reduceLeDiff, Nat.reduceEqDiff, Int.reduceToNat, Int.reduceGT, Int.reduceGE, Int.reduceMul, Int.reduceLT, Int.reduceLE, Int.reduceAdd, Int.reduceSub, Int.reduceNeg, reduceCtorEq, Sf.T3, Sf.T4, Sf.T24, Sf.T26, Sf.T5, Sf.T22, Sf.T27, Sf.T89, Sf.T29, Sf.T31, Sf.T32, Sf.T9, nmC, nmV, rBE, ow, wrC, rw, recC, zr, rk]
  have h4 := read_good L cap hBL (by omega) hcap s hgood
  unfold rw recC at h4
  refine vframe (h4) [3] (by rfl) (by simp only [rX2, bd, bdL, bdB, bdH, bdT, front, VLe, VLeL, BLe, Phan, TLe, HLe, ro, Blk.owned, CLe, rr, given, mrg, exct, shr, ren, renL, renB, Nat.reduceAdd, Nat.reduceSub, Nat.reduceLT, Nat.reduceLeDiff, Nat.reduceEqDiff, Nat.reduceBEq, Nat.reduceBNe, reduceCtorEq, nmC, nmV, rBE, ow, wrC, rw, recC, zr, rk]) ?_
  rintro v h ⟨co, rfl, rfl⟩ -
  simp (implicitDefEqProofs := false) (maxSteps := 1000000) only [rX2, bd, bdL, bdB, bdH, bdT, front, VLe, VLeL, BLe, Phan, TLe, HLe, ro, Blk.owned, CLe, rr, given, mrg, exct, shr, ren, renL, renB, Nat.reduceAdd, Nat.reduceSub, Nat.reduceLT, Nat.reduceLeDiff, Nat.reduceEqDiff, Nat.reduceBEq, Nat.reduceBNe, reduceCtorEq, nmC, nmV, rBE, ow, wrC, rw, recC, zr, rk, rX0, ofVal, ofVals, cellsV, vStore.isTup, eqL, eqV, Blk.deg, oneV, elApp, Nat.reduceAdd, Nat.reduceSub, Nat.reduceMul, Nat.reduceLT, Nat.reduceLeDiff, Nat.reduceEqDiff, Int.reduceToNat, Int.reduceGT, Int.reduceGE, Int.reduceMul, Int.reduceLT, Int.reduceLE, Int.reduceAdd, Int.reduceSub, Int.reduceNeg, reduceCtorEq, Sf.T3, Sf.T4, Sf.T24, Sf.T26, Sf.T5, Sf.T22, Sf.T27, Sf.T89, Sf.T29, Sf.T31, Sf.T32, Sf.T9, nmC, nmV, rBE, ow, wrC, rw, recC, zr, rk]
  refine vframe (h3) [0] (by rfl) (by simp only [rX2, bd, bdL, bdB, bdH, bdT, front, VLe, VLeL, BLe, Phan, TLe, HLe, ro, Blk.owned, CLe, rr, given, mrg, exct, shr, ren, renL, renB, Nat.reduceAdd, Nat.reduceSub, Nat.reduceLT, Nat.reduceLeDiff, Nat.reduceEqDiff, Nat.reduceBEq, Nat.reduceBNe, reduceCtorEq, nmC, nmV, rBE, ow, wrC, rw, recC, zr, rk]) ?_
  rintro v h ⟨rfl, rfl⟩ -
  simp (implicitDefEqProofs := false) (maxSteps := 1000000) only [rX2, bd, bdL, bdB, bdH, bdT, front, VLe, VLeL, BLe, Phan, TLe, HLe, ro, Blk.owned, CLe, rr, given, mrg, exct, shr, ren, renL, renB, Nat.reduceAdd, Nat.reduceSub, Nat.reduceLT, Nat.reduceLeDiff, Nat.reduceEqDiff, Nat.reduceBEq, Nat.reduceBNe, reduceCtorEq, nmC, nmV, rBE, ow, wrC, rw, recC, zr, rk, rX0, ofVal, ofVals, cellsV, vStore.isTup, eqL, eqV, Blk.deg, oneV, elApp, Nat.reduceAdd, Nat.reduceSub, Nat.reduceMul, Nat.reduceLT, Nat.reduceLeDiff, Nat.reduceEqDiff, Int.reduceToNat, Int.reduceGT, Int.reduceGE, Int.reduceMul, Int.reduceLT, Int.reduceLE, Int.reduceAdd, Int.reduceSub, Int.reduceNeg, reduceCtorEq, Sf.T3, Sf.T4, Sf.T24, Sf.T26, Sf.T5, Sf.T22, Sf.T27, Sf.T89, Sf.T29, Sf.T31, Sf.T32, Sf.T9, nmC, nmV, rBE, ow, wrC, rw, recC, zr, rk]
  have h5 := same_v s r co cw hsn hsame.symm
  unfold recC at h5
  refine vframe (h5) [4, 0] (by rfl) (by simp only [rX2, bd, bdL, bdB, bdH, bdT, front, VLe, VLeL, BLe, Phan, TLe, HLe, ro, Blk.owned, CLe, rr, given, mrg, exct, shr, ren, renL, renB, Nat.reduceAdd, Nat.reduceSub, Nat.reduceLT, Nat.reduceLeDiff, Nat.reduceEqDiff, Nat.reduceBEq, Nat.reduceBNe, reduceCtorEq, nmC, nmV, rBE, ow, wrC, rw, recC, zr, rk]) ?_
  rintro v h ⟨rfl, rfl⟩ -
  simp (implicitDefEqProofs := false) (maxSteps := 1000000) only [rX2, bd, bdL, bdB, bdH, bdT, front, VLe, VLeL, BLe, Phan, TLe, HLe, ro, Blk.owned, CLe, rr, given, mrg, exct, shr, ren, renL, renB, Nat.reduceAdd, Nat.reduceSub, Nat.reduceLT, Nat.reduceLeDiff, Nat.reduceEqDiff, Nat.reduceBEq, Nat.reduceBNe, reduceCtorEq, nmC, nmV, rBE, ow, wrC, rw, recC, zr, rk, rX0, ofVal, ofVals, cellsV, vStore.isTup, eqL, eqV, Blk.deg, oneV, elApp, Nat.reduceAdd, Nat.reduceSub, Nat.reduceMul, Nat.reduceLT, Nat.reduceLeDiff, Nat.reduceEqDiff, Int.reduceToNat, Int.reduceGT, Int.reduceGE, Int.reduceMul, Int.reduceLT, Int.reduceLE, Int.reduceAdd, Int.reduceSub, Int.reduceNeg, reduceCtorEq, Sf.T3, Sf.T4, Sf.T24, Sf.T26, Sf.T5, Sf.T22, Sf.T27, Sf.T89, Sf.T29, Sf.T31, Sf.T32, Sf.T9, nmC, nmV, rBE, ow, wrC, rw, recC, zr, rk]
  have h6 := may_v co s hsn (by omega) hsw hMs
  unfold recC at h6
  refine vframe (h6) [4] (by rfl) (by simp only [rX2, bd, bdL, bdB, bdH, bdT, front, VLe, VLeL, BLe, Phan, TLe, HLe, ro, Blk.owned, CLe, rr, given, mrg, exct, shr, ren, renL, renB, Nat.reduceAdd, Nat.reduceSub, Nat.reduceLT, Nat.reduceLeDiff, Nat.reduceEqDiff, Nat.reduceBEq, Nat.reduceBNe, reduceCtorEq, nmC, nmV, rBE, ow, wrC, rw, recC, zr, rk]) ?_
  rintro v h ⟨rfl, rfl⟩ -
  simp (implicitDefEqProofs := false) (maxSteps := 1000000) only [w1, w2, w3, w4, rX2, bd, bdL, bdB, bdH, bdT, front, VLe, VLeL, BLe, Phan, TLe, HLe, ro, Blk.owned, CLe, rr, given, mrg, exct, shr, ren, renL, renB, Nat.reduceAdd, Nat.reduceSub, Nat.reduceLT, Nat.reduceLeDiff, Nat.reduceEqDiff, Nat.reduceBEq, Nat.reduceBNe, reduceCtorEq, nmC, nmV, rBE, ow, wrC, rw, recC, zr, rk, rX0, ofVal, ofVals, cellsV, vStore.isTup, eqL, eqV, Blk.deg, oneV, elApp, Nat.reduceAdd, Nat.reduceSub, Nat.reduceMul, Nat.reduceLT, Nat.reduceLeDiff, Nat.reduceEqDiff, Int.reduceToNat, Int.reduceGT, Int.reduceGE, Int.reduceMul, Int.reduceLT, Int.reduceLE, Int.reduceAdd, Int.reduceSub, Int.reduceNeg, reduceCtorEq, Sf.T3, Sf.T4, Sf.T24, Sf.T26, Sf.T5, Sf.T22, Sf.T27, Sf.T89, Sf.T29, Sf.T31, Sf.T32, Sf.T9, nmC, nmV, rBE, ow, wrC, rw, recC, zr, rk]
  refine ⟨fun h => by omega, fun _ => ⟨fun h => by omega, fun _ => ⟨fun h => by omega, fun _ => ⟨fun h => by omega, fun _ => ⟨by omega, by omega, ?_⟩⟩⟩⟩⟩
  have hlen : (L.take (L.length - 1)).length = L.length - 1 := by rw [List.length_take]; omega
  have h7 := read_bad (L.take (L.length - 1)) cap (fun x hx => hBL x (List.mem_of_mem_take hx)) (by omega) (by omega) (fun s' hs' => by
    have := hs'.alone (T := L.drop (L.length - 1)) (fun x hx => hBL x (List.mem_of_mem_take hx)) (by rw [List.take_append_drop]; exact hgood)
    have h2 := congrArg List.length this
    rw [List.length_drop] at h2
    simp at h2; omega)
  unfold rw recC at h7
  rw [hlen] at h7
  refine vframe (h7) [6] (by rfl) (by simp only [rX2, bd, bdL, bdB, bdH, bdT, front, VLe, VLeL, BLe, Phan, TLe, HLe, ro, Blk.owned, CLe, rr, given, mrg, exct, shr, ren, renL, renB, Nat.reduceAdd, Nat.reduceSub, Nat.reduceLT, Nat.reduceLeDiff, Nat.reduceEqDiff, Nat.reduceBEq, Nat.reduceBNe, reduceCtorEq, nmC, nmV, rBE, ow, wrC, rw, recC, zr, rk]; exact fun j hj => bE_take L (L.length - 1) j hj) ?_
  rintro v h ⟨co3, rfl, rfl⟩ -
  simp (implicitDefEqProofs := false) (maxSteps := 1000000) only [rX2, bd, bdL, bdB, bdH, bdT, front, VLe, VLeL, BLe, Phan, TLe, HLe, ro, Blk.owned, CLe, rr, given, mrg, exct, shr, ren, renL, renB, Nat.reduceAdd, Nat.reduceSub, Nat.reduceLT, Nat.reduceLeDiff, Nat.reduceEqDiff, Nat.reduceBEq, Nat.reduceBNe, reduceCtorEq, nmC, nmV, rBE, ow, wrC, rw, recC, zr, rk, rX0, ofVal, ofVals, cellsV, vStore.isTup, eqL, eqV, Blk.deg, oneV, elApp, Nat.reduceAdd, Nat.reduceSub, Nat.reduceMul, Nat.reduceLT, Nat.reduceLeDiff, Nat.reduceEqDiff, Int.reduceToNat, Int.reduceGT, Int.reduceGE, Int.reduceMul, Int.reduceLT, Int.reduceLE, Int.reduceAdd, Int.reduceSub, Int.reduceNeg, reduceCtorEq, Sf.T3, Sf.T4, Sf.T24, Sf.T26, Sf.T5, Sf.T22, Sf.T27, Sf.T89, Sf.T29, Sf.T31, Sf.T32, Sf.T9, nmC, nmV, rBE, ow, wrC, rw, recC, zr, rk]
  refine vframe (hr) [1] (by rfl) (by simp only [rX2, bd, bdL, bdB, bdH, bdT, front, VLe, VLeL, BLe, Phan, TLe, HLe, ro, Blk.owned, CLe, rr, given, mrg, exct, shr, ren, renL, renB, Nat.reduceAdd, Nat.reduceSub, Nat.reduceLT, Nat.reduceLeDiff, Nat.reduceEqDiff, Nat.reduceBEq, Nat.reduceBNe, reduceCtorEq, nmC, nmV, rBE, ow, wrC, rw, recC, zr, rk]) ?_
  rintro v h ⟨co2, rfl, rfl⟩ -
  simp (implicitDefEqProofs := false) (maxSteps := 1000000) only [rX2, bd, bdL, bdB, bdH, bdT, front, VLe, VLeL, BLe, Phan, TLe, HLe, ro, Blk.owned, CLe, rr, given, mrg, exct, shr, ren, renL, renB, Nat.reduceAdd, Nat.reduceSub, Nat.reduceLT, Nat.reduceLeDiff, Nat.reduceEqDiff, Nat.reduceBEq, Nat.reduceBNe, reduceCtorEq, nmC, nmV, rBE, ow, wrC, rw, recC, zr, rk, rX0, ofVal, ofVals, cellsV, vStore.isTup, eqL, eqV, Blk.deg, oneV, elApp, Nat.reduceAdd, Nat.reduceSub, Nat.reduceMul, Nat.reduceLT, Nat.reduceLeDiff, Nat.reduceEqDiff, Int.reduceToNat, Int.reduceGT, Int.reduceGE, Int.reduceMul, Int.reduceLT, Int.reduceLE, Int.reduceAdd, Int.reduceSub, Int.reduceNeg, reduceCtorEq, Sf.T3, Sf.T4, Sf.T24, Sf.T26, Sf.T5, Sf.T22, Sf.T27, Sf.T89, Sf.T29, Sf.T31, Sf.T32, Sf.T9, nmC, nmV, rBE, ow, wrC, rw, recC, zr, rk]
  refine ⟨fun h => by omega, fun _ => ?_⟩
  refine vframe (wakes_ok) [] (by rfl) (by simp only [rX2, bd, bdL, bdB, bdH, bdT, front, VLe, VLeL, BLe, Phan, TLe, HLe, ro, Blk.owned, CLe, rr, given, mrg, exct, shr, ren, renL, renB, Nat.reduceAdd, Nat.reduceSub, Nat.reduceLT, Nat.reduceLeDiff, Nat.reduceEqDiff, Nat.reduceBEq, Nat.reduceBNe, reduceCtorEq, nmC, nmV, rBE, ow, wrC, rw, recC, zr, rk]) ?_
  rintro v h ⟨rfl, rfl⟩ -
  simp (implicitDefEqProofs := false) (maxSteps := 1000000) only [rX2, bd, bdL, bdB, bdH, bdT, front, VLe, VLeL, BLe, Phan, TLe, HLe, ro, Blk.owned, CLe, rr, given, mrg, exct, shr, ren, renL, renB, Nat.reduceAdd, Nat.reduceSub, Nat.reduceLT, Nat.reduceLeDiff, Nat.reduceEqDiff, Nat.reduceBEq, Nat.reduceBNe, reduceCtorEq, nmC, nmV, rBE, ow, wrC, rw, recC, zr, rk, rX0, ofVal, ofVals, cellsV, vStore.isTup, eqL, eqV, Blk.deg, oneV, elApp, Nat.reduceAdd, Nat.reduceSub, Nat.reduceMul, Nat.reduceLT, Nat.reduceLeDiff, Nat.reduceEqDiff, Int.reduceToNat, Int.reduceGT, Int.reduceGE, Int.reduceMul, Int.reduceLT, Int.reduceLE, Int.reduceAdd, Int.reduceSub, Int.reduceNeg, reduceCtorEq, Sf.T3, Sf.T4, Sf.T24, Sf.T26, Sf.T5, Sf.T22, Sf.T27, Sf.T89, Sf.T29, Sf.T31, Sf.T32, Sf.T9, nmC, nmV, rBE, ow, wrC, rw, recC, zr, rk]
theorem back_no_good (r : Rec) (cw : Nat) (B : List Int) (cb : Nat) (hg : ¬ 40 < r.n) (hb : ¬ 300 < B.length) (hk : -128 ≤ r.k ∧ r.k ≤ 127) (hw : RecW r) (hB : Bys B) (hcb : B.length ≤ cb) (hM : ¬ MayR r) (o : Rec) (hgo : Good B o) : VCall Try.prog 5 [.agg (recC r (.slice 0 r.n cw)), .slice 1 B.length cb] [.row 9 r.n fun j => wrC (r.w j), rw B] fun v h => v = .bool true ∧ h = [.row 9 r.n fun j => wrC (r.w j), rw B] := by
  have h0 := great_v r cw false (decide_eq_false hg)
  have h1 := Bytes_ok cw r (by omega) hk hw
  rw [show rB r = [] from if_neg hM, show rE r = 2 from if_neg hM] at h1
  simp only [List.length_nil] at h1
  unfold recC ow at h1
  simp only [List.length_nil] at h1
  have hr := read_good B cb hB (by omega) hcb o hgo
  obtain ⟨hon, how, ho1, ho7⟩ := hgo.ok hB
  have hown := hgo.own hB
  have hMo : MayR o := by obtain ⟨_, _, _, _, _, _, _, _, h⟩ := hgo; exact h
  unfold rw recC at hr
  unfold recC at h0 ⊢
  unfold rw
  refine VCall.trim 2 (Nat.le_of_ble_eq_true rfl) ?_
  refine wbody Try.func5 rfl (by kernel_rfl) ?_
  rw [Try.ntmps5, Try.results5]
  simp (implicitDefEqProofs := false) (maxSteps := 1000000) only [rX1, bd, bdL, bdB, bdH, bdT, front, VLe, VLeL, BLe, Phan, TLe, HLe, ro, Blk.owned, CLe, rr, given, mrg, exct, shr, ren, renL, renB, Nat.reduceBEq, Nat.reduceBNe, rX0, ofVal, ofVals, cellsV, vStore.isTup, eqL, eqV, Blk.deg, oneV, elApp, Nat.reduceAdd, Nat.reduceSub, Nat.reduceMul, Nat.reduceLT, Nat.reduceLeDiff, Nat.reduceEqDiff, Int.reduceToNat, Int.reduceGT, Int.reduceGE, Int.reduceMul, Int.reduceLT, Int.reduceLE, Int.reduceAdd, Int.reduceSub, Int.reduceNeg, reduceCtorEq, Sf.T3, Sf.T4, Sf.T24, Sf.T26, Sf.T5, Sf.T22, Sf.T27, Sf.T89, Sf.T29, Sf.T31, Sf.T32, Sf.T9, nmC, nmV, rBE, ow, wrC, rw, recC, zr, rk]
  refine vframe (h0) [0] (by rfl) (by simp only [rX2, bd, bdL, bdB, bdH, bdT, front, VLe, VLeL, BLe, Phan, TLe, HLe, ro, Blk.owned, CLe, rr, given, mrg, exct, shr, ren, renL, renB, Nat.reduceAdd, Nat.reduceSub, Nat.reduceLT, Nat.reduceLeDiff, Nat.reduceEqDiff, Nat.reduceBEq, Nat.reduceBNe, reduceCtorEq, nmC, nmV, rBE, ow, wrC, rw, recC, zr, rk]) ?_
  rintro v h ⟨rfl, rfl⟩ -
  simp (implicitDefEqProofs := false) (maxSteps := 1000000) only [rX2, bd, bdL, bdB, bdH, bdT, front, VLe, VLeL, BLe, Phan, TLe, HLe, ro, Blk.owned, CLe, rr, given, mrg, exct, shr, ren, renL, renB, Nat.reduceAdd, Nat.reduceSub, Nat.reduceLT, Nat.reduceLeDiff, Nat.reduceEqDiff, Nat.reduceBEq, Nat.reduceBNe, reduceCtorEq, nmC, nmV, rBE, ow, wrC, rw, recC, zr, rk, rX0, ofVal, ofVals, cellsV, vStore.isTup, eqL, eqV, Blk.deg, oneV, elApp, Nat.reduceAdd, Nat.reduceSub, Nat.reduceMul, Nat.reduceLT, Nat.reduceLeDiff, Nat.reduceEqDiff, Int.reduceToNat, Int.reduceGT, Int.reduceGE, Int.reduceMul, Int.reduceLT, Int.reduceLE, Int.reduceAdd, Int.reduceSub, Int.reduceNeg, reduceCtorEq, Sf.T3, Sf.T4, Sf.T24, Sf.T26, Sf.T5, Sf.T22, Sf.T27, Sf.T89, Sf.T29, Sf.T31, Sf.T32, Sf.T9, nmC, nmV, rBE, ow, wrC, rw, recC, zr, rk]
  refine ⟨fun h => by omega, fun _ => ?_⟩
  refine vframe (h1) [0] (by rfl) (by simp only [rX2, bd, bdL, bdB, bdH, bdT, front, VLe, VLeL, BLe, Phan, TLe, HLe, ro, Blk.owned, CLe, rr, given, mrg, exct, shr, ren, renL, renB, Nat.reduceAdd, Nat.reduceSub, Nat.reduceLT, Nat.reduceLeDiff, Nat.reduceEqDiff, Nat.reduceBEq, Nat.reduceBNe, reduceCtorEq, nmC, nmV, rBE, ow, wrC, rw, recC, zr, rk]) ?_
  rintro v h ⟨cap, hcap, rfl, rfl⟩ -
  simp (implicitDefEqProofs := false) (maxSteps := 1000000) only [rX2, bd, bdL, bdB, bdH, bdT, front, VLe, VLeL, BLe, Phan, TLe, HLe, ro, Blk.owned, CLe, rr, given, mrg, exct, shr, ren, renL, renB, Nat.reduceAdd, Nat.reduceSub, Nat.reduceLT, Nat.reduceLeDiff, Nat.reduceEqDiff, Nat.reduceBEq, Nat.reduceBNe, reduceCtorEq, nmC, nmV, rBE, ow, wrC, rw, recC, zr, rk, rX0, ofVal, ofVals, cellsV, vStore.isTup, eqL, eqV, Blk.deg, oneV, elApp, Nat.reduceAdd, Nat.reduceSub, Nat.reduceMul, Nat.reduceLT, Nat.reduceLeDiff, Nat.reduceEqDiff, Int.reduceToNat, Int.reduceGT, Int.reduceGE, Int.reduceMul, Int.reduceLT, Int.reduceLE, Int.reduceAdd, Int.reduceSub, Int.reduceNeg, reduceCtorEq, Sf.T3, Sf.T4, Sf.T24, Sf.T26, Sf.T5, Sf.T22, Sf.T27, Sf.T89, Sf.T29, Sf.T31, Sf.T32, Sf.T9, nmC, nmV, rBE, ow, wrC, rw, recC, zr, rk]
  refine ⟨fun h => by omega, fun _ => ?_⟩
  refine vframe (hr) [1] (by rfl) (by simp only [rX2, bd, bdL, bdB, bdH, bdT, front, VLe, VLeL, BLe, Phan, TLe, HLe, ro, Blk.owned, CLe, rr, given, mrg, exct, shr, ren, renL, renB, Nat.reduceAdd, Nat.reduceSub, Nat.reduceLT, Nat.reduceLeDiff, Nat.reduceEqDiff, Nat.reduceBEq, Nat.reduceBNe, reduceCtorEq, nmC, nmV, rBE, ow, wrC, rw, recC, zr, rk]) ?_
  rintro v h ⟨co2, rfl, rfl⟩ -
  simp (implicitDefEqProofs := false) (maxSteps := 1000000) only [rX2, bd, bdL, bdB, bdH, bdT, front, VLe, VLeL, BLe, Phan, TLe, HLe, ro, Blk.owned, CLe, rr, given, mrg, exct, shr, ren, renL, renB, Nat.reduceAdd, Nat.reduceSub, Nat.reduceLT, Nat.reduceLeDiff, Nat.reduceEqDiff, Nat.reduceBEq, Nat.reduceBNe, reduceCtorEq, nmC, nmV, rBE, ow, wrC, rw, recC, zr, rk, rX0, ofVal, ofVals, cellsV, vStore.isTup, eqL, eqV, Blk.deg, oneV, elApp, Nat.reduceAdd, Nat.reduceSub, Nat.reduceMul, Nat.reduceLT, Nat.reduceLeDiff, Nat.reduceEqDiff, Int.reduceToNat, Int.reduceGT, Int.reduceGE, Int.reduceMul, Int.reduceLT, Int.reduceLE, Int.reduceAdd, Int.reduceSub, Int.reduceNeg, reduceCtorEq, Sf.T3, Sf.T4, Sf.T24, Sf.T26, Sf.T5, Sf.T22, Sf.T27, Sf.T89, Sf.T29, Sf.T31, Sf.T32, Sf.T9, nmC, nmV, rBE, ow, wrC, rw, recC, zr, rk]
  have hb2 := Bytes_ok co2 o hon (by omega) how
  rw [hown, show rE o = 0 from if_pos hMo] at hb2
  unfold recC ow at hb2
  refine vframe (hb2) [4] (by rfl) (by simp only [rX2, bd, bdL, bdB, bdH, bdT, front, VLe, VLeL, BLe, Phan, TLe, HLe, ro, Blk.owned, CLe, rr, given, mrg, exct, shr, ren, renL, renB, Nat.reduceAdd, Nat.reduceSub, Nat.reduceLT, Nat.reduceLeDiff, Nat.reduceEqDiff, Nat.reduceBEq, Nat.reduceBNe, reduceCtorEq, nmC, nmV, rBE, ow, wrC, rw, recC, zr, rk]) ?_
  rintro v h ⟨cap2, hcap2, rfl, rfl⟩ -
  simp (implicitDefEqProofs := false) (maxSteps := 1000000) only [rX2, bd, bdL, bdB, bdH, bdT, front, VLe, VLeL, BLe, Phan, TLe, HLe, ro, Blk.owned, CLe, rr, given, mrg, exct, shr, ren, renL, renB, Nat.reduceAdd, Nat.reduceSub, Nat.reduceLT, Nat.reduceLeDiff, Nat.reduceEqDiff, Nat.reduceBEq, Nat.reduceBNe, reduceCtorEq, nmC, nmV, rBE, ow, wrC, rw, recC, zr, rk, rX0, ofVal, ofVals, cellsV, vStore.isTup, eqL, eqV, Blk.deg, oneV, elApp, Nat.reduceAdd, Nat.reduceSub, Nat.reduceMul, Nat.reduceLT, Nat.reduceLeDiff, Nat.reduceEqDiff, Int.reduceToNat, Int.reduceGT, Int.reduceGE, Int.reduceMul, Int.reduceLT, Int.reduceLE, Int.reduceAdd, Int.reduceSub, Int.reduceNeg, reduceCtorEq, Sf.T3, Sf.T4, Sf.T24, Sf.T26, Sf.T5, Sf.T22, Sf.T27, Sf.T89, Sf.T29, Sf.T31, Sf.T32, Sf.T9, nmC, nmV, rBE, ow, wrC, rw, recC, zr, rk]
  rw [str_same]
  simp (implicitDefEqProofs := false) (maxSteps := 1000000) only [rX2, bd, bdL, bdB, bdH, bdT, front, VLe, VLeL, BLe, Phan, TLe, HLe, ro, Blk.owned, CLe, rr, given, mrg, exct, shr, ren, renL, renB, Nat.reduceAdd, Nat.reduceSub, Nat.reduceLT, Nat.reduceLeDiff, Nat.reduceEqDiff, Nat.reduceBEq, Nat.reduceBNe, reduceCtorEq, nmC, nmV, rBE, ow, wrC, rw, recC, zr, rk, rX0, ofVal, ofVals, cellsV, vStore.isTup, eqL, eqV, Blk.deg, oneV, elApp, Nat.reduceAdd, Nat.reduceSub, Nat.reduceMul, Nat.reduceLT, Nat.reduceLeDiff, Nat.reduceEqDiff, Int.reduceToNat, Int.reduceGT, Int.reduceGE, Int.reduceMul, Int.reduceLT, Int.reduceLE, Int.reduceAdd, Int.reduceSub, Int.reduceNeg, reduceCtorEq, Sf.T3, Sf.T4, Sf.T24, Sf.T26, Sf.T5, Sf.T22, Sf.T27, Sf.T89, Sf.T29, Sf.T31, Sf.T32, Sf.T9, nmC, nmV, rBE, ow, wrC, rw, recC, zr, rk]
  refine vframe (wakes_ok) [] (by rfl) (by simp only [rX2, bd, bdL, bdB, bdH, bdT, front, VLe, VLeL, BLe, Phan, TLe, HLe, ro, Blk.owned, CLe, rr, given, mrg, exct, shr, ren, renL, renB, Nat.reduceAdd, Nat.reduceSub, Nat.reduceLT, Nat.reduceLeDiff, Nat.reduceEqDiff, Nat.reduceBEq, Nat.reduceBNe, reduceCtorEq, nmC, nmV, rBE, ow, wrC, rw, recC, zr, rk]) ?_
  rintro v h ⟨rfl, rfl⟩ -
  simp (implicitDefEqProofs := false) (maxSteps := 1000000) only [rX2, bd, bdL, bdB, bdH, bdT, front, VLe, VLeL, BLe, Phan, TLe, HLe, ro, Blk.owned, CLe, rr, given, mrg, exct, shr, ren, renL, renB, Nat.reduceAdd, Nat.reduceSub, Nat.reduceLT, Nat.reduceLeDiff, Nat.reduceEqDiff, Nat.reduceBEq, Nat.reduceBNe, reduceCtorEq, nmC, nmV, rBE, ow, wrC, rw, recC, zr, rk, rX0, ofVal, ofVals, cellsV, vStore.isTup, eqL, eqV, Blk.deg, oneV, elApp, Nat.reduceAdd, Nat.reduceSub, Nat.reduceMul, Nat.reduceLT, Nat.reduceLeDiff, Nat.reduceEqDiff, Int.reduceToNat, Int.reduceGT, Int.reduceGE, Int.reduceMul, Int.reduceLT, Int.reduceLE, Int.reduceAdd, Int.reduceSub, Int.reduceNeg, reduceCtorEq, Sf.T3, Sf.T4, Sf.T24, Sf.T26, Sf.T5, Sf.T22, Sf.T27, Sf.T89, Sf.T29, Sf.T31, Sf.T32, Sf.T9, nmC, nmV, rBE, ow, wrC, rw, recC, zr, rk]
theorem back_yes_good (r : Rec) (cw : Nat) (B : List Int) (cb : Nat) (hg : ¬ 40 < r.n) (hb : ¬ 300 < B.length) (hk : -128 ≤ r.k ∧ r.k ≤ 127) (hw : RecW r) (hB : Bys B) (hcb : B.length ≤ cb) (hM : MayR r) (o : Rec) (hgo : Good B o) : VCall Try.prog 5 [.agg (recC r (.slice 0 r.n cw)), .slice 1 B.length cb] [.row 9 r.n fun j => wrC (r.w j), rw B] fun v h => v = .bool true ∧ h = [.row 9 r.n fun j => wrC (r.w j), rw B] := by
  have h0 := great_v r cw false (decide_eq_false hg)
  have h1 := Bytes_ok cw r (by omega) hk hw
  have h3 := sectors_ok cw r (by omega) hk hw
  have hL := hM.length
  obtain ⟨s, hgood, hsame⟩ := hM.good
  rw [show rE r = 0 from if_pos hM] at h1 h3
  have hBL : Bys (rB r) := by unfold rB; rw [if_pos hM]; exact Bys.cons (u8_range _) (Bys.bX r hw)
  generalize hLe : rB r = L at h1 h3 hL hgood hBL
  obtain ⟨hsn, hsw, hs1, hs7⟩ := hgood.ok hBL
  obtain ⟨q, hq⟩ : ∃ q : Int, ((L.length : Int) + 45 - 1) / 45 = q := ⟨_, rfl⟩
  rw [hq] at h3
  have hq1 : 1 ≤ q ∧ q ≤ 2 ∧ (L.length : Int) ≤ q * 45 ∧ (q - 1) * 45 < (L.length : Int) := by omega
  have w1 : IntKind.i64.wrap (q * 45) = q * 45 := IntWalk.i64_in _ (by omega)
  have w2 : IntKind.i64.wrap (q - 1) = q - 1 := IntWalk.i64_in _ (by omega)
  have w3 : IntKind.i64.wrap ((q - 1) * 45) = (q - 1) * 45 := IntWalk.i64_in _ (by omega)
  have w4 : IntKind.i64.wrap ((L.length : Int) - 1) = ((L.length - 1 : Nat) : Int) := by rw [IntWalk.i64_in _ (by omega)]; omega
  have hMs : MayR s := hM.same hsame
  unfold recC ow at h1
  unfold recC at h3
  have hr := read_good B cb hB (by omega) hcb o hgo
  obtain ⟨hon, how, ho1, ho7⟩ := hgo.ok hB
  have hown := hgo.own hB
  have hMo : MayR o := by obtain ⟨_, _, _, _, _, _, _, _, h⟩ := hgo; exact h
  unfold rw recC at hr
  unfold recC at h0 ⊢
  unfold rw
  refine VCall.trim 2 (Nat.le_of_ble_eq_true rfl) ?_
  refine wbody Try.func5 rfl (by kernel_rfl) ?_
  rw [Try.ntmps5, Try.results5]
  simp (implicitDefEqProofs := false) (maxSteps := 1000000) only [rX1, bd, bdL, bdB, bdH, bdT, front, VLe, VLeL, BLe, Phan, TLe, HLe, ro, Blk.owned, CLe, rr, given, mrg, exct, shr, ren, renL, renB, Nat.reduceBEq, Nat.reduceBNe, rX0, ofVal, ofVals, cellsV, vStore.isTup, eqL, eqV, Blk.deg, oneV, elApp, Nat.reduceAdd, Nat.reduceSub, Nat.reduceMul, Nat.reduceLT, Nat.reduceLeDiff, Nat.reduceEqDiff, Int.reduceToNat, Int.reduceGT, Int.reduceGE, Int.reduceMul, Int.reduceLT, Int.reduceLE, Int.reduceAdd, Int.reduceSub, Int.reduceNeg, reduceCtorEq, Sf.T3, Sf.T4, Sf.T24, Sf.T26, Sf.T5, Sf.T22, Sf.T27, Sf.T89, Sf.T29, Sf.T31, Sf.T32, Sf.T9, nmC, nmV, rBE, ow, wrC, rw, recC, zr, rk]
  refine vframe (h0) [0] (by rfl) (by simp only [rX2, bd, bdL, bdB, bdH, bdT, front, VLe, VLeL, BLe, Phan, TLe, HLe, ro, Blk.owned, CLe, rr, given, mrg, exct, shr, ren, renL, renB, Nat.reduceAdd, Nat.reduceSub, Nat.reduceLT, Nat.reduceLeDiff, Nat.reduceEqDiff, Nat.reduceBEq, Nat.reduceBNe, reduceCtorEq, nmC, nmV, rBE, ow, wrC, rw, recC, zr, rk]) ?_
  rintro v h ⟨rfl, rfl⟩ -
  simp (implicitDefEqProofs := false) (maxSteps := 1000000) only [rX2, bd, bdL, bdB, bdH, bdT, front, VLe, VLeL, BLe, Phan, TLe, HLe, ro, Blk.owned, CLe, rr, given, mrg, exct, shr, ren, renL, renB, Nat.reduceAdd, Nat.reduceSub, Nat.reduceLT, Nat.reduceLeDiff, Nat.reduceEqDiff, Nat.reduceBEq, Nat.reduceBNe, reduceCtorEq, nmC, nmV, rBE, ow, wrC, rw, recC, zr, rk, rX0, ofVal, ofVals, cellsV, vStore.isTup, eqL, eqV, Blk.deg, oneV, elApp, Nat.reduceAdd, Nat.reduceSub, Nat.reduceMul, Nat.reduceLT, Nat.reduceLeDiff, Nat.reduceEqDiff, Int.reduceToNat, Int.reduceGT, Int.reduceGE, Int.reduceMul, Int.reduceLT, Int.reduceLE, Int.reduceAdd, Int.reduceSub, Int.reduceNeg, reduceCtorEq, Sf.T3, Sf.T4, Sf.T24, Sf.T26, Sf.T5, Sf.T22, Sf.T27, Sf.T89, Sf.T29, Sf.T31, Sf.T32, Sf.T9, nmC, nmV, rBE, ow, wrC, rw, recC, zr, rk]
  refine ⟨fun h => by omega, fun _ => ?_⟩
  refine vframe (h1) [0] (by rfl) (by simp only [rX2, bd, bdL, bdB, bdH, bdT, front, VLe, VLeL, BLe, Phan, TLe, HLe, ro, Blk.owned, CLe, rr, given, mrg, exct, shr, ren, renL, renB, Nat.reduceAdd, Nat.reduceSub, Nat.reduceLT, Nat.reduceLeDiff, Nat.reduceEqDiff, Nat.reduceBEq, Nat.reduceBNe, reduceCtorEq, nmC, nmV, rBE, ow, wrC, rw, recC, zr, rk]) ?_
  rintro v h ⟨cap, hcap, rfl, rfl⟩ -
  simp (implicitDefEqProofs := false) (maxSteps := 1000000) only [rX2, bd, bdL, bdB, bdH, bdT, front, VLe, VLeL, BLe, Phan, TLe, HLe, ro, Blk.owned, CLe, rr, given, mrg, exct, shr, ren, renL, renB, Nat.reduceAdd, Nat.reduceSub, Nat.reduceLT, Nat.reduceLeDiff, Nat.reduceEqDiff, Nat.reduceBEq, Nat.reduceBNe, reduceCtorEq, nmC, nmV, rBE, ow, wrC, rw, recC, zr, rk, rX0, ofVal, ofVals, cellsV, vStore.isTup, eqL, eqV, Blk.deg, oneV, elApp, Nat.reduceAdd, Nat.reduceSub, Nat.reduceMul, Nat.reduceLT, Nat.reduceLeDiff, Nat.reduceEqDiff, Int.reduceToNat, Int.reduceGT, Int.reduceGE, Int.reduceMul, Int.reduceLT, Int.reduceLE, Int.reduceAdd, Int.reduceSub, Int.reduceNeg, reduceCtorEq, Sf.T3, Sf.T4, Sf.T24, Sf.T26, Sf.T5, Sf.T22, Sf.T27, Sf.T89, Sf.T29, Sf.T31, Sf.T32, Sf.T9, nmC, nmV, rBE, ow, wrC, rw, recC, zr, rk]
  have h4 := read_good L cap hBL (by omega) hcap s hgood
  unfold rw recC at h4
  refine vframe (h4) [3] (by rfl) (by simp only [rX2, bd, bdL, bdB, bdH, bdT, front, VLe, VLeL, BLe, Phan, TLe, HLe, ro, Blk.owned, CLe, rr, given, mrg, exct, shr, ren, renL, renB, Nat.reduceAdd, Nat.reduceSub, Nat.reduceLT, Nat.reduceLeDiff, Nat.reduceEqDiff, Nat.reduceBEq, Nat.reduceBNe, reduceCtorEq, nmC, nmV, rBE, ow, wrC, rw, recC, zr, rk]) ?_
  rintro v h ⟨co, rfl, rfl⟩ -
  simp (implicitDefEqProofs := false) (maxSteps := 1000000) only [rX2, bd, bdL, bdB, bdH, bdT, front, VLe, VLeL, BLe, Phan, TLe, HLe, ro, Blk.owned, CLe, rr, given, mrg, exct, shr, ren, renL, renB, Nat.reduceAdd, Nat.reduceSub, Nat.reduceLT, Nat.reduceLeDiff, Nat.reduceEqDiff, Nat.reduceBEq, Nat.reduceBNe, reduceCtorEq, nmC, nmV, rBE, ow, wrC, rw, recC, zr, rk, rX0, ofVal, ofVals, cellsV, vStore.isTup, eqL, eqV, Blk.deg, oneV, elApp, Nat.reduceAdd, Nat.reduceSub, Nat.reduceMul, Nat.reduceLT, Nat.reduceLeDiff, Nat.reduceEqDiff, Int.reduceToNat, Int.reduceGT, Int.reduceGE, Int.reduceMul, Int.reduceLT, Int.reduceLE, Int.reduceAdd, Int.reduceSub, Int.reduceNeg, reduceCtorEq, Sf.T3, Sf.T4, Sf.T24, Sf.T26, Sf.T5, Sf.T22, Sf.T27, Sf.T89, Sf.T29, Sf.T31, Sf.T32, Sf.T9, nmC, nmV, rBE, ow, wrC, rw, recC, zr, rk]
  refine vframe (h3) [0] (by rfl) (by simp only [rX2, bd, bdL, bdB, bdH, bdT, front, VLe, VLeL, BLe, Phan, TLe, HLe, ro, Blk.owned, CLe, rr, given, mrg, exct, shr, ren, renL, renB, Nat.reduceAdd, Nat.reduceSub, Nat.reduceLT, Nat.reduceLeDiff, Nat.reduceEqDiff, Nat.reduceBEq, Nat.reduceBNe, reduceCtorEq, nmC, nmV, rBE, ow, wrC, rw, recC, zr, rk]) ?_
  rintro v h ⟨rfl, rfl⟩ -
  simp (implicitDefEqProofs := false) (maxSteps := 1000000) only [rX2, bd, bdL, bdB, bdH, bdT, front, VLe, VLeL, BLe, Phan, TLe, HLe, ro, Blk.owned, CLe, rr, given, mrg, exct, shr, ren, renL, renB, Nat.reduceAdd, Nat.reduceSub, Nat.reduceLT, Nat.reduceLeDiff, Nat.reduceEqDiff, Nat.reduceBEq, Nat.reduceBNe, reduceCtorEq, nmC, nmV, rBE, ow, wrC, rw, recC, zr, rk, rX0, ofVal, ofVals, cellsV, vStore.isTup, eqL, eqV, Blk.deg, oneV, elApp, Nat.reduceAdd, Nat.reduceSub, Nat.reduceMul, Nat.reduceLT, Nat.reduceLeDiff, Nat.reduceEqDiff, Int.reduceToNat, Int.reduceGT, Int.reduceGE, Int.reduceMul, Int.reduceLT, Int.reduceLE, Int.reduceAdd, Int.reduceSub, Int.reduceNeg, reduceCtorEq, Sf.T3, Sf.T4, Sf.T24, Sf.T26, Sf.T5, Sf.T22, Sf.T27, Sf.T89, Sf.T29, Sf.T31, Sf.T32, Sf.T9, nmC, nmV, rBE, ow, wrC, rw, recC, zr, rk]
  have h5 := same_v s r co cw hsn hsame.symm
  unfold recC at h5
  refine vframe (h5) [4, 0] (by rfl) (by simp only [rX2, bd, bdL, bdB, bdH, bdT, front, VLe, VLeL, BLe, Phan, TLe, HLe, ro, Blk.owned, CLe, rr, given, mrg, exct, shr, ren, renL, renB, Nat.reduceAdd, Nat.reduceSub, Nat.reduceLT, Nat.reduceLeDiff, Nat.reduceEqDiff, Nat.reduceBEq, Nat.reduceBNe, reduceCtorEq, nmC, nmV, rBE, ow, wrC, rw, recC, zr, rk]) ?_
  rintro v h ⟨rfl, rfl⟩ -
  simp (implicitDefEqProofs := false) (maxSteps := 1000000) only [rX2, bd, bdL, bdB, bdH, bdT, front, VLe, VLeL, BLe, Phan, TLe, HLe, ro, Blk.owned, CLe, rr, given, mrg, exct, shr, ren, renL, renB, Nat.reduceAdd, Nat.reduceSub, Nat.reduceLT, Nat.reduceLeDiff, Nat.reduceEqDiff, Nat.reduceBEq, Nat.reduceBNe, reduceCtorEq, nmC, nmV, rBE, ow, wrC, rw, recC, zr, rk, rX0, ofVal, ofVals, cellsV, vStore.isTup, eqL, eqV, Blk.deg, oneV, elApp, Nat.reduceAdd, Nat.reduceSub, Nat.reduceMul, Nat.reduceLT, Nat.reduceLeDiff, Nat.reduceEqDiff, Int.reduceToNat, Int.reduceGT, Int.reduceGE, Int.reduceMul, Int.reduceLT, Int.reduceLE, Int.reduceAdd, Int.reduceSub, Int.reduceNeg, reduceCtorEq, Sf.T3, Sf.T4, Sf.T24, Sf.T26, Sf.T5, Sf.T22, Sf.T27, Sf.T89, Sf.T29, Sf.T31, Sf.T32, Sf.T9, nmC, nmV, rBE, ow, wrC, rw, recC, zr, rk]
  have h6 := may_v co s hsn (by omega) hsw hMs
  unfold recC at h6
  refine vframe (h6) [4] (by rfl) (by simp only [rX2, bd, bdL, bdB, bdH, bdT, front, VLe, VLeL, BLe, Phan, TLe, HLe, ro, Blk.owned, CLe, rr, given, mrg, exct, shr, ren, renL, renB, Nat.reduceAdd, Nat.reduceSub, Nat.reduceLT, Nat.reduceLeDiff, Nat.reduceEqDiff, Nat.reduceBEq, Nat.reduceBNe, reduceCtorEq, nmC, nmV, rBE, ow, wrC, rw, recC, zr, rk]) ?_
  rintro v h ⟨rfl, rfl⟩ -
  simp (implicitDefEqProofs := false) (maxSteps := 1000000) only [w1, w2, w3, w4, rX2, bd, bdL, bdB, bdH, bdT, front, VLe, VLeL, BLe, Phan, TLe, HLe, ro, Blk.owned, CLe, rr, given, mrg, exct, shr, ren, renL, renB, Nat.reduceAdd, Nat.reduceSub, Nat.reduceLT, Nat.reduceLeDiff, Nat.reduceEqDiff, Nat.reduceBEq, Nat.reduceBNe, reduceCtorEq, nmC, nmV, rBE, ow, wrC, rw, recC, zr, rk, rX0, ofVal, ofVals, cellsV, vStore.isTup, eqL, eqV, Blk.deg, oneV, elApp, Nat.reduceAdd, Nat.reduceSub, Nat.reduceMul, Nat.reduceLT, Nat.reduceLeDiff, Nat.reduceEqDiff, Int.reduceToNat, Int.reduceGT, Int.reduceGE, Int.reduceMul, Int.reduceLT, Int.reduceLE, Int.reduceAdd, Int.reduceSub, Int.reduceNeg, reduceCtorEq, Sf.T3, Sf.T4, Sf.T24, Sf.T26, Sf.T5, Sf.T22, Sf.T27, Sf.T89, Sf.T29, Sf.T31, Sf.T32, Sf.T9, nmC, nmV, rBE, ow, wrC, rw, recC, zr, rk]
  refine ⟨fun h => by omega, fun _ => ⟨fun h => by omega, fun _ => ⟨fun h => by omega, fun _ => ⟨fun h => by omega, fun _ => ⟨by omega, by omega, ?_⟩⟩⟩⟩⟩
  have hlen : (L.take (L.length - 1)).length = L.length - 1 := by rw [List.length_take]; omega
  have h7 := read_bad (L.take (L.length - 1)) cap (fun x hx => hBL x (List.mem_of_mem_take hx)) (by omega) (by omega) (fun s' hs' => by
    have := hs'.alone (T := L.drop (L.length - 1)) (fun x hx => hBL x (List.mem_of_mem_take hx)) (by rw [List.take_append_drop]; exact hgood)
    have h2 := congrArg List.length this
    rw [List.length_drop] at h2
    simp at h2; omega)
  unfold rw recC at h7
  rw [hlen] at h7
  refine vframe (h7) [6] (by rfl) (by simp only [rX2, bd, bdL, bdB, bdH, bdT, front, VLe, VLeL, BLe, Phan, TLe, HLe, ro, Blk.owned, CLe, rr, given, mrg, exct, shr, ren, renL, renB, Nat.reduceAdd, Nat.reduceSub, Nat.reduceLT, Nat.reduceLeDiff, Nat.reduceEqDiff, Nat.reduceBEq, Nat.reduceBNe, reduceCtorEq, nmC, nmV, rBE, ow, wrC, rw, recC, zr, rk]; exact fun j hj => bE_take L (L.length - 1) j hj) ?_
  rintro v h ⟨co3, rfl, rfl⟩ -
  simp (implicitDefEqProofs := false) (maxSteps := 1000000) only [rX2, bd, bdL, bdB, bdH, bdT, front, VLe, VLeL, BLe, Phan, TLe, HLe, ro, Blk.owned, CLe, rr, given, mrg, exct, shr, ren, renL, renB, Nat.reduceAdd, Nat.reduceSub, Nat.reduceLT, Nat.reduceLeDiff, Nat.reduceEqDiff, Nat.reduceBEq, Nat.reduceBNe, reduceCtorEq, nmC, nmV, rBE, ow, wrC, rw, recC, zr, rk, rX0, ofVal, ofVals, cellsV, vStore.isTup, eqL, eqV, Blk.deg, oneV, elApp, Nat.reduceAdd, Nat.reduceSub, Nat.reduceMul, Nat.reduceLT, Nat.reduceLeDiff, Nat.reduceEqDiff, Int.reduceToNat, Int.reduceGT, Int.reduceGE, Int.reduceMul, Int.reduceLT, Int.reduceLE, Int.reduceAdd, Int.reduceSub, Int.reduceNeg, reduceCtorEq, Sf.T3, Sf.T4, Sf.T24, Sf.T26, Sf.T5, Sf.T22, Sf.T27, Sf.T89, Sf.T29, Sf.T31, Sf.T32, Sf.T9, nmC, nmV, rBE, ow, wrC, rw, recC, zr, rk]
  refine vframe (hr) [1] (by rfl) (by simp only [rX2, bd, bdL, bdB, bdH, bdT, front, VLe, VLeL, BLe, Phan, TLe, HLe, ro, Blk.owned, CLe, rr, given, mrg, exct, shr, ren, renL, renB, Nat.reduceAdd, Nat.reduceSub, Nat.reduceLT, Nat.reduceLeDiff, Nat.reduceEqDiff, Nat.reduceBEq, Nat.reduceBNe, reduceCtorEq, nmC, nmV, rBE, ow, wrC, rw, recC, zr, rk]) ?_
  rintro v h ⟨co2, rfl, rfl⟩ -
  simp (implicitDefEqProofs := false) (maxSteps := 1000000) only [rX2, bd, bdL, bdB, bdH, bdT, front, VLe, VLeL, BLe, Phan, TLe, HLe, ro, Blk.owned, CLe, rr, given, mrg, exct, shr, ren, renL, renB, Nat.reduceAdd, Nat.reduceSub, Nat.reduceLT, Nat.reduceLeDiff, Nat.reduceEqDiff, Nat.reduceBEq, Nat.reduceBNe, reduceCtorEq, nmC, nmV, rBE, ow, wrC, rw, recC, zr, rk, rX0, ofVal, ofVals, cellsV, vStore.isTup, eqL, eqV, Blk.deg, oneV, elApp, Nat.reduceAdd, Nat.reduceSub, Nat.reduceMul, Nat.reduceLT, Nat.reduceLeDiff, Nat.reduceEqDiff, Int.reduceToNat, Int.reduceGT, Int.reduceGE, Int.reduceMul, Int.reduceLT, Int.reduceLE, Int.reduceAdd, Int.reduceSub, Int.reduceNeg, reduceCtorEq, Sf.T3, Sf.T4, Sf.T24, Sf.T26, Sf.T5, Sf.T22, Sf.T27, Sf.T89, Sf.T29, Sf.T31, Sf.T32, Sf.T9, nmC, nmV, rBE, ow, wrC, rw, recC, zr, rk]
  have hb2 := Bytes_ok co2 o hon (by omega) how
  rw [hown, show rE o = 0 from if_pos hMo] at hb2
  unfold recC ow at hb2
  refine vframe (hb2) [8] (by rfl) (by simp only [rX2, bd, bdL, bdB, bdH, bdT, front, VLe, VLeL, BLe, Phan, TLe, HLe, ro, Blk.owned, CLe, rr, given, mrg, exct, shr, ren, renL, renB, Nat.reduceAdd, Nat.reduceSub, Nat.reduceLT, Nat.reduceLeDiff, Nat.reduceEqDiff, Nat.reduceBEq, Nat.reduceBNe, reduceCtorEq, nmC, nmV, rBE, ow, wrC, rw, recC, zr, rk]) ?_
  rintro v h ⟨cap2, hcap2, rfl, rfl⟩ -
  simp (implicitDefEqProofs := false) (maxSteps := 1000000) only [rX2, bd, bdL, bdB, bdH, bdT, front, VLe, VLeL, BLe, Phan, TLe, HLe, ro, Blk.owned, CLe, rr, given, mrg, exct, shr, ren, renL, renB, Nat.reduceAdd, Nat.reduceSub, Nat.reduceLT, Nat.reduceLeDiff, Nat.reduceEqDiff, Nat.reduceBEq, Nat.reduceBNe, reduceCtorEq, nmC, nmV, rBE, ow, wrC, rw, recC, zr, rk, rX0, ofVal, ofVals, cellsV, vStore.isTup, eqL, eqV, Blk.deg, oneV, elApp, Nat.reduceAdd, Nat.reduceSub, Nat.reduceMul, Nat.reduceLT, Nat.reduceLeDiff, Nat.reduceEqDiff, Int.reduceToNat, Int.reduceGT, Int.reduceGE, Int.reduceMul, Int.reduceLT, Int.reduceLE, Int.reduceAdd, Int.reduceSub, Int.reduceNeg, reduceCtorEq, Sf.T3, Sf.T4, Sf.T24, Sf.T26, Sf.T5, Sf.T22, Sf.T27, Sf.T89, Sf.T29, Sf.T31, Sf.T32, Sf.T9, nmC, nmV, rBE, ow, wrC, rw, recC, zr, rk]
  rw [str_same]
  simp (implicitDefEqProofs := false) (maxSteps := 1000000) only [rX2, bd, bdL, bdB, bdH, bdT, front, VLe, VLeL, BLe, Phan, TLe, HLe, ro, Blk.owned, CLe, rr, given, mrg, exct, shr, ren, renL, renB, Nat.reduceAdd, Nat.reduceSub, Nat.reduceLT, Nat.reduceLeDiff, Nat.reduceEqDiff, Nat.reduceBEq, Nat.reduceBNe, reduceCtorEq, nmC, nmV, rBE, ow, wrC, rw, recC, zr, rk, rX0, ofVal, ofVals, cellsV, vStore.isTup, eqL, eqV, Blk.deg, oneV, elApp, Nat.reduceAdd, Nat.reduceSub, Nat.reduceMul, Nat.reduceLT, Nat.reduceLeDiff, Nat.reduceEqDiff, Int.reduceToNat, Int.reduceGT, Int.reduceGE, Int.reduceMul, Int.reduceLT, Int.reduceLE, Int.reduceAdd, Int.reduceSub, Int.reduceNeg, reduceCtorEq, Sf.T3, Sf.T4, Sf.T24, Sf.T26, Sf.T5, Sf.T22, Sf.T27, Sf.T89, Sf.T29, Sf.T31, Sf.T32, Sf.T9, nmC, nmV, rBE, ow, wrC, rw, recC, zr, rk]
  refine vframe (wakes_ok) [] (by rfl) (by simp only [rX2, bd, bdL, bdB, bdH, bdT, front, VLe, VLeL, BLe, Phan, TLe, HLe, ro, Blk.owned, CLe, rr, given, mrg, exct, shr, ren, renL, renB, Nat.reduceAdd, Nat.reduceSub, Nat.reduceLT, Nat.reduceLeDiff, Nat.reduceEqDiff, Nat.reduceBEq, Nat.reduceBNe, reduceCtorEq, nmC, nmV, rBE, ow, wrC, rw, recC, zr, rk]) ?_
  rintro v h ⟨rfl, rfl⟩ -
  simp (implicitDefEqProofs := false) (maxSteps := 1000000) only [rX2, bd, bdL, bdB, bdH, bdT, front, VLe, VLeL, BLe, Phan, TLe, HLe, ro, Blk.owned, CLe, rr, given, mrg, exct, shr, ren, renL, renB, Nat.reduceAdd, Nat.reduceSub, Nat.reduceLT, Nat.reduceLeDiff, Nat.reduceEqDiff, Nat.reduceBEq, Nat.reduceBNe, reduceCtorEq, nmC, nmV, rBE, ow, wrC, rw, recC, zr, rk, rX0, ofVal, ofVals, cellsV, vStore.isTup, eqL, eqV, Blk.deg, oneV, elApp, Nat.reduceAdd, Nat.reduceSub, Nat.reduceMul, Nat.reduceLT, Nat.reduceLeDiff, Nat.reduceEqDiff, Int.reduceToNat, Int.reduceGT, Int.reduceGE, Int.reduceMul, Int.reduceLT, Int.reduceLE, Int.reduceAdd, Int.reduceSub, Int.reduceNeg, reduceCtorEq, Sf.T3, Sf.T4, Sf.T24, Sf.T26, Sf.T5, Sf.T22, Sf.T27, Sf.T89, Sf.T29, Sf.T31, Sf.T32, Sf.T9, nmC, nmV, rBE, ow, wrC, rw, recC, zr, rk]
theorem back_ok (r : Rec) (cw : Nat) (B : List Int) (cb : Nat) (hk : -128 ≤ r.k ∧ r.k ≤ 127) (hw : RecW r) (hB : Bys B) (hcb : B.length ≤ cb) : VCall Try.prog 5 [.agg (recC r (.slice 0 r.n cw)), .slice 1 B.length cb] [.row 9 r.n fun j => wrC (r.w j), rw B] fun v h => v = .bool true ∧ h = [.row 9 r.n fun j => wrC (r.w j), rw B] := by
  by_cases hg : 40 < r.n
  · exact back_great r cw B cb hg
  by_cases hb : 300 < B.length
  · exact back_long r cw B cb hg hb
  by_cases hM : MayR r
  · by_cases hG : ∃ o, Good B o
    · obtain ⟨o, ho⟩ := hG
      exact back_yes_good r cw B cb hg hb hk hw hB hcb hM o ho
    · exact back_yes_bad r cw B cb hg hb hk hw hB hcb hM fun s hs => hG ⟨s, hs⟩
  · by_cases hG : ∃ o, Good B o
    · obtain ⟨o, ho⟩ := hG
      exact back_no_good r cw B cb hg hb hk hw hB hcb hM o ho
    · exact back_no_bad r cw B cb hg hb hk hw hB hcb hM fun s hs => hG ⟨s, hs⟩
end Go.Proofs.Ytnlammgemaapnaa
