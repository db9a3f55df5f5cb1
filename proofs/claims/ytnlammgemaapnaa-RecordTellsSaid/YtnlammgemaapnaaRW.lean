/- Layer 7: RecordShort. -/
import Derived.Test.YtnlammgemaapnaaRV
import Derived.Test.YtnlammgemaapnaaRQ
set_option linter.unusedSimpArgs false
set_option linter.unusedVariables false
set_option maxRecDepth 100000
namespace Go.Proofs.Ytnlammgemaapnaa
open Go Go.Sx
theorem great_ok (r : Rec) (cw : Nat) : VCall Try.prog 18 [.agg (recC r (.slice 0 r.n cw))] [.row 9 r.n fun j => wrC (r.w j)] fun v h => v = .bool (decide (40 < r.n)) ∧ h = [.row 9 r.n fun j => wrC (r.w j)] := by
  unfold recC
  refine VCall.trim 1 (Nat.le_of_ble_eq_true rfl) ?_
  refine wbody Try.func18 rfl (by kernel_rfl) ?_
  rw [Try.ntmps18, Try.results18]
  simp (implicitDefEqProofs := false) (maxSteps := 1000000) only [rX1, bd, bdL, bdB, bdH, bdT, front, VLe, VLeL, BLe, Phan, TLe, HLe, ro, Blk.owned, CLe, rr, given, mrg, exct, shr, ren, renL, renB, Nat.reduceBEq, Nat.reduceBNe, rX0, ofVal, ofVals, cellsV, vStore.isTup, eqL, eqV, Blk.deg, oneV, elApp, Nat.reduceAdd, Nat.reduceSub, Nat.reduceMul, Nat.reduceLT, Nat.reduceLeDiff, Nat.reduceEqDiff, Int.reduceToNat, Int.reduceGT, Int.reduceGE, Int.reduceMul, Int.reduceLT, Int.reduceLE, Int.reduceAdd, Int.reduceSub, Int.reduceNeg, reduceCtorEq, Sf.T3, Sf.T4, Sf.T24, Sf.T26, Sf.T5, Sf.T22, Sf.T27, Sf.T89, Sf.T29, Sf.T31, Sf.T32, nmC, nmV, rBE, ow, wrC, rw, recC, zr, rk]
  exact congrArg VV.bool (decide_eq_decide.2 (by omega))
theorem great_v (r : Rec) (cw : Nat) (b : Bool) (h : decide (40 < r.n) = b) : VCall Try.prog 18 [.agg (recC r (.slice 0 r.n cw))] [.row 9 r.n fun j => wrC (r.w j)] fun v h => v = .bool b ∧ h = [.row 9 r.n fun j => wrC (r.w j)] := by
  have := great_ok r cw
  rw [h] at this; exact this
theorem read_bad (B : List Int) (cap : Nat) (hB : Bys B) (hl : B.length ≤ 1000) (hc : B.length ≤ cap) (hno : ∀ r', ¬ Good B r') : VCall Try.prog 15 [.slice 0 B.length cap] [rw B] fun v h =>
    ∃ co, v = .tup [.agg (recC zr (.slice 1 zr.n co)), .int .i64 40] ∧ h = [rw B, .own 89 9 zr.n co fun j => wrC (zr.w j)] :=
  (read_ok B cap hB hl hc).mono fun v h hh => by
    obtain ⟨r, e, co, ⟨hg, _⟩ | ⟨_, rfl, rfl⟩, hv, hh⟩ := hh
    · exact (hno _ hg).elim
    · exact ⟨co, hv, hh⟩
theorem read_good (B : List Int) (cap : Nat) (hB : Bys B) (hl : B.length ≤ 1000) (hc : B.length ≤ cap) (s : Rec) (hG : Good B s) : VCall Try.prog 15 [.slice 0 B.length cap] [rw B] fun v h =>
    ∃ co, v = .tup [.agg (recC s (.slice 1 s.n co)), .int .i64 0] ∧ h = [rw B, .own 89 9 s.n co fun j => wrC (s.w j)] :=
  (read_ok B cap hB hl hc).mono fun v h hh => by
    obtain ⟨r, e, co, ⟨hg, rfl⟩ | ⟨hn, _⟩, hv, hh⟩ := hh
    · obtain rfl := hG.uniq hg
      exact ⟨co, hv, hh⟩
    · exact (hn _ hG).elim
theorem short_great (r : Rec) (cw : Nat) (n : Int) (B : List Int) (cb : Nat) (hg : 40 < r.n) :
    VCall Try.prog 4 [.agg (recC r (.slice 0 r.n cw)), .int .i64 n, .slice 1 B.length cb] [.row 9 r.n fun j => wrC (r.w j), rw B] fun v h => v = .bool true ∧ h = [.row 9 r.n fun j => wrC (r.w j), rw B] := by
  have h0 := great_v r cw true (decide_eq_true hg)
  unfold recC at h0 ⊢
  unfold rw
  refine VCall.trim 2 (Nat.le_of_ble_eq_true rfl) ?_
  refine wbody Try.func4 rfl (by kernel_rfl) ?_
  rw [Try.ntmps4, Try.results4]
  simp (implicitDefEqProofs := false) (maxSteps := 1000000) only [rX1, bd, bdL, bdB, bdH, bdT, front, VLe, VLeL, BLe, Phan, TLe, HLe, ro, Blk.owned, CLe, rr, given, mrg, exct, shr, ren, renL, renB, Nat.reduceBEq, Nat.reduceBNe, rX0, ofVal, ofVals, cellsV, vStore.isTup, eqL, eqV, Blk.deg, oneV, elApp, Nat.reduceAdd, Nat.reduceSub, Nat.reduceMul, Nat.reduceLT, Nat.reduceLeDiff, Nat.reduceEqDiff, Int.reduceToNat, Int.reduceGT, Int.reduceGE, Int.reduceMul, Int.reduceLT, Int.reduceLE, Int.reduceAdd, Int.reduceSub, Int.reduceNeg, reduceCtorEq, Sf.T3, Sf.T4, Sf.T24, Sf.T26, Sf.T5, Sf.T22, Sf.T27, Sf.T89, Sf.T29, Sf.T31, Sf.T32, nmC, nmV, rBE, ow, wrC, rw, recC, zr, rk]
  refine vframe (h0) [0] (by rfl) (by simp only [rX2, bd, bdL, bdB, bdH, bdT, front, VLe, VLeL, BLe, Phan, TLe, HLe, ro, Blk.owned, CLe, rr, given, mrg, exct, shr, ren, renL, renB, Nat.reduceAdd, Nat.reduceSub, Nat.reduceLT, Nat.reduceLeDiff, Nat.reduceEqDiff, Nat.reduceBEq, Nat.reduceBNe, reduceCtorEq, nmC, nmV, rBE, ow, wrC, rw, recC, zr, rk]) ?_
  rintro v h ⟨rfl, rfl⟩ -
  simp (implicitDefEqProofs := false) (maxSteps := 1000000) only [rX2, bd, bdL, bdB, bdH, bdT, front, VLe, VLeL, BLe, Phan, TLe, HLe, ro, Blk.owned, CLe, rr, given, mrg, exct, shr, ren, renL, renB, Nat.reduceAdd, Nat.reduceSub, Nat.reduceLT, Nat.reduceLeDiff, Nat.reduceEqDiff, Nat.reduceBEq, Nat.reduceBNe, reduceCtorEq, nmC, nmV, rBE, ow, wrC, rw, recC, zr, rk, rX0, ofVal, ofVals, cellsV, vStore.isTup, eqL, eqV, Blk.deg, oneV, elApp, Nat.reduceAdd, Nat.reduceSub, Nat.reduceMul, Nat.reduceLT, Nat.reduceLeDiff, Nat.reduceEqDiff, Int.reduceToNat, Int.reduceGT, Int.reduceGE, Int.reduceMul, Int.reduceLT, Int.reduceLE, Int.reduceAdd, Int.reduceSub, Int.reduceNeg, reduceCtorEq, Sf.T3, Sf.T4, Sf.T24, Sf.T26, Sf.T5, Sf.T22, Sf.T27, Sf.T89, Sf.T29, Sf.T31, Sf.T32, nmC, nmV, rBE, ow, wrC, rw, recC, zr, rk]
  refine vframe (wakes_ok) [] (by rfl) (by simp only [rX2, bd, bdL, bdB, bdH, bdT, front, VLe, VLeL, BLe, Phan, TLe, HLe, ro, Blk.owned, CLe, rr, given, mrg, exct, shr, ren, renL, renB, Nat.reduceAdd, Nat.reduceSub, Nat.reduceLT, Nat.reduceLeDiff, Nat.reduceEqDiff, Nat.reduceBEq, Nat.reduceBNe, reduceCtorEq, nmC, nmV, rBE, ow, wrC, rw, recC, zr, rk]) ?_
  rintro v h ⟨rfl, rfl⟩ -
  simp (implicitDefEqProofs := false) (maxSteps := 1000000) only [rX2, bd, bdL, bdB, bdH, bdT, front, VLe, VLeL, BLe, Phan, TLe, HLe, ro, Blk.owned, CLe, rr, given, mrg, exct, shr, ren, renL, renB, Nat.reduceAdd, Nat.reduceSub, Nat.reduceLT, Nat.reduceLeDiff, Nat.reduceEqDiff, Nat.reduceBEq, Nat.reduceBNe, reduceCtorEq, nmC, nmV, rBE, ow, wrC, rw, recC, zr, rk, rX0, ofVal, ofVals, cellsV, vStore.isTup, eqL, eqV, Blk.deg, oneV, elApp, Nat.reduceAdd, Nat.reduceSub, Nat.reduceMul, Nat.reduceLT, Nat.reduceLeDiff, Nat.reduceEqDiff, Int.reduceToNat, Int.reduceGT, Int.reduceGE, Int.reduceMul, Int.reduceLT, Int.reduceLE, Int.reduceAdd, Int.reduceSub, Int.reduceNeg, reduceCtorEq, Sf.T3, Sf.T4, Sf.T24, Sf.T26, Sf.T5, Sf.T22, Sf.T27, Sf.T89, Sf.T29, Sf.T31, Sf.T32, nmC, nmV, rBE, ow, wrC, rw, recC, zr, rk]
theorem short_long (r : Rec) (cw : Nat) (n : Int) (B : List Int) (cb : Nat) (hg : ¬ 40 < r.n) (hb : 100 < B.length) :
    VCall Try.prog 4 [.agg (recC r (.slice 0 r.n cw)), .int .i64 n, .slice 1 B.length cb] [.row 9 r.n fun j => wrC (r.w j), rw B] fun v h => v = .bool true ∧ h = [.row 9 r.n fun j => wrC (r.w j), rw B] := by
  have h0 := great_v r cw false (decide_eq_false hg)
  unfold recC at h0 ⊢
  unfold rw
  refine VCall.trim 2 (Nat.le_of_ble_eq_true rfl) ?_
  refine wbody Try.func4 rfl (by kernel_rfl) ?_
  rw [Try.ntmps4, Try.results4]
  simp (implicitDefEqProofs := false) (maxSteps := 1000000) only [rX1, bd, bdL, bdB, bdH, bdT, front, VLe, VLeL, BLe, Phan, TLe, HLe, ro, Blk.owned, CLe, rr, given, mrg, exct, shr, ren, renL, renB, Nat.reduceBEq, Nat.reduceBNe, rX0, ofVal, ofVals, cellsV, vStore.isTup, eqL, eqV, Blk.deg, oneV, elApp, Nat.reduceAdd, Nat.reduceSub, Nat.reduceMul, Nat.reduceLT, Nat.reduceLeDiff, Nat.reduceEqDiff, Int.reduceToNat, Int.reduceGT, Int.reduceGE, Int.reduceMul, Int.reduceLT, Int.reduceLE, Int.reduceAdd, Int.reduceSub, Int.reduceNeg, reduceCtorEq, Sf.T3, Sf.T4, Sf.T24, Sf.T26, Sf.T5, Sf.T22, Sf.T27, Sf.T89, Sf.T29, Sf.T31, Sf.T32, nmC, nmV, rBE, ow, wrC, rw, recC, zr, rk]
  refine vframe (h0) [0] (by rfl) (by simp only [rX2, bd, bdL, bdB, bdH, bdT, front, VLe, VLeL, BLe, Phan, TLe, HLe, ro, Blk.owned, CLe, rr, given, mrg, exct, shr, ren, renL, renB, Nat.reduceAdd, Nat.reduceSub, Nat.reduceLT, Nat.reduceLeDiff, Nat.reduceEqDiff, Nat.reduceBEq, Nat.reduceBNe, reduceCtorEq, nmC, nmV, rBE, ow, wrC, rw, recC, zr, rk]) ?_
  rintro v h ⟨rfl, rfl⟩ -
  simp (implicitDefEqProofs := false) (maxSteps := 1000000) only [rX2, bd, bdL, bdB, bdH, bdT, front, VLe, VLeL, BLe, Phan, TLe, HLe, ro, Blk.owned, CLe, rr, given, mrg, exct, shr, ren, renL, renB, Nat.reduceAdd, Nat.reduceSub, Nat.reduceLT, Nat.reduceLeDiff, Nat.reduceEqDiff, Nat.reduceBEq, Nat.reduceBNe, reduceCtorEq, nmC, nmV, rBE, ow, wrC, rw, recC, zr, rk, rX0, ofVal, ofVals, cellsV, vStore.isTup, eqL, eqV, Blk.deg, oneV, elApp, Nat.reduceAdd, Nat.reduceSub, Nat.reduceMul, Nat.reduceLT, Nat.reduceLeDiff, Nat.reduceEqDiff, Int.reduceToNat, Int.reduceGT, Int.reduceGE, Int.reduceMul, Int.reduceLT, Int.reduceLE, Int.reduceAdd, Int.reduceSub, Int.reduceNeg, reduceCtorEq, Sf.T3, Sf.T4, Sf.T24, Sf.T26, Sf.T5, Sf.T22, Sf.T27, Sf.T89, Sf.T29, Sf.T31, Sf.T32, nmC, nmV, rBE, ow, wrC, rw, recC, zr, rk]
  refine ⟨fun _ => ?_, fun h => by omega⟩
  refine vframe (wakes_ok) [] (by rfl) (by simp only [rX2, bd, bdL, bdB, bdH, bdT, front, VLe, VLeL, BLe, Phan, TLe, HLe, ro, Blk.owned, CLe, rr, given, mrg, exct, shr, ren, renL, renB, Nat.reduceAdd, Nat.reduceSub, Nat.reduceLT, Nat.reduceLeDiff, Nat.reduceEqDiff, Nat.reduceBEq, Nat.reduceBNe, reduceCtorEq, nmC, nmV, rBE, ow, wrC, rw, recC, zr, rk]) ?_
  rintro v h ⟨rfl, rfl⟩ -
  simp (implicitDefEqProofs := false) (maxSteps := 1000000) only [rX2, bd, bdL, bdB, bdH, bdT, front, VLe, VLeL, BLe, Phan, TLe, HLe, ro, Blk.owned, CLe, rr, given, mrg, exct, shr, ren, renL, renB, Nat.reduceAdd, Nat.reduceSub, Nat.reduceLT, Nat.reduceLeDiff, Nat.reduceEqDiff, Nat.reduceBEq, Nat.reduceBNe, reduceCtorEq, nmC, nmV, rBE, ow, wrC, rw, recC, zr, rk, rX0, ofVal, ofVals, cellsV, vStore.isTup, eqL, eqV, Blk.deg, oneV, elApp, Nat.reduceAdd, Nat.reduceSub, Nat.reduceMul, Nat.reduceLT, Nat.reduceLeDiff, Nat.reduceEqDiff, Int.reduceToNat, Int.reduceGT, Int.reduceGE, Int.reduceMul, Int.reduceLT, Int.reduceLE, Int.reduceAdd, Int.reduceSub, Int.reduceNeg, reduceCtorEq, Sf.T3, Sf.T4, Sf.T24, Sf.T26, Sf.T5, Sf.T22, Sf.T27, Sf.T89, Sf.T29, Sf.T31, Sf.T32, nmC, nmV, rBE, ow, wrC, rw, recC, zr, rk]
theorem short_no (r : Rec) (cw : Nat) (n : Int) (B : List Int) (cb : Nat) (hg : ¬ 40 < r.n) (hb : ¬ 100 < B.length) (hk : -128 ≤ r.k ∧ r.k ≤ 127) (hw : RecW r) (hM : ¬ MayR r) :
    VCall Try.prog 4 [.agg (recC r (.slice 0 r.n cw)), .int .i64 n, .slice 1 B.length cb] [.row 9 r.n fun j => wrC (r.w j), rw B] fun v h => v = .bool true ∧ h = [.row 9 r.n fun j => wrC (r.w j), rw B] := by
  have h0 := great_v r cw false (decide_eq_false hg)
  have h1 := Bytes_ok cw r (by omega) hk hw
  have h2 := may_ok cw r (by omega) hk hw
  rw [show rB r = [] from if_neg hM, show rE r = 2 from if_neg hM] at h1
  rw [decide_eq_false hM] at h2
  simp only [List.length_nil] at h1
  unfold recC at h0 h1 h2 ⊢
  unfold rw
  refine VCall.trim 2 (Nat.le_of_ble_eq_true rfl) ?_
  refine wbody Try.func4 rfl (by kernel_rfl) ?_
  rw [Try.ntmps4, Try.results4]
  simp (implicitDefEqProofs := false) (maxSteps := 1000000) only [rX1, bd, bdL, bdB, bdH, bdT, front, VLe, VLeL, BLe, Phan, TLe, HLe, ro, Blk.owned, CLe, rr, given, mrg, exct, shr, ren, renL, renB, Nat.reduceBEq, Nat.reduceBNe, rX0, ofVal, ofVals, cellsV, vStore.isTup, eqL, eqV, Blk.deg, oneV, elApp, Nat.reduceAdd, Nat.reduceSub, Nat.reduceMul, Nat.reduceLT, Nat.reduceLeDiff, Nat.reduceEqDiff, Int.reduceToNat, Int.reduceGT, Int.reduceGE, Int.reduceMul, Int.reduceLT, Int.reduceLE, Int.reduceAdd, Int.reduceSub, Int.reduceNeg, reduceCtorEq, Sf.T3, Sf.T4, Sf.T24, Sf.T26, Sf.T5, Sf.T22, Sf.T27, Sf.T89, Sf.T29, Sf.T31, Sf.T32, nmC, nmV, rBE, ow, wrC, rw, recC, zr, rk]
  refine vframe (h0) [0] (by rfl) (by simp only [rX2, bd, bdL, bdB, bdH, bdT, front, VLe, VLeL, BLe, Phan, TLe, HLe, ro, Blk.owned, CLe, rr, given, mrg, exct, shr, ren, renL, renB, Nat.reduceAdd, Nat.reduceSub, Nat.reduceLT, Nat.reduceLeDiff, Nat.reduceEqDiff, Nat.reduceBEq, Nat.reduceBNe, reduceCtorEq, nmC, nmV, rBE, ow, wrC, rw, recC, zr, rk]) ?_
  rintro v h ⟨rfl, rfl⟩ -
  simp (implicitDefEqProofs := false) (maxSteps := 1000000) only [rX2, bd, bdL, bdB, bdH, bdT, front, VLe, VLeL, BLe, Phan, TLe, HLe, ro, Blk.owned, CLe, rr, given, mrg, exct, shr, ren, renL, renB, Nat.reduceAdd, Nat.reduceSub, Nat.reduceLT, Nat.reduceLeDiff, Nat.reduceEqDiff, Nat.reduceBEq, Nat.reduceBNe, reduceCtorEq, nmC, nmV, rBE, ow, wrC, rw, recC, zr, rk, rX0, ofVal, ofVals, cellsV, vStore.isTup, eqL, eqV, Blk.deg, oneV, elApp, Nat.reduceAdd, Nat.reduceSub, Nat.reduceMul, Nat.reduceLT, Nat.reduceLeDiff, Nat.reduceEqDiff, Int.reduceToNat, Int.reduceGT, Int.reduceGE, Int.reduceMul, Int.reduceLT, Int.reduceLE, Int.reduceAdd, Int.reduceSub, Int.reduceNeg, reduceCtorEq, Sf.T3, Sf.T4, Sf.T24, Sf.T26, Sf.T5, Sf.T22, Sf.T27, Sf.T89, Sf.T29, Sf.T31, Sf.T32, nmC, nmV, rBE, ow, wrC, rw, recC, zr, rk]
  refine ⟨fun h => by omega, fun _ => ?_⟩
  unfold ow at h1
  simp only [List.length_nil] at h1
  refine vframe (h1) [0] (by rfl) (by simp only [rX2, bd, bdL, bdB, bdH, bdT, front, VLe, VLeL, BLe, Phan, TLe, HLe, ro, Blk.owned, CLe, rr, given, mrg, exct, shr, ren, renL, renB, Nat.reduceAdd, Nat.reduceSub, Nat.reduceLT, Nat.reduceLeDiff, Nat.reduceEqDiff, Nat.reduceBEq, Nat.reduceBNe, reduceCtorEq, nmC, nmV, rBE, ow, wrC, rw, recC, zr, rk]) ?_
  rintro v h ⟨cap, hcap, rfl, rfl⟩ -
  simp (implicitDefEqProofs := false) (maxSteps := 1000000) only [Int.natCast_zero, rX2, bd, bdL, bdB, bdH, bdT, front, VLe, VLeL, BLe, Phan, TLe, HLe, ro, Blk.owned, CLe, rr, given, mrg, exct, shr, ren, renL, renB, Nat.reduceAdd, Nat.reduceSub, Nat.reduceLT, Nat.reduceLeDiff, Nat.reduceEqDiff, Nat.reduceBEq, Nat.reduceBNe, reduceCtorEq, nmC, nmV, rBE, ow, wrC, rw, recC, zr, rk, rX0, ofVal, ofVals, cellsV, vStore.isTup, eqL, eqV, Blk.deg, oneV, elApp, Nat.reduceAdd, Nat.reduceSub, Nat.reduceMul, Nat.reduceLT, Nat.reduceLeDiff, Nat.reduceEqDiff, Int.reduceToNat, Int.reduceGT, Int.reduceGE, Int.reduceMul, Int.reduceLT, Int.reduceLE, Int.reduceAdd, Int.reduceSub, Int.reduceNeg, reduceCtorEq, Sf.T3, Sf.T4, Sf.T24, Sf.T26, Sf.T5, Sf.T22, Sf.T27, Sf.T89, Sf.T29, Sf.T31, Sf.T32, nmC, nmV, rBE, ow, wrC, rw, recC, zr, rk]
  refine ⟨fun _ => ?_, fun h => by omega⟩
  refine vframe (h2) [0] (by rfl) (by simp only [rX2, bd, bdL, bdB, bdH, bdT, front, VLe, VLeL, BLe, Phan, TLe, HLe, ro, Blk.owned, CLe, rr, given, mrg, exct, shr, ren, renL, renB, Nat.reduceAdd, Nat.reduceSub, Nat.reduceLT, Nat.reduceLeDiff, Nat.reduceEqDiff, Nat.reduceBEq, Nat.reduceBNe, reduceCtorEq, nmC, nmV, rBE, ow, wrC, rw, recC, zr, rk]) ?_
  rintro v h ⟨rfl, rfl⟩ -
  simp (implicitDefEqProofs := false) (maxSteps := 1000000) only [Int.natCast_zero, rX2, bd, bdL, bdB, bdH, bdT, front, VLe, VLeL, BLe, Phan, TLe, HLe, ro, Blk.owned, CLe, rr, given, mrg, exct, shr, ren, renL, renB, Nat.reduceAdd, Nat.reduceSub, Nat.reduceLT, Nat.reduceLeDiff, Nat.reduceEqDiff, Nat.reduceBEq, Nat.reduceBNe, reduceCtorEq, nmC, nmV, rBE, ow, wrC, rw, recC, zr, rk, rX0, ofVal, ofVals, cellsV, vStore.isTup, eqL, eqV, Blk.deg, oneV, elApp, Nat.reduceAdd, Nat.reduceSub, Nat.reduceMul, Nat.reduceLT, Nat.reduceLeDiff, Nat.reduceEqDiff, Int.reduceToNat, Int.reduceGT, Int.reduceGE, Int.reduceMul, Int.reduceLT, Int.reduceLE, Int.reduceAdd, Int.reduceSub, Int.reduceNeg, reduceCtorEq, Sf.T3, Sf.T4, Sf.T24, Sf.T26, Sf.T5, Sf.T22, Sf.T27, Sf.T89, Sf.T29, Sf.T31, Sf.T32, nmC, nmV, rBE, ow, wrC, rw, recC, zr, rk]
  refine vframe (wakes_ok) [] (by rfl) (by simp only [rX2, bd, bdL, bdB, bdH, bdT, front, VLe, VLeL, BLe, Phan, TLe, HLe, ro, Blk.owned, CLe, rr, given, mrg, exct, shr, ren, renL, renB, Nat.reduceAdd, Nat.reduceSub, Nat.reduceLT, Nat.reduceLeDiff, Nat.reduceEqDiff, Nat.reduceBEq, Nat.reduceBNe, reduceCtorEq, nmC, nmV, rBE, ow, wrC, rw, recC, zr, rk]) ?_
  rintro v h ⟨rfl, rfl⟩ -
  simp (implicitDefEqProofs := false) (maxSteps := 1000000) only [rX2, bd, bdL, bdB, bdH, bdT, front, VLe, VLeL, BLe, Phan, TLe, HLe, ro, Blk.owned, CLe, rr, given, mrg, exct, shr, ren, renL, renB, Nat.reduceAdd, Nat.reduceSub, Nat.reduceLT, Nat.reduceLeDiff, Nat.reduceEqDiff, Nat.reduceBEq, Nat.reduceBNe, reduceCtorEq, nmC, nmV, rBE, ow, wrC, rw, recC, zr, rk, rX0, ofVal, ofVals, cellsV, vStore.isTup, eqL, eqV, Blk.deg, oneV, elApp, Nat.reduceAdd, Nat.reduceSub, Nat.reduceMul, Nat.reduceLT, Nat.reduceLeDiff, Nat.reduceEqDiff, Int.reduceToNat, Int.reduceGT, Int.reduceGE, Int.reduceMul, Int.reduceLT, Int.reduceLE, Int.reduceAdd, Int.reduceSub, Int.reduceNeg, reduceCtorEq, Sf.T3, Sf.T4, Sf.T24, Sf.T26, Sf.T5, Sf.T22, Sf.T27, Sf.T89, Sf.T29, Sf.T31, Sf.T32, nmC, nmV, rBE, ow, wrC, rw, recC, zr, rk]
theorem rem_ok (n : Int) (l : Nat) (h0 : 1 ≤ l) (h1 : l ≤ 1000) : ∃ k : Nat, k < l ∧ (IntKind.i64.wrap (n.tmod l + l)).tmod l = (k : Int) := by
  have a := Int.tmod_lt_of_pos n (show (0 : Int) < l by omega)
  have b := Int.lt_tmod_of_pos n (show (0 : Int) < l by omega)
  rw [IntWalk.i64_in _ (by omega)]
  have c := Int.tmod_lt_of_pos (n.tmod l + l) (show (0 : Int) < l by omega)
  have d := Int.tmod_nonneg (l : Int) (show 0 ≤ n.tmod l + l by omega)
  exact ⟨((n.tmod l + l).tmod l).toNat, by omega, by omega⟩
theorem bE_take (L : List Int) (k j : Nat) (h : j < k) : bE L j = bE (L.take k) j := by
  unfold bE
  rw [List.getD_eq_getElem?_getD, List.getD_eq_getElem?_getD, List.getElem?_take_of_lt h]
theorem app0 (L : List Int) : (elApp 0 (chunk 1 []) fun j => bE L j) = bE L := funext fun j => rfl
theorem short_yes (r : Rec) (cw : Nat) (n : Int) (B : List Int) (cb : Nat) (hg : ¬ 40 < r.n) (hb : ¬ 100 < B.length) (hk : -128 ≤ r.k ∧ r.k ≤ 127) (hw : RecW r) (hB : Bys B) (hn : -9223372036854775808 ≤ n ∧ n ≤ 9223372036854775807) (hM : MayR r) :
    VCall Try.prog 4 [.agg (recC r (.slice 0 r.n cw)), .int .i64 n, .slice 1 B.length cb] [.row 9 r.n fun j => wrC (r.w j), rw B] fun v h => v = .bool true ∧ h = [.row 9 r.n fun j => wrC (r.w j), rw B] := by
  have h0 := great_v r cw false (decide_eq_false hg)
  have h1 := Bytes_ok cw r (by omega) hk hw
  have hL := hM.length
  obtain ⟨s, hgood, hsame⟩ := hM.good
  rw [show rE r = 0 from if_pos hM] at h1
  generalize hLe : rB r = L at h1 hL hgood
  unfold recC ow at h1
  unfold recC at h0 ⊢
  unfold rw
  refine VCall.trim 2 (Nat.le_of_ble_eq_true rfl) ?_
  refine wbody Try.func4 rfl (by kernel_rfl) ?_
  rw [Try.ntmps4, Try.results4]
  simp (implicitDefEqProofs := false) (maxSteps := 1000000) only [rX1, bd, bdL, bdB, bdH, bdT, front, VLe, VLeL, BLe, Phan, TLe, HLe, ro, Blk.owned, CLe, rr, given, mrg, exct, shr, ren, renL, renB, Nat.reduceBEq, Nat.reduceBNe, rX0, ofVal, ofVals, cellsV, vStore.isTup, eqL, eqV, Blk.deg, oneV, elApp, Nat.reduceAdd, Nat.reduceSub, Nat.reduceMul, Nat.reduceLT, Nat.reduceLeDiff, Nat.reduceEqDiff, Int.reduceToNat, Int.reduceGT, Int.reduceGE, Int.reduceMul, Int.reduceLT, Int.reduceLE, Int.reduceAdd, Int.reduceSub, Int.reduceNeg, reduceCtorEq, Sf.T3, Sf.T4, Sf.T24, Sf.T26, Sf.T5, Sf.T22, Sf.T27, Sf.T89, Sf.T29, Sf.T31, Sf.T32, nmC, nmV, rBE, ow, wrC, rw, recC, zr, rk]
  refine vframe (h0) [0] (by rfl) (by simp only [rX2, bd, bdL, bdB, bdH, bdT, front, VLe, VLeL, BLe, Phan, TLe, HLe, ro, Blk.owned, CLe, rr, given, mrg, exct, shr, ren, renL, renB, Nat.reduceAdd, Nat.reduceSub, Nat.reduceLT, Nat.reduceLeDiff, Nat.reduceEqDiff, Nat.reduceBEq, Nat.reduceBNe, reduceCtorEq, nmC, nmV, rBE, ow, wrC, rw, recC, zr, rk]) ?_
  rintro v h ⟨rfl, rfl⟩ -
  simp (implicitDefEqProofs := false) (maxSteps := 1000000) only [rX2, bd, bdL, bdB, bdH, bdT, front, VLe, VLeL, BLe, Phan, TLe, HLe, ro, Blk.owned, CLe, rr, given, mrg, exct, shr, ren, renL, renB, Nat.reduceAdd, Nat.reduceSub, Nat.reduceLT, Nat.reduceLeDiff, Nat.reduceEqDiff, Nat.reduceBEq, Nat.reduceBNe, reduceCtorEq, nmC, nmV, rBE, ow, wrC, rw, recC, zr, rk, rX0, ofVal, ofVals, cellsV, vStore.isTup, eqL, eqV, Blk.deg, oneV, elApp, Nat.reduceAdd, Nat.reduceSub, Nat.reduceMul, Nat.reduceLT, Nat.reduceLeDiff, Nat.reduceEqDiff, Int.reduceToNat, Int.reduceGT, Int.reduceGE, Int.reduceMul, Int.reduceLT, Int.reduceLE, Int.reduceAdd, Int.reduceSub, Int.reduceNeg, reduceCtorEq, Sf.T3, Sf.T4, Sf.T24, Sf.T26, Sf.T5, Sf.T22, Sf.T27, Sf.T89, Sf.T29, Sf.T31, Sf.T32, nmC, nmV, rBE, ow, wrC, rw, recC, zr, rk]
  refine ⟨fun h => by omega, fun _ => ?_⟩
  refine vframe (h1) [0] (by rfl) (by simp only [rX2, bd, bdL, bdB, bdH, bdT, front, VLe, VLeL, BLe, Phan, TLe, HLe, ro, Blk.owned, CLe, rr, given, mrg, exct, shr, ren, renL, renB, Nat.reduceAdd, Nat.reduceSub, Nat.reduceLT, Nat.reduceLeDiff, Nat.reduceEqDiff, Nat.reduceBEq, Nat.reduceBNe, reduceCtorEq, nmC, nmV, rBE, ow, wrC, rw, recC, zr, rk]) ?_
  rintro v h ⟨cap, hcap, rfl, rfl⟩ -
  simp (implicitDefEqProofs := false) (maxSteps := 1000000) only [rX2, bd, bdL, bdB, bdH, bdT, front, VLe, VLeL, BLe, Phan, TLe, HLe, ro, Blk.owned, CLe, rr, given, mrg, exct, shr, ren, renL, renB, Nat.reduceAdd, Nat.reduceSub, Nat.reduceLT, Nat.reduceLeDiff, Nat.reduceEqDiff, Nat.reduceBEq, Nat.reduceBNe, reduceCtorEq, nmC, nmV, rBE, ow, wrC, rw, recC, zr, rk, rX0, ofVal, ofVals, cellsV, vStore.isTup, eqL, eqV, Blk.deg, oneV, elApp, Nat.reduceAdd, Nat.reduceSub, Nat.reduceMul, Nat.reduceLT, Nat.reduceLeDiff, Nat.reduceEqDiff, Int.reduceToNat, Int.reduceGT, Int.reduceGE, Int.reduceMul, Int.reduceLT, Int.reduceLE, Int.reduceAdd, Int.reduceSub, Int.reduceNeg, reduceCtorEq, Sf.T3, Sf.T4, Sf.T24, Sf.T26, Sf.T5, Sf.T22, Sf.T27, Sf.T89, Sf.T29, Sf.T31, Sf.T32, nmC, nmV, rBE, ow, wrC, rw, recC, zr, rk]
  refine ⟨fun h => by omega, fun _ => ⟨by omega, by omega, ?_⟩⟩
  obtain ⟨k, hk1, hk2⟩ := rem_ok n L.length hL.1 (by omega)
  rw [hk2, Int.toNat_natCast]
  refine ⟨by omega, by omega, ?_⟩
  have hBL : Bys L := by rw [← hLe]; unfold rB; rw [if_pos hM]; exact Bys.cons (u8_range _) (Bys.bX r hw)
  have hlen : (L.take k).length = k := by rw [List.length_take]; omega
  have hr := read_bad (L.take k) cap (fun x hx => hBL x (List.mem_of_mem_take hx)) (by omega) (by omega) (fun s' hs' => by
    have := hs'.alone (T := L.drop k) (fun x hx => hBL x (List.mem_of_mem_take hx)) (by rw [List.take_append_drop]; exact hgood)
    have h2 := congrArg List.length this
    rw [List.length_drop] at h2
    simp at h2; omega)
  unfold rw at hr
  rw [hlen] at hr
  refine vframe (hr) [4] (by rfl) (by simp only [rX2, bd, bdL, bdB, bdH, bdT, front, VLe, VLeL, BLe, Phan, TLe, HLe, ro, Blk.owned, CLe, rr, given, mrg, exct, shr, ren, renL, renB, Nat.reduceAdd, Nat.reduceSub, Nat.reduceLT, Nat.reduceLeDiff, Nat.reduceEqDiff, Nat.reduceBEq, Nat.reduceBNe, reduceCtorEq, nmC, nmV, rBE, ow, wrC, rw, recC, zr, rk]; exact fun j hj => bE_take L k j hj) ?_
  rintro v h ⟨co, rfl, rfl⟩ -
  simp (implicitDefEqProofs := false) (maxSteps := 1000000) only [rX2, bd, bdL, bdB, bdH, bdT, front, VLe, VLeL, BLe, Phan, TLe, HLe, ro, Blk.owned, CLe, rr, given, mrg, exct, shr, ren, renL, renB, Nat.reduceAdd, Nat.reduceSub, Nat.reduceLT, Nat.reduceLeDiff, Nat.reduceEqDiff, Nat.reduceBEq, Nat.reduceBNe, reduceCtorEq, nmC, nmV, rBE, ow, wrC, rw, recC, zr, rk, rX0, ofVal, ofVals, cellsV, vStore.isTup, eqL, eqV, Blk.deg, oneV, elApp, Nat.reduceAdd, Nat.reduceSub, Nat.reduceMul, Nat.reduceLT, Nat.reduceLeDiff, Nat.reduceEqDiff, Int.reduceToNat, Int.reduceGT, Int.reduceGE, Int.reduceMul, Int.reduceLT, Int.reduceLE, Int.reduceAdd, Int.reduceSub, Int.reduceNeg, reduceCtorEq, Sf.T3, Sf.T4, Sf.T24, Sf.T26, Sf.T5, Sf.T22, Sf.T27, Sf.T89, Sf.T29, Sf.T31, Sf.T32, nmC, nmV, rBE, ow, wrC, rw, recC, zr, rk]
  simp only [app0]
  refine ⟨⟨by omega, by simp only [maxI]; omega⟩, fun c1 _ _ => ⟨⟨by omega, by simp only [maxI]; omega⟩, fun c2 hc2 _ => ?_⟩⟩
  by_cases hB0 : B = []
  · have hr2 := read_good (L ++ B) c2 (hBL.app hB) (by rw [List.length_append]; omega) (by rw [List.length_append]; omega) s (by rw [hB0, List.append_nil]; exact hgood)
    unfold rw at hr2
    rw [List.length_append] at hr2
    have hl0 : B.length = 0 := by rw [hB0]; rfl
    refine vframe (hr2) [9] (by rfl) (by simp only [rX2, bd, bdL, bdB, bdH, bdT, front, VLe, VLeL, BLe, Phan, TLe, HLe, ro, Blk.owned, CLe, rr, given, mrg, exct, shr, ren, renL, renB, Nat.reduceAdd, Nat.reduceSub, Nat.reduceLT, Nat.reduceLeDiff, Nat.reduceEqDiff, Nat.reduceBEq, Nat.reduceBNe, reduceCtorEq, nmC, nmV, rBE, ow, wrC, rw, recC, zr, rk]; exact fun j hj => bE_app L B j) ?_
    rintro v h ⟨co2, rfl, rfl⟩ -
    simp (implicitDefEqProofs := false) (maxSteps := 1000000) only [rX2, bd, bdL, bdB, bdH, bdT, front, VLe, VLeL, BLe, Phan, TLe, HLe, ro, Blk.owned, CLe, rr, given, mrg, exct, shr, ren, renL, renB, Nat.reduceAdd, Nat.reduceSub, Nat.reduceLT, Nat.reduceLeDiff, Nat.reduceEqDiff, Nat.reduceBEq, Nat.reduceBNe, reduceCtorEq, nmC, nmV, rBE, ow, wrC, rw, recC, zr, rk, rX0, ofVal, ofVals, cellsV, vStore.isTup, eqL, eqV, Blk.deg, oneV, elApp, Nat.reduceAdd, Nat.reduceSub, Nat.reduceMul, Nat.reduceLT, Nat.reduceLeDiff, Nat.reduceEqDiff, Int.reduceToNat, Int.reduceGT, Int.reduceGE, Int.reduceMul, Int.reduceLT, Int.reduceLE, Int.reduceAdd, Int.reduceSub, Int.reduceNeg, reduceCtorEq, Sf.T3, Sf.T4, Sf.T24, Sf.T26, Sf.T5, Sf.T22, Sf.T27, Sf.T89, Sf.T29, Sf.T31, Sf.T32, nmC, nmV, rBE, ow, wrC, rw, recC, zr, rk]
    refine ⟨fun _ => ?_, fun h => absurd (by rw [hl0]; rfl) h⟩
    refine vframe (wakes_ok) [] (by rfl) (by simp only [rX2, bd, bdL, bdB, bdH, bdT, front, VLe, VLeL, BLe, Phan, TLe, HLe, ro, Blk.owned, CLe, rr, given, mrg, exct, shr, ren, renL, renB, Nat.reduceAdd, Nat.reduceSub, Nat.reduceLT, Nat.reduceLeDiff, Nat.reduceEqDiff, Nat.reduceBEq, Nat.reduceBNe, reduceCtorEq, nmC, nmV, rBE, ow, wrC, rw, recC, zr, rk]) ?_
    rintro v h ⟨rfl, rfl⟩ -
    simp (implicitDefEqProofs := false) (maxSteps := 1000000) only [rX2, bd, bdL, bdB, bdH, bdT, front, VLe, VLeL, BLe, Phan, TLe, HLe, ro, Blk.owned, CLe, rr, given, mrg, exct, shr, ren, renL, renB, Nat.reduceAdd, Nat.reduceSub, Nat.reduceLT, Nat.reduceLeDiff, Nat.reduceEqDiff, Nat.reduceBEq, Nat.reduceBNe, reduceCtorEq, nmC, nmV, rBE, ow, wrC, rw, recC, zr, rk, rX0, ofVal, ofVals, cellsV, vStore.isTup, eqL, eqV, Blk.deg, oneV, elApp, Nat.reduceAdd, Nat.reduceSub, Nat.reduceMul, Nat.reduceLT, Nat.reduceLeDiff, Nat.reduceEqDiff, Int.reduceToNat, Int.reduceGT, Int.reduceGE, Int.reduceMul, Int.reduceLT, Int.reduceLE, Int.reduceAdd, Int.reduceSub, Int.reduceNeg, reduceCtorEq, Sf.T3, Sf.T4, Sf.T24, Sf.T26, Sf.T5, Sf.T22, Sf.T27, Sf.T89, Sf.T29, Sf.T31, Sf.T32, nmC, nmV, rBE, ow, wrC, rw, recC, zr, rk]
  · have hr2 := read_bad (L ++ B) c2 (hBL.app hB) (by rw [List.length_append]; omega) (by rw [List.length_append]; omega) (fun s' hs' => hB0 (hgood.alone hBL hs'))
    unfold rw at hr2
    rw [List.length_append] at hr2
    have hl0 : B.length ≠ 0 := fun h => hB0 (List.eq_nil_of_length_eq_zero h)
    refine vframe (hr2) [9] (by rfl) (by simp only [rX2, bd, bdL, bdB, bdH, bdT, front, VLe, VLeL, BLe, Phan, TLe, HLe, ro, Blk.owned, CLe, rr, given, mrg, exct, shr, ren, renL, renB, Nat.reduceAdd, Nat.reduceSub, Nat.reduceLT, Nat.reduceLeDiff, Nat.reduceEqDiff, Nat.reduceBEq, Nat.reduceBNe, reduceCtorEq, nmC, nmV, rBE, ow, wrC, rw, recC, zr, rk]; exact fun j hj => bE_app L B j) ?_
    rintro v h ⟨co2, rfl, rfl⟩ -
    simp (implicitDefEqProofs := false) (maxSteps := 1000000) only [rX2, bd, bdL, bdB, bdH, bdT, front, VLe, VLeL, BLe, Phan, TLe, HLe, ro, Blk.owned, CLe, rr, given, mrg, exct, shr, ren, renL, renB, Nat.reduceAdd, Nat.reduceSub, Nat.reduceLT, Nat.reduceLeDiff, Nat.reduceEqDiff, Nat.reduceBEq, Nat.reduceBNe, reduceCtorEq, nmC, nmV, rBE, ow, wrC, rw, recC, zr, rk, rX0, ofVal, ofVals, cellsV, vStore.isTup, eqL, eqV, Blk.deg, oneV, elApp, Nat.reduceAdd, Nat.reduceSub, Nat.reduceMul, Nat.reduceLT, Nat.reduceLeDiff, Nat.reduceEqDiff, Int.reduceToNat, Int.reduceGT, Int.reduceGE, Int.reduceMul, Int.reduceLT, Int.reduceLE, Int.reduceAdd, Int.reduceSub, Int.reduceNeg, reduceCtorEq, Sf.T3, Sf.T4, Sf.T24, Sf.T26, Sf.T5, Sf.T22, Sf.T27, Sf.T89, Sf.T29, Sf.T31, Sf.T32, nmC, nmV, rBE, ow, wrC, rw, recC, zr, rk]
    refine ⟨fun _ => ?_, fun h => absurd (show ((40 : Int) == 0) = ((B.length : Int) == 0) from by rw [show ((B.length : Int) == 0) = false from beq_false_of_ne (by omega)]; rfl) h⟩
    refine vframe (wakes_ok) [] (by rfl) (by simp only [rX2, bd, bdL, bdB, bdH, bdT, front, VLe, VLeL, BLe, Phan, TLe, HLe, ro, Blk.owned, CLe, rr, given, mrg, exct, shr, ren, renL, renB, Nat.reduceAdd, Nat.reduceSub, Nat.reduceLT, Nat.reduceLeDiff, Nat.reduceEqDiff, Nat.reduceBEq, Nat.reduceBNe, reduceCtorEq, nmC, nmV, rBE, ow, wrC, rw, recC, zr, rk]) ?_
    rintro v h ⟨rfl, rfl⟩ -
    simp (implicitDefEqProofs := false) (maxSteps := 1000000) only [rX2, bd, bdL, bdB, bdH, bdT, front, VLe, VLeL, BLe, Phan, TLe, HLe, ro, Blk.owned, CLe, rr, given, mrg, exct, shr, ren, renL, renB, Nat.reduceAdd, Nat.reduceSub, Nat.reduceLT, Nat.reduceLeDiff, Nat.reduceEqDiff, Nat.reduceBEq, Nat.reduceBNe, reduceCtorEq, nmC, nmV, rBE, ow, wrC, rw, recC, zr, rk, rX0, ofVal, ofVals, cellsV, vStore.isTup, eqL, eqV, Blk.deg, oneV, elApp, Nat.reduceAdd, Nat.reduceSub, Nat.reduceMul, Nat.reduceLT, Nat.reduceLeDiff, Nat.reduceEqDiff, Int.reduceToNat, Int.reduceGT, Int.reduceGE, Int.reduceMul, Int.reduceLT, Int.reduceLE, Int.reduceAdd, Int.reduceSub, Int.reduceNeg, reduceCtorEq, Sf.T3, Sf.T4, Sf.T24, Sf.T26, Sf.T5, Sf.T22, Sf.T27, Sf.T89, Sf.T29, Sf.T31, Sf.T32, nmC, nmV, rBE, ow, wrC, rw, recC, zr, rk]
theorem short_ok (r : Rec) (cw : Nat) (n : Int) (B : List Int) (cb : Nat) (hk : -128 ≤ r.k ∧ r.k ≤ 127) (hw : RecW r) (hB : Bys B) (hn : -9223372036854775808 ≤ n ∧ n ≤ 9223372036854775807) :
    VCall Try.prog 4 [.agg (recC r (.slice 0 r.n cw)), .int .i64 n, .slice 1 B.length cb] [.row 9 r.n fun j => wrC (r.w j), rw B] fun v h => v = .bool true ∧ h = [.row 9 r.n fun j => wrC (r.w j), rw B] := by
  by_cases hg : 40 < r.n
  · exact short_great r cw n B cb hg
  by_cases hb : 100 < B.length
  · exact short_long r cw n B cb hg hb
  by_cases hM : MayR r
  · exact short_yes r cw n B cb hg hb hk hw hB hn hM
  · exact short_no r cw n B cb hg hb hk hw hM
end Go.Proofs.Ytnlammgemaapnaa
