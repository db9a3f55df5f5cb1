/- Layer 7: RecordReads. -/
import Derived.Test.YtnlammgemaapnaaSA
import Derived.Test.YtnlammgemaapnaaSJ
set_option linter.unusedSimpArgs false
set_option linter.unusedVariables false
set_option maxRecDepth 100000
namespace Go.Proofs.Ytnlammgemaapnaa
open Go Go.Sx
theorem yread_bad (B : List Int) (cap : Nat) (hB : Bys B) (hl : B.length ≤ 1000) (hno : ∀ r', ¬ Good B r') : VCall Try.prog 16 [.slice 0 B.length cap] [rw B] fun v h =>
    ∃ co, v = .tup [.agg (recC zr (.slice 1 zr.n co)), .int .i64 40] ∧ h = [rw B, .own 89 9 zr.n co fun j => wrC (zr.w j)] :=
  (yread_ok B cap hB hl).mono fun v h hh => by
    obtain ⟨r, e, co, ⟨hg, _⟩ | ⟨_, rfl, rfl⟩, hv, hh⟩ := hh
    · exact (hno _ hg).elim
    · exact ⟨co, hv, hh⟩
theorem yread_good (B : List Int) (cap : Nat) (hB : Bys B) (hl : B.length ≤ 1000) (s : Rec) (hG : Good B s) : VCall Try.prog 16 [.slice 0 B.length cap] [rw B] fun v h =>
    ∃ co, v = .tup [.agg (recC s (.slice 1 s.n co)), .int .i64 0] ∧ h = [rw B, .own 89 9 s.n co fun j => wrC (s.w j)] :=
  (yread_ok B cap hB hl).mono fun v h hh => by
    obtain ⟨r, e, co, ⟨hg, rfl⟩ | ⟨hn, _⟩, hv, hh⟩ := hh
    · obtain rfl := hG.uniq hg
      exact ⟨co, hv, hh⟩
    · exact (hn _ hG).elim
theorem reads_long (B : List Int) (cb : Nat) (hb : 300 < B.length) : VCall Try.prog 3 [.slice 0 B.length cb] [rw B] fun v h => v = .bool true ∧ h = [rw B] := by
  unfold rw
  refine VCall.trim 1 (Nat.le_of_ble_eq_true rfl) ?_
  refine wbody Try.func3 rfl (by kernel_rfl) ?_
  rw [Try.ntmps3, Try.results3]
  simp (implicitDefEqProofs := false) only [rX1, bd, bdL, bdB, bdH, bdT, front, VLe, VLeL, BLe, Phan, TLe, HLe, ro, Blk.owned, CLe, rr, given, mrg, exct, shr, ren, renL, renB, Nat.reduceBEq, Nat.reduceBNe, rX0, ofVal, ofVals, cellsV, vStore.isTup, eqL, eqV, Blk.deg, oneV, elApp, Nat.reduceAdd, Nat.reduceSub, Nat.reduceMul, Nat.reduceLT, Nat.reduceLeDiff, Nat.reduceEqDiff, Int.reduceToNat, Int.reduceGT, Int.reduceGE, Int.reduceMul, Int.reduceLT, Int.reduceLE, Int.reduceAdd, Int.reduceSub, Int.reduceNeg, reduceCtorEq, Sf.T3, Sf.T4, Sf.T24, Sf.T26, Sf.T5, Sf.T22, Sf.T27, Sf.T89, Sf.T29, Sf.T31, Sf.T32, Sf.T9, nmC, nmV, rBE, ow, wrC, rw, recC, zr, rk]
  refine ⟨fun _ => ?_, fun h => by omega⟩
  refine vframe (wakes_ok) [] (by rfl) (by simp only [rX2, bd, bdL, bdB, bdH, bdT, front, VLe, VLeL, BLe, Phan, TLe, HLe, ro, Blk.owned, CLe, rr, given, mrg, exct, shr, ren, renL, renB, Nat.reduceAdd, Nat.reduceSub, Nat.reduceLT, Nat.reduceLeDiff, Nat.reduceEqDiff, Nat.reduceBEq, Nat.reduceBNe, reduceCtorEq, nmC, nmV, rBE, ow, wrC, rw, recC, zr, rk]) ?_
  rintro v h ⟨rfl, rfl⟩ -
  simp (implicitDefEqProofs := false) only [rX2, bd, bdL, bdB, bdH, bdT, front, VLe, VLeL, BLe, Phan, TLe, HLe, ro, Blk.owned, CLe, rr, given, mrg, exct, shr, ren, renL, renB, Nat.reduceAdd, Nat.reduceSub, Nat.reduceLT, Nat.reduceLeDiff, Nat.reduceEqDiff, Nat.reduceBEq, Nat.reduceBNe, reduceCtorEq, nmC, nmV, rBE, ow, wrC, rw, recC, zr, rk, rX0, ofVal, ofVals, cellsV, vStore.isTup, eqL, eqV, Blk.deg, oneV, elApp, Nat.reduceAdd, Nat.reduceSub, Nat.reduceMul, Nat.reduceLT, Nat.reduceLeDiff, Nat.reduceEqDiff, Int.reduceToNat, Int.reduceGT, Int.reduceGE, Int.reduceMul, Int.reduceLT, Int.reduceLE, Int.reduceAdd, Int.reduceSub, Int.reduceNeg, reduceCtorEq, Sf.T3, Sf.T4, Sf.T24, Sf.T26, Sf.T5, Sf.T22, Sf.T27, Sf.T89, Sf.T29, Sf.T31, Sf.T32, Sf.T9, nmC, nmV, rBE, ow, wrC, rw, recC, zr, rk]
theorem reads_same (B : List Int) (cb : Nat) (hb : ¬ 300 < B.length) (s : Rec) (e : Int) (hs : s.n ≤ 1000)
    (h1 : VCall Try.prog 15 [.slice 0 B.length cb] [rw B] fun v h => ∃ co, v = .tup [.agg (recC s (.slice 1 s.n co)), .int .i64 e] ∧ h = [rw B, .own 89 9 s.n co fun j => wrC (s.w j)])
    (h2 : VCall Try.prog 16 [.slice 0 B.length cb] [rw B] fun v h => ∃ co, v = .tup [.agg (recC s (.slice 1 s.n co)), .int .i64 e] ∧ h = [rw B, .own 89 9 s.n co fun j => wrC (s.w j)]) :
    VCall Try.prog 3 [.slice 0 B.length cb] [rw B] fun v h => v = .bool true ∧ h = [rw B] := by
  unfold rw recC at h1 h2
  unfold rw
  refine VCall.trim 1 (Nat.le_of_ble_eq_true rfl) ?_
  refine wbody Try.func3 rfl (by kernel_rfl) ?_
  rw [Try.ntmps3, Try.results3]
  simp (implicitDefEqProofs := false) only [rX1, bd, bdL, bdB, bdH, bdT, front, VLe, VLeL, BLe, Phan, TLe, HLe, ro, Blk.owned, CLe, rr, given, mrg, exct, shr, ren, renL, renB, Nat.reduceBEq, Nat.reduceBNe, rX0, ofVal, ofVals, cellsV, vStore.isTup, eqL, eqV, Blk.deg, oneV, elApp, Nat.reduceAdd, Nat.reduceSub, Nat.reduceMul, Nat.reduceLT, Nat.reduceLeDiff, Nat.reduceEqDiff, Int.reduceToNat, Int.reduceGT, Int.reduceGE, Int.reduceMul, Int.reduceLT, Int.reduceLE, Int.reduceAdd, Int.reduceSub, Int.reduceNeg, reduceCtorEq, Sf.T3, Sf.T4, Sf.T24, Sf.T26, Sf.T5, Sf.T22, Sf.T27, Sf.T89, Sf.T29, Sf.T31, Sf.T32, Sf.T9, nmC, nmV, rBE, ow, wrC, rw, recC, zr, rk]
  refine ⟨fun h => by omega, fun _ => ?_⟩
  refine vframe (h1) [0] (by rfl) (by simp only [rX2, bd, bdL, bdB, bdH, bdT, front, VLe, VLeL, BLe, Phan, TLe, HLe, ro, Blk.owned, CLe, rr, given, mrg, exct, shr, ren, renL, renB, Nat.reduceAdd, Nat.reduceSub, Nat.reduceLT, Nat.reduceLeDiff, Nat.reduceEqDiff, Nat.reduceBEq, Nat.reduceBNe, reduceCtorEq, nmC, nmV, rBE, ow, wrC, rw, recC, zr, rk]) ?_
  rintro v h ⟨co1, rfl, rfl⟩ -
  simp (implicitDefEqProofs := false) only [rX2, bd, bdL, bdB, bdH, bdT, front, VLe, VLeL, BLe, Phan, TLe, HLe, ro, Blk.owned, CLe, rr, given, mrg, exct, shr, ren, renL, renB, Nat.reduceAdd, Nat.reduceSub, Nat.reduceLT, Nat.reduceLeDiff, Nat.reduceEqDiff, Nat.reduceBEq, Nat.reduceBNe, reduceCtorEq, nmC, nmV, rBE, ow, wrC, rw, recC, zr, rk, rX0, ofVal, ofVals, cellsV, vStore.isTup, eqL, eqV, Blk.deg, oneV, elApp, Nat.reduceAdd, Nat.reduceSub, Nat.reduceMul, Nat.reduceLT, Nat.reduceLeDiff, Nat.reduceEqDiff, Int.reduceToNat, Int.reduceGT, Int.reduceGE, Int.reduceMul, Int.reduceLT, Int.reduceLE, Int.reduceAdd, Int.reduceSub, Int.reduceNeg, reduceCtorEq, Sf.T3, Sf.T4, Sf.T24, Sf.T26, Sf.T5, Sf.T22, Sf.T27, Sf.T89, Sf.T29, Sf.T31, Sf.T32, Sf.T9, nmC, nmV, rBE, ow, wrC, rw, recC, zr, rk]
  refine vframe (h2) [0] (by rfl) (by simp only [rX2, bd, bdL, bdB, bdH, bdT, front, VLe, VLeL, BLe, Phan, TLe, HLe, ro, Blk.owned, CLe, rr, given, mrg, exct, shr, ren, renL, renB, Nat.reduceAdd, Nat.reduceSub, Nat.reduceLT, Nat.reduceLeDiff, Nat.reduceEqDiff, Nat.reduceBEq, Nat.reduceBNe, reduceCtorEq, nmC, nmV, rBE, ow, wrC, rw, recC, zr, rk]) ?_
  rintro v h ⟨co2, rfl, rfl⟩ -
  simp (implicitDefEqProofs := false) only [rX2, bd, bdL, bdB, bdH, bdT, front, VLe, VLeL, BLe, Phan, TLe, HLe, ro, Blk.owned, CLe, rr, given, mrg, exct, shr, ren, renL, renB, Nat.reduceAdd, Nat.reduceSub, Nat.reduceLT, Nat.reduceLeDiff, Nat.reduceEqDiff, Nat.reduceBEq, Nat.reduceBNe, reduceCtorEq, nmC, nmV, rBE, ow, wrC, rw, recC, zr, rk, rX0, ofVal, ofVals, cellsV, vStore.isTup, eqL, eqV, Blk.deg, oneV, elApp, Nat.reduceAdd, Nat.reduceSub, Nat.reduceMul, Nat.reduceLT, Nat.reduceLeDiff, Nat.reduceEqDiff, Int.reduceToNat, Int.reduceGT, Int.reduceGE, Int.reduceMul, Int.reduceLT, Int.reduceLE, Int.reduceAdd, Int.reduceSub, Int.reduceNeg, reduceCtorEq, Sf.T3, Sf.T4, Sf.T24, Sf.T26, Sf.T5, Sf.T22, Sf.T27, Sf.T89, Sf.T29, Sf.T31, Sf.T32, Sf.T9, nmC, nmV, rBE, ow, wrC, rw, recC, zr, rk]
  have h5 := same_v s s co1 co2 hs (SameR.refl s)
  unfold recC at h5
  refine vframe (h5) [1, 3] (by rfl) (by simp only [rX2, bd, bdL, bdB, bdH, bdT, front, VLe, VLeL, BLe, Phan, TLe, HLe, ro, Blk.owned, CLe, rr, given, mrg, exct, shr, ren, renL, renB, Nat.reduceAdd, Nat.reduceSub, Nat.reduceLT, Nat.reduceLeDiff, Nat.reduceEqDiff, Nat.reduceBEq, Nat.reduceBNe, reduceCtorEq, nmC, nmV, rBE, ow, wrC, rw, recC, zr, rk]) ?_
  rintro v h ⟨rfl, rfl⟩ -
  simp (implicitDefEqProofs := false) only [rX2, bd, bdL, bdB, bdH, bdT, front, VLe, VLeL, BLe, Phan, TLe, HLe, ro, Blk.owned, CLe, rr, given, mrg, exct, shr, ren, renL, renB, Nat.reduceAdd, Nat.reduceSub, Nat.reduceLT, Nat.reduceLeDiff, Nat.reduceEqDiff, Nat.reduceBEq, Nat.reduceBNe, reduceCtorEq, nmC, nmV, rBE, ow, wrC, rw, recC, zr, rk, rX0, ofVal, ofVals, cellsV, vStore.isTup, eqL, eqV, Blk.deg, oneV, elApp, Nat.reduceAdd, Nat.reduceSub, Nat.reduceMul, Nat.reduceLT, Nat.reduceLeDiff, Nat.reduceEqDiff, Int.reduceToNat, Int.reduceGT, Int.reduceGE, Int.reduceMul, Int.reduceLT, Int.reduceLE, Int.reduceAdd, Int.reduceSub, Int.reduceNeg, reduceCtorEq, Sf.T3, Sf.T4, Sf.T24, Sf.T26, Sf.T5, Sf.T22, Sf.T27, Sf.T89, Sf.T29, Sf.T31, Sf.T32, Sf.T9, nmC, nmV, rBE, ow, wrC, rw, recC, zr, rk]
  refine vframe (wakes_ok) [] (by rfl) (by simp only [rX2, bd, bdL, bdB, bdH, bdT, front, VLe, VLeL, BLe, Phan, TLe, HLe, ro, Blk.owned, CLe, rr, given, mrg, exct, shr, ren, renL, renB, Nat.reduceAdd, Nat.reduceSub, Nat.reduceLT, Nat.reduceLeDiff, Nat.reduceEqDiff, Nat.reduceBEq, Nat.reduceBNe, reduceCtorEq, nmC, nmV, rBE, ow, wrC, rw, recC, zr, rk]) ?_
  rintro v h ⟨rfl, rfl⟩ -
  simp (implicitDefEqProofs := false) only [rX2, bd, bdL, bdB, bdH, bdT, front, VLe, VLeL, BLe, Phan, TLe, HLe, ro, Blk.owned, CLe, rr, given, mrg, exct, shr, ren, renL, renB, Nat.reduceAdd, Nat.reduceSub, Nat.reduceLT, Nat.reduceLeDiff, Nat.reduceEqDiff, Nat.reduceBEq, Nat.reduceBNe, reduceCtorEq, nmC, nmV, rBE, ow, wrC, rw, recC, zr, rk, rX0, ofVal, ofVals, cellsV, vStore.isTup, eqL, eqV, Blk.deg, oneV, elApp, Nat.reduceAdd, Nat.reduceSub, Nat.reduceMul, Nat.reduceLT, Nat.reduceLeDiff, Nat.reduceEqDiff, Int.reduceToNat, Int.reduceGT, Int.reduceGE, Int.reduceMul, Int.reduceLT, Int.reduceLE, Int.reduceAdd, Int.reduceSub, Int.reduceNeg, reduceCtorEq, Sf.T3, Sf.T4, Sf.T24, Sf.T26, Sf.T5, Sf.T22, Sf.T27, Sf.T89, Sf.T29, Sf.T31, Sf.T32, Sf.T9, nmC, nmV, rBE, ow, wrC, rw, recC, zr, rk]
theorem readsLaw_ok (B : List Int) (cb : Nat) (hB : Bys B) (hcb : B.length ≤ cb) : VCall Try.prog 3 [.slice 0 B.length cb] [rw B] fun v h => v = .bool true ∧ h = [rw B] := by
  by_cases hb : 300 < B.length
  · exact reads_long B cb hb
  by_cases hG : ∃ o, Good B o
  · obtain ⟨o, ho⟩ := hG
    exact reads_same B cb hb o 0 (ho.ok hB).1 (read_good B cb hB (by omega) hcb o ho) (yread_good B cb hB (by omega) o ho)
  · have hn : ∀ s, ¬ Good B s := fun s hs => hG ⟨s, hs⟩
    exact reads_same B cb hb zr 40 (Nat.zero_le _) (read_bad B cb hB (by omega) hcb hn) (yread_bad B cb hB (by omega) hn)
end Go.Proofs.Ytnlammgemaapnaa
