/- Layer 7: the document's bytes. -/
import Derived.Test.YtnlammgemaapnaaSF
import Derived.Test.YtnlammgemaapnaaRN
set_option linter.unusedSimpArgs false
set_option linter.unusedVariables false
set_option maxRecDepth 100000
namespace Go.Proofs.Ytnlammgemaapnaa
open Go Go.Sx
theorem bE_many (L M : List Int) (j : Nat) (hj : j < L.length + M.length) : elApp L.length (bE L) (chunk 1 (M.map fun x => VV.int .u8 x)) j = bE (L ++ M) j := by
  rw [← bE_app]
  unfold elApp
  by_cases h : j < L.length
  · simp [h]
  · simp only [h, if_false]
    unfold chunk bE
    rw [seg_eq, Nat.mul_one]
    have hl : j - L.length < M.length := by omega
    rw [List.getD_eq_getElem?_getD, List.getElem?_eq_getElem hl, Option.getD_some]
    have : (List.map (fun x => VV.int .u8 x) M).drop (j - L.length) = (VV.int .u8 (M[j - L.length])) :: (List.map (fun x => VV.int .u8 x) M).drop (j - L.length + 1) := by
      rw [List.drop_eq_getElem_cons (by simpa using hl)]
      simp
    rw [this]; rfl
theorem zthree_ok (L : List Int) (cap : Nat) (n : Int) (hL : L.length ≤ 100000) :
    VCall Try.prog 56 [.slice 0 L.length cap, .int .i64 n] [ow L cap] fun v h => ∃ cap', v = .slice 1 (L ++ b3 n).length cap' ∧ h = [.gone, ow (L ++ b3 n) cap'] := by
  have e3 : (L ++ b3 n).length = L.length + 3 := by simp [b3_length]
  have key : ∀ j, j < L.length + 3 → elApp L.length (bE L) (chunk 1 [.int .u8 (IntKind.u8.wrap n), .int .u8 (IntKind.u8.wrap (shrI .i64 n 8)), .int .u8 (IntKind.u8.wrap (shrI .i64 n 16))]) j = bE (L ++ b3 n) j := fun j hj => bE_many L (b3 n) j hj
  unfold ow
  refine VC.out ?_
  refine wbody Try.func56 rfl (by kernel_rfl) ?_
  rw [Try.ntmps56, Try.results56]
  simp (implicitDefEqProofs := false) (maxSteps := 1000000) only [rX1, bd, bdL, bdB, bdH, bdT, front, VLe, VLeL, BLe, Phan, TLe, HLe, ro, Blk.owned, CLe, rr, given, mrg, exct, shr, ren, renL, renB, Nat.reduceBEq, Nat.reduceBNe, rX0, ofVal, ofVals, cellsV, vStore.isTup, eqL, eqV, Blk.deg, oneV, elApp, Nat.reduceAdd, Nat.reduceSub, Nat.reduceMul, Nat.reduceLT, Nat.reduceLeDiff, Nat.reduceEqDiff, Int.reduceToNat, Int.reduceGT, Int.reduceGE, Int.reduceMul, Int.reduceLT, Int.reduceLE, Int.reduceAdd, Int.reduceSub, Int.reduceNeg, reduceCtorEq, Sf.T3, Sf.T4, Sf.T5, Sf.T22, Sf.T24, Sf.T26, Sf.T27, Sf.T89, Sf.T54, Sf.T29, Sf.T31, nmC, nmV, rBE, ow, wrC, recC]
  refine ⟨⟨by omega, by simp only [maxI]; omega⟩, fun cap' _ _ => ?_⟩
  rw [e3]
  exact ⟨_, _, Le.off [some 0, some 2] (by rfl) (by rfl) (by simp only [rX2, bd, bdL, bdB, bdH, bdT, front, VLe, VLeL, BLe, Phan, TLe, HLe, ro, Blk.owned, CLe, rr, given, mrg, exct, shr, ren, renL, renB, Nat.reduceAdd, Nat.reduceSub, Nat.reduceLT, Nat.reduceLeDiff, Nat.reduceEqDiff, Nat.reduceBEq, Nat.reduceBNe, reduceCtorEq, nmC, nmV, rBE, ow, wrC, recC]; intro j hj; rw [key j hj]; simp only [rX2, bd, bdL, bdB, bdH, bdT, front, VLe, VLeL, BLe, Phan, TLe, HLe, ro, Blk.owned, CLe, rr, given, mrg, exct, shr, ren, renL, renB, Nat.reduceAdd, Nat.reduceSub, Nat.reduceLT, Nat.reduceLeDiff, Nat.reduceEqDiff, Nat.reduceBEq, Nat.reduceBNe, reduceCtorEq, nmC, nmV, rBE, ow, wrC, recC]), cap', rfl, rfl⟩
theorem znamed_ok (L : List Int) (cap : Nat) (x : Nm) (hL : L.length ≤ 50000) :
    VCall Try.prog 57 [.slice 0 L.length cap, nmV x] [ow L cap] fun v h => ∃ cap', v = .slice 1 (L ++ nB x).length cap' ∧ h = [.gone, ow (L ++ nB x) cap'] := by
  unfold ow
  refine VC.out ?_
  refine wbody Try.func57 rfl (by kernel_rfl) ?_
  rw [Try.ntmps57, Try.results57]
  simp (implicitDefEqProofs := false) (maxSteps := 1000000) only [rX1, bd, bdL, bdB, bdH, bdT, front, VLe, VLeL, BLe, Phan, TLe, HLe, ro, Blk.owned, CLe, rr, given, mrg, exct, shr, ren, renL, renB, Nat.reduceBEq, Nat.reduceBNe, rX0, ofVal, ofVals, cellsV, vStore.isTup, eqL, eqV, Blk.deg, oneV, elApp, Nat.reduceAdd, Nat.reduceSub, Nat.reduceMul, Nat.reduceLT, Nat.reduceLeDiff, Nat.reduceEqDiff, Int.reduceToNat, Int.reduceGT, Int.reduceGE, Int.reduceMul, Int.reduceLT, Int.reduceLE, Int.reduceAdd, Int.reduceSub, Int.reduceNeg, reduceCtorEq, Sf.T3, Sf.T4, Sf.T5, Sf.T22, Sf.T24, Sf.T26, Sf.T27, Sf.T89, Sf.T54, Sf.T29, Sf.T31, nmC, nmV, rBE, ow, wrC, recC]
  refine vframe (zthree_ok L cap x.a (by omega)) [0] (by rfl) (by simp only [rX2, bd, bdL, bdB, bdH, bdT, front, VLe, VLeL, BLe, Phan, TLe, HLe, ro, Blk.owned, CLe, rr, given, mrg, exct, shr, ren, renL, renB, Nat.reduceAdd, Nat.reduceSub, Nat.reduceLT, Nat.reduceLeDiff, Nat.reduceEqDiff, Nat.reduceBEq, Nat.reduceBNe, reduceCtorEq, nmC, nmV, rBE, ow, wrC, recC]) ?_
  rintro v h ⟨c1, rfl, rfl⟩ -
  simp (implicitDefEqProofs := false) (maxSteps := 1000000) only [rX2, bd, bdL, bdB, bdH, bdT, front, VLe, VLeL, BLe, Phan, TLe, HLe, ro, Blk.owned, CLe, rr, given, mrg, exct, shr, ren, renL, renB, Nat.reduceAdd, Nat.reduceSub, Nat.reduceLT, Nat.reduceLeDiff, Nat.reduceEqDiff, Nat.reduceBEq, Nat.reduceBNe, reduceCtorEq, nmC, nmV, rBE, ow, wrC, recC, rX0, ofVal, ofVals, cellsV, vStore.isTup, eqL, eqV, Blk.deg, oneV, elApp, Nat.reduceAdd, Nat.reduceSub, Nat.reduceMul, Nat.reduceLT, Nat.reduceLeDiff, Nat.reduceEqDiff, Int.reduceToNat, Int.reduceGT, Int.reduceGE, Int.reduceMul, Int.reduceLT, Int.reduceLE, Int.reduceAdd, Int.reduceSub, Int.reduceNeg, reduceCtorEq, Sf.T3, Sf.T4, Sf.T5, Sf.T22, Sf.T24, Sf.T26, Sf.T27, Sf.T89, Sf.T54, Sf.T29, Sf.T31, nmC, nmV, rBE, ow, wrC, recC]
  refine vframe (zthree_ok (L ++ b3 x.a) c1 x.b (by simp [b3_length]; omega)) [2] (by rfl) (by simp only [rX2, bd, bdL, bdB, bdH, bdT, front, VLe, VLeL, BLe, Phan, TLe, HLe, ro, Blk.owned, CLe, rr, given, mrg, exct, shr, ren, renL, renB, Nat.reduceAdd, Nat.reduceSub, Nat.reduceLT, Nat.reduceLeDiff, Nat.reduceEqDiff, Nat.reduceBEq, Nat.reduceBNe, reduceCtorEq, nmC, nmV, rBE, ow, wrC, recC]) ?_
  rintro v h ⟨c2, rfl, rfl⟩ -
  simp (implicitDefEqProofs := false) (maxSteps := 1000000) only [rX2, bd, bdL, bdB, bdH, bdT, front, VLe, VLeL, BLe, Phan, TLe, HLe, ro, Blk.owned, CLe, rr, given, mrg, exct, shr, ren, renL, renB, Nat.reduceAdd, Nat.reduceSub, Nat.reduceLT, Nat.reduceLeDiff, Nat.reduceEqDiff, Nat.reduceBEq, Nat.reduceBNe, reduceCtorEq, nmC, nmV, rBE, ow, wrC, recC, rX0, ofVal, ofVals, cellsV, vStore.isTup, eqL, eqV, Blk.deg, oneV, elApp, Nat.reduceAdd, Nat.reduceSub, Nat.reduceMul, Nat.reduceLT, Nat.reduceLeDiff, Nat.reduceEqDiff, Int.reduceToNat, Int.reduceGT, Int.reduceGE, Int.reduceMul, Int.reduceLT, Int.reduceLE, Int.reduceAdd, Int.reduceSub, Int.reduceNeg, reduceCtorEq, Sf.T3, Sf.T4, Sf.T5, Sf.T22, Sf.T24, Sf.T26, Sf.T27, Sf.T89, Sf.T54, Sf.T29, Sf.T31, nmC, nmV, rBE, ow, wrC, recC]
  refine vframe (zthree_ok (L ++ (b3 x.a ++ b3 x.b)) c2 x.c (by simp [b3_length]; omega)) [3] (by rfl) (by simp only [rX2, bd, bdL, bdB, bdH, bdT, front, VLe, VLeL, BLe, Phan, TLe, HLe, ro, Blk.owned, CLe, rr, given, mrg, exct, shr, ren, renL, renB, Nat.reduceAdd, Nat.reduceSub, Nat.reduceLT, Nat.reduceLeDiff, Nat.reduceEqDiff, Nat.reduceBEq, Nat.reduceBNe, reduceCtorEq, nmC, nmV, rBE, ow, wrC, recC]) ?_
  rintro v h ⟨c3, rfl, rfl⟩ -
  simp (implicitDefEqProofs := false) (maxSteps := 1000000) only [rX2, bd, bdL, bdB, bdH, bdT, front, VLe, VLeL, BLe, Phan, TLe, HLe, ro, Blk.owned, CLe, rr, given, mrg, exct, shr, ren, renL, renB, Nat.reduceAdd, Nat.reduceSub, Nat.reduceLT, Nat.reduceLeDiff, Nat.reduceEqDiff, Nat.reduceBEq, Nat.reduceBNe, reduceCtorEq, nmC, nmV, rBE, ow, wrC, recC, rX0, ofVal, ofVals, cellsV, vStore.isTup, eqL, eqV, Blk.deg, oneV, elApp, Nat.reduceAdd, Nat.reduceSub, Nat.reduceMul, Nat.reduceLT, Nat.reduceLeDiff, Nat.reduceEqDiff, Int.reduceToNat, Int.reduceGT, Int.reduceGE, Int.reduceMul, Int.reduceLT, Int.reduceLE, Int.reduceAdd, Int.reduceSub, Int.reduceNeg, reduceCtorEq, Sf.T3, Sf.T4, Sf.T5, Sf.T22, Sf.T24, Sf.T26, Sf.T27, Sf.T89, Sf.T54, Sf.T29, Sf.T31, nmC, nmV, rBE, ow, wrC, recC]
  rw [show b3 x.a ++ (b3 x.b ++ b3 x.c) = nB x from rfl]
  exact ⟨_, _, Le.off [some 0, some 4] (by rfl) (by rfl) (by simp only [rX2, bd, bdL, bdB, bdH, bdT, front, VLe, VLeL, BLe, Phan, TLe, HLe, ro, Blk.owned, CLe, rr, given, mrg, exct, shr, ren, renL, renB, Nat.reduceAdd, Nat.reduceSub, Nat.reduceLT, Nat.reduceLeDiff, Nat.reduceEqDiff, Nat.reduceBEq, Nat.reduceBNe, reduceCtorEq, nmC, nmV, rBE, ow, wrC, recC]), c3, rfl, rfl⟩
end Go.Proofs.Ytnlammgemaapnaa
