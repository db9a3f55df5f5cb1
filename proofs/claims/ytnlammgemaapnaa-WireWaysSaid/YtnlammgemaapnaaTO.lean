/- Sums: remainders, as the walk says them. -/
import Derived.Test.YtnlammgemaapnaaRD
import Derived.Test.YtnlammgemaapnaaSh
set_option linter.unusedSimpArgs false
set_option linter.unusedVariables false
set_option maxRecDepth 100000
namespace Go.Proofs.Ytnlammgemaapnaa
open Go Go.Sx
theorem bE_many (L M : List Int) (j : Nat) (hj : j < L.length + M.length) : elApp L.length (bE L) (chunk 1 (M.map fun x => VV.int .u8 x)) j = bE (L ++ M) j := by
  rw [← bE_app]
  unfold elApp
  by_cases h : j < L.length
  · simp [h]
  · simp only [h, if_false]
    unfold chunk bE
    rw [seg_eq, Nat.mul_one]
    have hl : j - L.length < M.length := by omega
    rw [List.getD_eq_getElem?_getD, List.getElem?_eq_getElem hl, Option.getD_some]
    have : (List.map (fun x => VV.int .u8 x) M).drop (j - L.length) = (VV.int .u8 (M[j - L.length])) :: (List.map (fun x => VV.int .u8 x) M).drop (j - L.length + 1) := by
      rw [List.drop_eq_getElem_cons (by simpa using hl)]
      simp
    rw [this]; rfl
def stepF (r : Int) : Int := bitsI .xor .u32 (shrI .u32 r 1) (bitsI .and .u32 3988292384 (IntKind.u32.wrap (0 - bitsI .and .u32 r 1)))
def halfF (r : Int) : Int := stepF (stepF (stepF (stepF r)))
def tabC : List VV := [.int .u32 (halfF 0), .int .u32 (halfF 1), .int .u32 (halfF 2), .int .u32 (halfF 3), .int .u32 (halfF 4), .int .u32 (halfF 5), .int .u32 (halfF 6), .int .u32 (halfF 7), .int .u32 (halfF 8), .int .u32 (halfF 9), .int .u32 (halfF 10), .int .u32 (halfF 11), .int .u32 (halfF 12), .int .u32 (halfF 13), .int .u32 (halfF 14), .int .u32 (halfF 15)]
theorem half_ok (r : Int) : VCall Try.prog 155 [.int .u32 r] [] fun v h => v = .int .u32 (halfF r) ∧ h = [] := by
  refine VCall.trim 0 (Nat.le_of_ble_eq_true rfl) ?_
  refine wbody Try.func155 rfl (by kernel_rfl) ?_
  rw [Try.ntmps155, Try.results155]
  simp (implicitDefEqProofs := false) (maxSteps := 1000000) only [rX1, bd, bdL, bdB, bdH, bdT, front, VLe, VLeL, BLe, Phan, TLe, HLe, ro, Blk.owned, CLe, rr, given, mrg, exct, shr, ren, renL, renB, Nat.reduceBEq, Nat.reduceBNe, rX0, ofVal, ofVals, cellsV, vStore.isTup, eqL, eqV, Blk.deg, oneV, elApp, Nat.reduceAdd, Nat.reduceSub, Nat.reduceMul, Nat.reduceLT, Nat.reduceLeDiff, Nat.reduceEqDiff, Int.reduceToNat, Int.reduceGT, Int.reduceGE, Int.reduceMul, Int.reduceLT, Int.reduceLE, Int.reduceAdd, Int.reduceSub, Int.reduceNeg, reduceCtorEq, Sf.T3, Sf.T4, Sf.T5, Sf.T22, Sf.T150, Sf.T172, rBE, ow, rw, tabC]
  refine vrounds 5 ?_
  simp (implicitDefEqProofs := false) (maxSteps := 1000000) only [rX2, bd, bdL, bdB, bdH, bdT, front, VLe, VLeL, BLe, Phan, TLe, HLe, ro, Blk.owned, CLe, rr, given, mrg, exct, shr, ren, renL, renB, Nat.reduceAdd, Nat.reduceSub, Nat.reduceLT, Nat.reduceLeDiff, Nat.reduceEqDiff, Nat.reduceBEq, Nat.reduceBNe, reduceCtorEq, rBE, ow, rw, tabC, rX0, ofVal, ofVals, cellsV, vStore.isTup, eqL, eqV, Blk.deg, oneV, elApp, Nat.reduceAdd, Nat.reduceSub, Nat.reduceMul, Nat.reduceLT, Nat.reduceLeDiff, Nat.reduceEqDiff, Int.reduceToNat, Int.reduceGT, Int.reduceGE, Int.reduceMul, Int.reduceLT, Int.reduceLE, Int.reduceAdd, Int.reduceSub, Int.reduceNeg, reduceCtorEq, Sf.T3, Sf.T4, Sf.T5, Sf.T22, Sf.T150, Sf.T172, rBE, ow, rw, tabC]
  rfl
theorem table_ok : VCall Try.prog 154 [] [] fun v h => v = .agg tabC ∧ h = [] := by
  unfold tabC
  refine VCall.trim 0 (Nat.le_of_ble_eq_true rfl) ?_
  refine wbody Try.func154 rfl (by kernel_rfl) ?_
  rw [Try.ntmps154, Try.results154]
  simp (implicitDefEqProofs := false) (maxSteps := 1000000) only [rX1, bd, bdL, bdB, bdH, bdT, front, VLe, VLeL, BLe, Phan, TLe, HLe, ro, Blk.owned, CLe, rr, given, mrg, exct, shr, ren, renL, renB, Nat.reduceBEq, Nat.reduceBNe, rX0, ofVal, ofVals, cellsV, vStore.isTup, eqL, eqV, Blk.deg, oneV, elApp, Nat.reduceAdd, Nat.reduceSub, Nat.reduceMul, Nat.reduceLT, Nat.reduceLeDiff, Nat.reduceEqDiff, Int.reduceToNat, Int.reduceGT, Int.reduceGE, Int.reduceMul, Int.reduceLT, Int.reduceLE, Int.reduceAdd, Int.reduceSub, Int.reduceNeg, reduceCtorEq, Sf.T3, Sf.T4, Sf.T5, Sf.T22, Sf.T150, Sf.T172, rBE, ow, rw, tabC]
  refine vrounds 17 ?_
  simp (implicitDefEqProofs := false) (maxSteps := 1000000) only [rX2, bd, bdL, bdB, bdH, bdT, front, VLe, VLeL, BLe, Phan, TLe, HLe, ro, Blk.owned, CLe, rr, given, mrg, exct, shr, ren, renL, renB, Nat.reduceAdd, Nat.reduceSub, Nat.reduceLT, Nat.reduceLeDiff, Nat.reduceEqDiff, Nat.reduceBEq, Nat.reduceBNe, reduceCtorEq, rBE, ow, rw, tabC, rX0, ofVal, ofVals, cellsV, vStore.isTup, eqL, eqV, Blk.deg, oneV, elApp, Nat.reduceAdd, Nat.reduceSub, Nat.reduceMul, Nat.reduceLT, Nat.reduceLeDiff, Nat.reduceEqDiff, Int.reduceToNat, Int.reduceGT, Int.reduceGE, Int.reduceMul, Int.reduceLT, Int.reduceLE, Int.reduceAdd, Int.reduceSub, Int.reduceNeg, reduceCtorEq, Sf.T3, Sf.T4, Sf.T5, Sf.T22, Sf.T150, Sf.T172, rBE, ow, rw, tabC]
  refine vframe (half_ok 0) [] (by rfl) (by simp only [rX2, bd, bdL, bdB, bdH, bdT, front, VLe, VLeL, BLe, Phan, TLe, HLe, ro, Blk.owned, CLe, rr, given, mrg, exct, shr, ren, renL, renB, Nat.reduceAdd, Nat.reduceSub, Nat.reduceLT, Nat.reduceLeDiff, Nat.reduceEqDiff, Nat.reduceBEq, Nat.reduceBNe, reduceCtorEq, rBE, ow, rw, tabC]) ?_
  rintro v h ⟨rfl, rfl⟩ -
  simp (implicitDefEqProofs := false) (maxSteps := 1000000) only [rX2, bd, bdL, bdB, bdH, bdT, front, VLe, VLeL, BLe, Phan, TLe, HLe, ro, Blk.owned, CLe, rr, given, mrg, exct, shr, ren, renL, renB, Nat.reduceAdd, Nat.reduceSub, Nat.reduceLT, Nat.reduceLeDiff, Nat.reduceEqDiff, Nat.reduceBEq, Nat.reduceBNe, reduceCtorEq, rBE, ow, rw, tabC, rX0, ofVal, ofVals, cellsV, vStore.isTup, eqL, eqV, Blk.deg, oneV, elApp, Nat.reduceAdd, Nat.reduceSub, Nat.reduceMul, Nat.reduceLT, Nat.reduceLeDiff, Nat.reduceEqDiff, Int.reduceToNat, Int.reduceGT, Int.reduceGE, Int.reduceMul, Int.reduceLT, Int.reduceLE, Int.reduceAdd, Int.reduceSub, Int.reduceNeg, reduceCtorEq, Sf.T3, Sf.T4, Sf.T5, Sf.T22, Sf.T150, Sf.T172, rBE, ow, rw, tabC]
  refine vframe (half_ok 1) [] (by rfl) (by simp only [rX2, bd, bdL, bdB, bdH, bdT, front, VLe, VLeL, BLe, Phan, TLe, HLe, ro, Blk.owned, CLe, rr, given, mrg, exct, shr, ren, renL, renB, Nat.reduceAdd, Nat.reduceSub, Nat.reduceLT, Nat.reduceLeDiff, Nat.reduceEqDiff, Nat.reduceBEq, Nat.reduceBNe, reduceCtorEq, rBE, ow, rw, tabC]) ?_
  rintro v h ⟨rfl, rfl⟩ -
  simp (implicitDefEqProofs := false) (maxSteps := 1000000) only [rX2, bd, bdL, bdB, bdH, bdT, front, VLe, VLeL, BLe, Phan, TLe, HLe, ro, Blk.owned, CLe, rr, given, mrg, exct, shr, ren, renL, renB, Nat.reduceAdd, Nat.reduceSub, Nat.reduceLT, Nat.reduceLeDiff, Nat.reduceEqDiff, Nat.reduceBEq, Nat.reduceBNe, reduceCtorEq, rBE, ow, rw, tabC, rX0, ofVal, ofVals, cellsV, vStore.isTup, eqL, eqV, Blk.deg, oneV, elApp, Nat.reduceAdd, Nat.reduceSub, Nat.reduceMul, Nat.reduceLT, Nat.reduceLeDiff, Nat.reduceEqDiff, Int.reduceToNat, Int.reduceGT, Int.reduceGE, Int.reduceMul, Int.reduceLT, Int.reduceLE, Int.reduceAdd, Int.reduceSub, Int.reduceNeg, reduceCtorEq, Sf.T3, Sf.T4, Sf.T5, Sf.T22, Sf.T150, Sf.T172, rBE, ow, rw, tabC]
  refine vframe (half_ok 2) [] (by rfl) (by simp only [rX2, bd, bdL, bdB, bdH, bdT, front, VLe, VLeL, BLe, Phan, TLe, HLe, ro, Blk.owned, CLe, rr, given, mrg, exct, shr, ren, renL, renB, Nat.reduceAdd, Nat.reduceSub, Nat.reduceLT, Nat.reduceLeDiff, Nat.reduceEqDiff, Nat.reduceBEq, Nat.reduceBNe, reduceCtorEq, rBE, ow, rw, tabC]) ?_
  rintro v h ⟨rfl, rfl⟩ -
  simp (implicitDefEqProofs := false) (maxSteps := 1000000) only [rX2, bd, bdL, bdB, bdH, bdT, front, VLe, VLeL, BLe, Phan, TLe, HLe, ro, Blk.owned, CLe, rr, given, mrg, exct, shr, ren, renL, renB, Nat.reduceAdd, Nat.reduceSub, Nat.reduceLT, Nat.reduceLeDiff, Nat.reduceEqDiff, Nat.reduceBEq, Nat.reduceBNe, reduceCtorEq, rBE, ow, rw, tabC, rX0, ofVal, ofVals, cellsV, vStore.isTup, eqL, eqV, Blk.deg, oneV, elApp, Nat.reduceAdd, Nat.reduceSub, Nat.reduceMul, Nat.reduceLT, Nat.reduceLeDiff, Nat.reduceEqDiff, Int.reduceToNat, Int.reduceGT, Int.reduceGE, Int.reduceMul, Int.reduceLT, Int.reduceLE, Int.reduceAdd, Int.reduceSub, Int.reduceNeg, reduceCtorEq, Sf.T3, Sf.T4, Sf.T5, Sf.T22, Sf.T150, Sf.T172, rBE, ow, rw, tabC]
  refine vframe (half_ok 3) [] (by rfl) (by simp only [rX2, bd, bdL, bdB, bdH, bdT, front, VLe, VLeL, BLe, Phan, TLe, HLe, ro, Blk.owned, CLe, rr, given, mrg, exct, shr, ren, renL, renB, Nat.reduceAdd, Nat.reduceSub, Nat.reduceLT, Nat.reduceLeDiff, Nat.reduceEqDiff, Nat.reduceBEq, Nat.reduceBNe, reduceCtorEq, rBE, ow, rw, tabC]) ?_
  rintro v h ⟨rfl, rfl⟩ -
  simp (implicitDefEqProofs := false) (maxSteps := 1000000) only [rX2, bd, bdL, bdB, bdH, bdT, front, VLe, VLeL, BLe, Phan, TLe, HLe, ro, Blk.owned, CLe, rr, given, mrg, exct, shr, ren, renL, renB, Nat.reduceAdd, Nat.reduceSub, Nat.reduceLT, Nat.reduceLeDiff, Nat.reduceEqDiff, Nat.reduceBEq, Nat.reduceBNe, reduceCtorEq, rBE, ow, rw, tabC, rX0, ofVal, ofVals, cellsV, vStore.isTup, eqL, eqV, Blk.deg, oneV, elApp, Nat.reduceAdd, Nat.reduceSub, Nat.reduceMul, Nat.reduceLT, Nat.reduceLeDiff, Nat.reduceEqDiff, Int.reduceToNat, Int.reduceGT, Int.reduceGE, Int.reduceMul, Int.reduceLT, Int.reduceLE, Int.reduceAdd, Int.reduceSub, Int.reduceNeg, reduceCtorEq, Sf.T3, Sf.T4, Sf.T5, Sf.T22, Sf.T150, Sf.T172, rBE, ow, rw, tabC]
  refine vframe (half_ok 4) [] (by rfl) (by simp only [rX2, bd, bdL, bdB, bdH, bdT, front, VLe, VLeL, BLe, Phan, TLe, HLe, ro, Blk.owned, CLe, rr, given, mrg, exct, shr, ren, renL, renB, Nat.reduceAdd, Nat.reduceSub, Nat.reduceLT, Nat.reduceLeDiff, Nat.reduceEqDiff, Nat.reduceBEq, Nat.reduceBNe, reduceCtorEq, rBE, ow, rw, tabC]) ?_
  rintro v h ⟨rfl, rfl⟩ -
  simp (implicitDefEqProofs := false) (maxSteps := 1000000) only [rX2, bd, bdL, bdB, bdH, bdT, front, VLe, VLeL, BLe, Phan, TLe, HLe, ro, Blk.owned, CLe, rr, given, mrg, exct, shr, ren, renL, renB, Nat.reduceAdd, Nat.reduceSub, Nat.reduceLT, Nat.reduceLeDiff, Nat.reduceEqDiff, Nat.reduceBEq, Nat.reduceBNe, reduceCtorEq, rBE, ow, rw, tabC, rX0, ofVal, ofVals, cellsV, vStore.isTup, eqL, eqV, Blk.deg, oneV, elApp, Nat.reduceAdd, Nat.reduceSub, Nat.reduceMul, Nat.reduceLT, Nat.reduceLeDiff, Nat.reduceEqDiff, Int.reduceToNat, Int.reduceGT, Int.reduceGE, Int.reduceMul, Int.reduceLT, Int.reduceLE, Int.reduceAdd, Int.reduceSub, Int.reduceNeg, reduceCtorEq, Sf.T3, Sf.T4, Sf.T5, Sf.T22, Sf.T150, Sf.T172, rBE, ow, rw, tabC]
  refine vframe (half_ok 5) [] (by rfl) (by simp only [rX2, bd, bdL, bdB, bdH, bdT, front, VLe, VLeL, BLe, Phan, TLe, HLe, ro, Blk.owned, CLe, rr, given, mrg, exct, shr, ren, renL, renB, Nat.reduceAdd, Nat.reduceSub, Nat.reduceLT, Nat.reduceLeDiff, Nat.reduceEqDiff, Nat.reduceBEq, Nat.reduceBNe, reduceCtorEq, rBE, ow, rw, tabC]) ?_
  rintro v h ⟨rfl, rfl⟩ -
  simp (implicitDefEqProofs := false) (maxSteps := 1000000) only [rX2, bd, bdL, bdB, bdH, bdT, front, VLe, VLeL, BLe, Phan, TLe, HLe, ro, Blk.owned, CLe, rr, given, mrg, exct, shr, ren, renL, renB, Nat.reduceAdd, Nat.reduceSub, Nat.reduceLT, Nat.reduceLeDiff, Nat.reduceEqDiff, Nat.reduceBEq, Nat.reduceBNe, reduceCtorEq, rBE, ow, rw, tabC, rX0, ofVal, ofVals, cellsV, vStore.isTup, eqL, eqV, Blk.deg, oneV, elApp, Nat.reduceAdd, Nat.reduceSub, Nat.reduceMul, Nat.reduceLT, Nat.reduceLeDiff, Nat.reduceEqDiff, Int.reduceToNat, Int.reduceGT, Int.reduceGE, Int.reduceMul, Int.reduceLT, Int.reduceLE, Int.reduceAdd, Int.reduceSub, Int.reduceNeg, reduceCtorEq, Sf.T3, Sf.T4, Sf.T5, Sf.T22, Sf.T150, Sf.T172, rBE, ow, rw, tabC]
  refine vframe (half_ok 6) [] (by rfl) (by simp only [rX2, bd, bdL, bdB, bdH, bdT, front, VLe, VLeL, BLe, Phan, TLe, HLe, ro, Blk.owned, CLe, rr, given, mrg, exct, shr, ren, renL, renB, Nat.reduceAdd, Nat.reduceSub, Nat.reduceLT, Nat.reduceLeDiff, Nat.reduceEqDiff, Nat.reduceBEq, Nat.reduceBNe, reduceCtorEq, rBE, ow, rw, tabC]) ?_
  rintro v h ⟨rfl, rfl⟩ -
  simp (implicitDefEqProofs := false) (maxSteps := 1000000) only [rX2, bd, bdL, bdB, bdH, bdT, front, VLe, VLeL, BLe, Phan, TLe, HLe, ro, Blk.owned, CLe, rr, given, mrg, exct, shr, ren, renL, renB, Nat.reduceAdd, Nat.reduceSub, Nat.reduceLT, Nat.reduceLeDiff, Nat.reduceEqDiff, Nat.reduceBEq, Nat.reduceBNe, reduceCtorEq, rBE, ow, rw, tabC, rX0, ofVal, ofVals, cellsV, vStore.isTup, eqL, eqV, Blk.deg, oneV, elApp, Nat.reduceAdd, Nat.reduceSub, Nat.reduceMul, Nat.reduceLT, Nat.reduceLeDiff, Nat.reduceEqDiff, Int.reduceToNat, Int.reduceGT, Int.reduceGE, Int.reduceMul, Int.reduceLT, Int.reduceLE, Int.reduceAdd, Int.reduceSub, Int.reduceNeg, reduceCtorEq, Sf.T3, Sf.T4, Sf.T5, Sf.T22, Sf.T150, Sf.T172, rBE, ow, rw, tabC]
  refine vframe (half_ok 7) [] (by rfl) (by simp only [rX2, bd, bdL, bdB, bdH, bdT, front, VLe, VLeL, BLe, Phan, TLe, HLe, ro, Blk.owned, CLe, rr, given, mrg, exct, shr, ren, renL, renB, Nat.reduceAdd, Nat.reduceSub, Nat.reduceLT, Nat.reduceLeDiff, Nat.reduceEqDiff, Nat.reduceBEq, Nat.reduceBNe, reduceCtorEq, rBE, ow, rw, tabC]) ?_
  rintro v h ⟨rfl, rfl⟩ -
  simp (implicitDefEqProofs := false) (maxSteps := 1000000) only [rX2, bd, bdL, bdB, bdH, bdT, front, VLe, VLeL, BLe, Phan, TLe, HLe, ro, Blk.owned, CLe, rr, given, mrg, exct, shr, ren, renL, renB, Nat.reduceAdd, Nat.reduceSub, Nat.reduceLT, Nat.reduceLeDiff, Nat.reduceEqDiff, Nat.reduceBEq, Nat.reduceBNe, reduceCtorEq, rBE, ow, rw, tabC, rX0, ofVal, ofVals, cellsV, vStore.isTup, eqL, eqV, Blk.deg, oneV, elApp, Nat.reduceAdd, Nat.reduceSub, Nat.reduceMul, Nat.reduceLT, Nat.reduceLeDiff, Nat.reduceEqDiff, Int.reduceToNat, Int.reduceGT, Int.reduceGE, Int.reduceMul, Int.reduceLT, Int.reduceLE, Int.reduceAdd, Int.reduceSub, Int.reduceNeg, reduceCtorEq, Sf.T3, Sf.T4, Sf.T5, Sf.T22, Sf.T150, Sf.T172, rBE, ow, rw, tabC]
  refine vframe (half_ok 8) [] (by rfl) (by simp only [rX2, bd, bdL, bdB, bdH, bdT, front, VLe, VLeL, BLe, Phan, TLe, HLe, ro, Blk.owned, CLe, rr, given, mrg, exct, shr, ren, renL, renB, Nat.reduceAdd, Nat.reduceSub, Nat.reduceLT, Nat.reduceLeDiff, Nat.reduceEqDiff, Nat.reduceBEq, Nat.reduceBNe, reduceCtorEq, rBE, ow, rw, tabC]) ?_
  rintro v h ⟨rfl, rfl⟩ -
  simp (implicitDefEqProofs := false) (maxSteps := 1000000) only [rX2, bd, bdL, bdB, bdH, bdT, front, VLe, VLeL, BLe, Phan, TLe, HLe, ro, Blk.owned, CLe, rr, given, mrg, exct, shr, ren, renL, renB, Nat.reduceAdd, Nat.reduceSub, Nat.reduceLT, Nat.reduceLeDiff, Nat.reduceEqDiff, Nat.reduceBEq, Nat.reduceBNe, reduceCtorEq, rBE, ow, rw, tabC, rX0, ofVal, ofVals, cellsV, vStore.isTup, eqL, eqV, Blk.deg, oneV, elApp, Nat.reduceAdd, Nat.reduceSub, Nat.reduceMul, Nat.reduceLT, Nat.reduceLeDiff, Nat.reduceEqDiff, Int.reduceToNat, Int.reduceGT, Int.reduceGE, Int.reduceMul, Int.reduceLT, Int.reduceLE, Int.reduceAdd, Int.reduceSub, Int.reduceNeg, reduceCtorEq, Sf.T3, Sf.T4, Sf.T5, Sf.T22, Sf.T150, Sf.T172, rBE, ow, rw, tabC]
  refine vframe (half_ok 9) [] (by rfl) (by simp only [rX2, bd, bdL, bdB, bdH, bdT, front, VLe, VLeL, BLe, Phan, TLe, HLe, ro, Blk.owned, CLe, rr, given, mrg, exct, shr, ren, renL, renB, Nat.reduceAdd, Nat.reduceSub, Nat.reduceLT, Nat.reduceLeDiff, Nat.reduceEqDiff, Nat.reduceBEq, Nat.reduceBNe, reduceCtorEq, rBE, ow, rw, tabC]) ?_
  rintro v h ⟨rfl, rfl⟩ -
  simp (implicitDefEqProofs := false) (maxSteps := 1000000) only [rX2, bd, bdL, bdB, bdH, bdT, front, VLe, VLeL, BLe, Phan, TLe, HLe, ro, Blk.owned, CLe, rr, given, mrg, exct, shr, ren, renL, renB, Nat.reduceAdd, Nat.reduceSub, Nat.reduceLT, Nat.reduceLeDiff, Nat.reduceEqDiff, Nat.reduceBEq, Nat.reduceBNe, reduceCtorEq, rBE, ow, rw, tabC, rX0, ofVal, ofVals, cellsV, vStore.isTup, eqL, eqV, Blk.deg, oneV, elApp, Nat.reduceAdd, Nat.reduceSub, Nat.reduceMul, Nat.reduceLT, Nat.reduceLeDiff, Nat.reduceEqDiff, Int.reduceToNat, Int.reduceGT, Int.reduceGE, Int.reduceMul, Int.reduceLT, Int.reduceLE, Int.reduceAdd, Int.reduceSub, Int.reduceNeg, reduceCtorEq, Sf.T3, Sf.T4, Sf.T5, Sf.T22, Sf.T150, Sf.T172, rBE, ow, rw, tabC]
  refine vframe (half_ok 10) [] (by rfl) (by simp only [rX2, bd, bdL, bdB, bdH, bdT, front, VLe, VLeL, BLe, Phan, TLe, HLe, ro, Blk.owned, CLe, rr, given, mrg, exct, shr, ren, renL, renB, Nat.reduceAdd, Nat.reduceSub, Nat.reduceLT, Nat.reduceLeDiff, Nat.reduceEqDiff, Nat.reduceBEq, Nat.reduceBNe, reduceCtorEq, rBE, ow, rw, tabC]) ?_
  rintro v h ⟨rfl, rfl⟩ -
  simp (implicitDefEqProofs := false) (maxSteps := 1000000) only [rX2, bd, bdL, bdB, bdH, bdT, front, VLe, VLeL, BLe, Phan, TLe, HLe, ro, Blk.owned, CLe, rr, given, mrg, exct, shr, ren, renL, renB, Nat.reduceAdd, Nat.reduceSub, Nat.reduceLT, Nat.reduceLeDiff, Nat.reduceEqDiff, Nat.reduceBEq, Nat.reduceBNe, reduceCtorEq, rBE, ow, rw, tabC, rX0, ofVal, ofVals, cellsV, vStore.isTup, eqL, eqV, Blk.deg, oneV, elApp, Nat.reduceAdd, Nat.reduceSub, Nat.reduceMul, Nat.reduceLT, Nat.reduceLeDiff, Nat.reduceEqDiff, Int.reduceToNat, Int.reduceGT, Int.reduceGE, Int.reduceMul, Int.reduceLT, Int.reduceLE, Int.reduceAdd, Int.reduceSub, Int.reduceNeg, reduceCtorEq, Sf.T3, Sf.T4, Sf.T5, Sf.T22, Sf.T150, Sf.T172, rBE, ow, rw, tabC]
  refine vframe (half_ok 11) [] (by rfl) (by simp only [rX2, bd, bdL, bdB, bdH, bdT, front, VLe, VLeL, BLe, Phan, TLe, HLe, ro, Blk.owned, CLe, rr, given, mrg, exct, shr, ren, renL, renB, Nat.reduceAdd, Nat.reduceSub, Nat.reduceLT, Nat.reduceLeDiff, Nat.reduceEqDiff, Nat.reduceBEq, Nat.reduceBNe, reduceCtorEq, rBE, ow, rw, tabC]) ?_
  rintro v h ⟨rfl, rfl⟩ -
  simp (implicitDefEqProofs := false) (maxSteps := 1000000) only [rX2, bd, bdL, bdB, bdH, bdT, front, VLe, VLeL, BLe, Phan, TLe, HLe, ro, Blk.owned, CLe, rr, given, mrg, exct, shr, ren, renL, renB, Nat.reduceAdd, Nat.reduceSub, Nat.reduceLT, Nat.reduceLeDiff, Nat.reduceEqDiff, Nat.reduceBEq, Nat.reduceBNe, reduceCtorEq, rBE, ow, rw, tabC, rX0, ofVal, ofVals, cellsV, vStore.isTup, eqL, eqV, Blk.deg, oneV, elApp, Nat.reduceAdd, Nat.reduceSub, Nat.reduceMul, Nat.reduceLT, Nat.reduceLeDiff, Nat.reduceEqDiff, Int.reduceToNat, Int.reduceGT, Int.reduceGE, Int.reduceMul, Int.reduceLT, Int.reduceLE, Int.reduceAdd, Int.reduceSub, Int.reduceNeg, reduceCtorEq, Sf.T3, Sf.T4, Sf.T5, Sf.T22, Sf.T150, Sf.T172, rBE, ow, rw, tabC]
  refine vframe (half_ok 12) [] (by rfl) (by simp only [rX2, bd, bdL, bdB, bdH, bdT, front, VLe, VLeL, BLe, Phan, TLe, HLe, ro, Blk.owned, CLe, rr, given, mrg, exct, shr, ren, renL, renB, Nat.reduceAdd, Nat.reduceSub, Nat.reduceLT, Nat.reduceLeDiff, Nat.reduceEqDiff, Nat.reduceBEq, Nat.reduceBNe, reduceCtorEq, rBE, ow, rw, tabC]) ?_
  rintro v h ⟨rfl, rfl⟩ -
  simp (implicitDefEqProofs := false) (maxSteps := 1000000) only [rX2, bd, bdL, bdB, bdH, bdT, front, VLe, VLeL, BLe, Phan, TLe, HLe, ro, Blk.owned, CLe, rr, given, mrg, exct, shr, ren, renL, renB, Nat.reduceAdd, Nat.reduceSub, Nat.reduceLT, Nat.reduceLeDiff, Nat.reduceEqDiff, Nat.reduceBEq, Nat.reduceBNe, reduceCtorEq, rBE, ow, rw, tabC, rX0, ofVal, ofVals, cellsV, vStore.isTup, eqL, eqV, Blk.deg, oneV, elApp, Nat.reduceAdd, Nat.reduceSub, Nat.reduceMul, Nat.reduceLT, Nat.reduceLeDiff, Nat.reduceEqDiff, Int.reduceToNat, Int.reduceGT, Int.reduceGE, Int.reduceMul, Int.reduceLT, Int.reduceLE, Int.reduceAdd, Int.reduceSub, Int.reduceNeg, reduceCtorEq, Sf.T3, Sf.T4, Sf.T5, Sf.T22, Sf.T150, Sf.T172, rBE, ow, rw, tabC]
  refine vframe (half_ok 13) [] (by rfl) (by simp only [rX2, bd, bdL, bdB, bdH, bdT, front, VLe, VLeL, BLe, Phan, TLe, HLe, ro, Blk.owned, CLe, rr, given, mrg, exct, shr, ren, renL, renB, Nat.reduceAdd, Nat.reduceSub, Nat.reduceLT, Nat.reduceLeDiff, Nat.reduceEqDiff, Nat.reduceBEq, Nat.reduceBNe, reduceCtorEq, rBE, ow, rw, tabC]) ?_
  rintro v h ⟨rfl, rfl⟩ -
  simp (implicitDefEqProofs := false) (maxSteps := 1000000) only [rX2, bd, bdL, bdB, bdH, bdT, front, VLe, VLeL, BLe, Phan, TLe, HLe, ro, Blk.owned, CLe, rr, given, mrg, exct, shr, ren, renL, renB, Nat.reduceAdd, Nat.reduceSub, Nat.reduceLT, Nat.reduceLeDiff, Nat.reduceEqDiff, Nat.reduceBEq, Nat.reduceBNe, reduceCtorEq, rBE, ow, rw, tabC, rX0, ofVal, ofVals, cellsV, vStore.isTup, eqL, eqV, Blk.deg, oneV, elApp, Nat.reduceAdd, Nat.reduceSub, Nat.reduceMul, Nat.reduceLT, Nat.reduceLeDiff, Nat.reduceEqDiff, Int.reduceToNat, Int.reduceGT, Int.reduceGE, Int.reduceMul, Int.reduceLT, Int.reduceLE, Int.reduceAdd, Int.reduceSub, Int.reduceNeg, reduceCtorEq, Sf.T3, Sf.T4, Sf.T5, Sf.T22, Sf.T150, Sf.T172, rBE, ow, rw, tabC]
  refine vframe (half_ok 14) [] (by rfl) (by simp only [rX2, bd, bdL, bdB, bdH, bdT, front, VLe, VLeL, BLe, Phan, TLe, HLe, ro, Blk.owned, CLe, rr, given, mrg, exct, shr, ren, renL, renB, Nat.reduceAdd, Nat.reduceSub, Nat.reduceLT, Nat.reduceLeDiff, Nat.reduceEqDiff, Nat.reduceBEq, Nat.reduceBNe, reduceCtorEq, rBE, ow, rw, tabC]) ?_
  rintro v h ⟨rfl, rfl⟩ -
  simp (implicitDefEqProofs := false) (maxSteps := 1000000) only [rX2, bd, bdL, bdB, bdH, bdT, front, VLe, VLeL, BLe, Phan, TLe, HLe, ro, Blk.owned, CLe, rr, given, mrg, exct, shr, ren, renL, renB, Nat.reduceAdd, Nat.reduceSub, Nat.reduceLT, Nat.reduceLeDiff, Nat.reduceEqDiff, Nat.reduceBEq, Nat.reduceBNe, reduceCtorEq, rBE, ow, rw, tabC, rX0, ofVal, ofVals, cellsV, vStore.isTup, eqL, eqV, Blk.deg, oneV, elApp, Nat.reduceAdd, Nat.reduceSub, Nat.reduceMul, Nat.reduceLT, Nat.reduceLeDiff, Nat.reduceEqDiff, Int.reduceToNat, Int.reduceGT, Int.reduceGE, Int.reduceMul, Int.reduceLT, Int.reduceLE, Int.reduceAdd, Int.reduceSub, Int.reduceNeg, reduceCtorEq, Sf.T3, Sf.T4, Sf.T5, Sf.T22, Sf.T150, Sf.T172, rBE, ow, rw, tabC]
  refine vframe (half_ok 15) [] (by rfl) (by simp only [rX2, bd, bdL, bdB, bdH, bdT, front, VLe, VLeL, BLe, Phan, TLe, HLe, ro, Blk.owned, CLe, rr, given, mrg, exct, shr, ren, renL, renB, Nat.reduceAdd, Nat.reduceSub, Nat.reduceLT, Nat.reduceLeDiff, Nat.reduceEqDiff, Nat.reduceBEq, Nat.reduceBNe, reduceCtorEq, rBE, ow, rw, tabC]) ?_
  rintro v h ⟨rfl, rfl⟩ -
  simp (implicitDefEqProofs := false) (maxSteps := 1000000) only [rX2, bd, bdL, bdB, bdH, bdT, front, VLe, VLeL, BLe, Phan, TLe, HLe, ro, Blk.owned, CLe, rr, given, mrg, exct, shr, ren, renL, renB, Nat.reduceAdd, Nat.reduceSub, Nat.reduceLT, Nat.reduceLeDiff, Nat.reduceEqDiff, Nat.reduceBEq, Nat.reduceBNe, reduceCtorEq, rBE, ow, rw, tabC, rX0, ofVal, ofVals, cellsV, vStore.isTup, eqL, eqV, Blk.deg, oneV, elApp, Nat.reduceAdd, Nat.reduceSub, Nat.reduceMul, Nat.reduceLT, Nat.reduceLeDiff, Nat.reduceEqDiff, Int.reduceToNat, Int.reduceGT, Int.reduceGE, Int.reduceMul, Int.reduceLT, Int.reduceLE, Int.reduceAdd, Int.reduceSub, Int.reduceNeg, reduceCtorEq, Sf.T3, Sf.T4, Sf.T5, Sf.T22, Sf.T150, Sf.T172, rBE, ow, rw, tabC]
theorem tab_nth (k : Nat) (hk : k ≤ 15) : nth tabC k = some (.int .u32 (halfF k)) := by
  match k, hk with
  | 0, _ | 1, _ | 2, _ | 3, _ | 4, _ | 5, _ | 6, _ | 7, _ | 8, _ | 9, _ | 10, _ | 11, _ | 12, _ | 13, _ | 14, _ | 15, _ => rfl
theorem and15 (r : Int) : ∃ k : Nat, bitsI .and .u32 r 15 = (k : Int) ∧ k ≤ 15 := by
  refine ⟨(BitVec.ofInt 32 r &&& BitVec.ofInt 32 15).toNat, ?_, ?_⟩
  · show IntKind.u32.wrap ((BitVec.ofInt 32 r &&& BitVec.ofInt 32 15).toNat : Int) = _
    exact IntWalk.u32_in _ (by have := (BitVec.ofInt 32 r &&& BitVec.ofInt 32 15).isLt; omega)
  · rw [BitVec.toNat_and]
    exact Nat.and_le_right
def nibF (r : Int) : Int := bitsI .xor .u32 (shrI .u32 r 4) (halfF (bitsI .and .u32 r 15))
def thrS (r b : Int) : Int := nibF (nibF (bitsI .xor .u32 r b))
def thrF (r : Int) (L : List Int) : Int := L.foldl thrS r
theorem through_ok (r : Int) (L : List Int) (cap : Nat) (hB : Bys L) (hl : L.length ≤ 100000) : VCall Try.prog 153 [.int .u32 r, .slice 0 L.length cap] [rw L] fun v h => v = .int .u32 (thrF r L) ∧ h = [rw L] := by
  have ht := table_ok
  unfold tabC at ht
  unfold rw
  refine VCall.trim 1 (Nat.le_of_ble_eq_true rfl) ?_
  refine wbody Try.func153 rfl (by kernel_rfl) ?_
  rw [Try.ntmps153, Try.results153]
  simp (implicitDefEqProofs := false) (maxSteps := 1000000) only [rX1, bd, bdL, bdB, bdH, bdT, front, VLe, VLeL, BLe, Phan, TLe, HLe, ro, Blk.owned, CLe, rr, given, mrg, exct, shr, ren, renL, renB, Nat.reduceBEq, Nat.reduceBNe, rX0, ofVal, ofVals, cellsV, vStore.isTup, eqL, eqV, Blk.deg, oneV, elApp, Nat.reduceAdd, Nat.reduceSub, Nat.reduceMul, Nat.reduceLT, Nat.reduceLeDiff, Nat.reduceEqDiff, Int.reduceToNat, Int.reduceGT, Int.reduceGE, Int.reduceMul, Int.reduceLT, Int.reduceLE, Int.reduceAdd, Int.reduceSub, Int.reduceNeg, reduceCtorEq, Sf.T3, Sf.T4, Sf.T5, Sf.T22, Sf.T150, Sf.T172, rBE, ow, rw, tabC]
  refine vframe (ht) [] (by rfl) (by simp only [rX2, bd, bdL, bdB, bdH, bdT, front, VLe, VLeL, BLe, Phan, TLe, HLe, ro, Blk.owned, CLe, rr, given, mrg, exct, shr, ren, renL, renB, Nat.reduceAdd, Nat.reduceSub, Nat.reduceLT, Nat.reduceLeDiff, Nat.reduceEqDiff, Nat.reduceBEq, Nat.reduceBNe, reduceCtorEq, rBE, ow, rw, tabC]) ?_
  rintro v h ⟨rfl, rfl⟩ -
  simp (implicitDefEqProofs := false) (maxSteps := 1000000) only [rX2, bd, bdL, bdB, bdH, bdT, front, VLe, VLeL, BLe, Phan, TLe, HLe, ro, Blk.owned, CLe, rr, given, mrg, exct, shr, ren, renL, renB, Nat.reduceAdd, Nat.reduceSub, Nat.reduceLT, Nat.reduceLeDiff, Nat.reduceEqDiff, Nat.reduceBEq, Nat.reduceBNe, reduceCtorEq, rBE, ow, rw, tabC, rX0, ofVal, ofVals, cellsV, vStore.isTup, eqL, eqV, Blk.deg, oneV, elApp, Nat.reduceAdd, Nat.reduceSub, Nat.reduceMul, Nat.reduceLT, Nat.reduceLeDiff, Nat.reduceEqDiff, Int.reduceToNat, Int.reduceGT, Int.reduceGE, Int.reduceMul, Int.reduceLT, Int.reduceLE, Int.reduceAdd, Int.reduceSub, Int.reduceNeg, reduceCtorEq, Sf.T3, Sf.T4, Sf.T5, Sf.T22, Sf.T150, Sf.T172, rBE, ow, rw, tabC]
  refine wloop (fun i : Nat => ⟨[some (.int .u32 (thrF r (L.take i))), some (.slice 0 L.length cap), none, none, none, some (.ptr 1 0 0 0), none, none, none, some (.int .i64 L.length), some (.int .i64 i), none, none, none, none, none, none, none, none, none, none, none, none, none, none, none, none, none, none, none, none, none, none, none, none, none], [.row 1 L.length (bE L), .cells true 172 tabC]⟩) (fun i => i ≤ L.length) (fun i => L.length - i) 0 (Nat.zero_le _) ?_ ?_
  · simp only [List.take_zero, thrF, List.foldl_nil]
    refine Le.off [some 0, some 1] (by rfl) (by rfl) (by simp only [rX2, bd, bdL, bdB, bdH, bdT, front, VLe, VLeL, BLe, Phan, TLe, HLe, ro, Blk.owned, CLe, rr, given, mrg, exct, shr, ren, renL, renB, Nat.reduceAdd, Nat.reduceSub, Nat.reduceLT, Nat.reduceLeDiff, Nat.reduceEqDiff, Nat.reduceBEq, Nat.reduceBNe, reduceCtorEq, rBE, ow, rw, tabC])
  rintro i hi
  have hw := wrapS i (by omega)
  rcases Nat.lt_or_ge i L.length with hlt | hge
  · have hb := hB.getD i
    have hwb : IntKind.u32.wrap (L.getD i 0) = L.getD i 0 := IntWalk.u32_in _ (by omega)
    generalize hr : thrF r (L.take i) = q
    obtain ⟨k1, e1, hk1⟩ := and15 (bitsI .xor .u32 q (L.getD i 0))
    obtain ⟨k2, e2, hk2⟩ := and15 (bitsI .xor .u32 (shrI .u32 (bitsI .xor .u32 q (L.getD i 0)) 4) (halfF k1))
    have n1 := tab_nth k1 hk1
    have n2 := tab_nth k2 hk2
    unfold tabC at n1 n2
    have hlt' : (i : Int) < L.length := by omega
    simp (implicitDefEqProofs := false) (maxSteps := 1000000) only [hlt', hwb, e1, e2, n1, n2, rX2, bd, bdL, bdB, bdH, bdT, front, VLe, VLeL, BLe, Phan, TLe, HLe, ro, Blk.owned, CLe, rr, given, mrg, exct, shr, ren, renL, renB, Nat.reduceAdd, Nat.reduceSub, Nat.reduceLT, Nat.reduceLeDiff, Nat.reduceEqDiff, Nat.reduceBEq, Nat.reduceBNe, reduceCtorEq, rBE, ow, rw, tabC, rX0, ofVal, ofVals, cellsV, vStore.isTup, eqL, eqV, Blk.deg, oneV, elApp, Nat.reduceAdd, Nat.reduceSub, Nat.reduceMul, Nat.reduceLT, Nat.reduceLeDiff, Nat.reduceEqDiff, Int.reduceToNat, Int.reduceGT, Int.reduceGE, Int.reduceMul, Int.reduceLT, Int.reduceLE, Int.reduceAdd, Int.reduceSub, Int.reduceNeg, reduceCtorEq, Sf.T3, Sf.T4, Sf.T5, Sf.T22, Sf.T150, Sf.T172, rBE, ow, rw, tabC]
    have hnew : bitsI .xor .u32 (shrI .u32 (bitsI .xor .u32 (shrI .u32 (bitsI .xor .u32 q (L.getD i 0)) 4) (halfF k1)) 4) (halfF k2) = thrF r (L.take (i + 1)) := by
      have ht1 : L.take (i + 1) = L.take i ++ [L.getD i 0] := by
        rw [List.take_add_one, List.getD_eq_getElem?_getD, List.getElem?_eq_getElem hlt]; rfl
      unfold thrF at hr ⊢
      rw [ht1, List.foldl_append, hr]
      show _ = thrS q (L.getD i 0)
      unfold thrS nibF
      rw [e1, e2]
    refine ⟨hlt, hlt, by omega, by omega, i + 1, by omega, by omega, ?_⟩
    simp only [hnew, hw]
    refine Le.off [some 0, some 1] (by rfl) (by rfl) (by simp only [rX2, bd, bdL, bdB, bdH, bdT, front, VLe, VLeL, BLe, Phan, TLe, HLe, ro, Blk.owned, CLe, rr, given, mrg, exct, shr, ren, renL, renB, Nat.reduceAdd, Nat.reduceSub, Nat.reduceLT, Nat.reduceLeDiff, Nat.reduceEqDiff, Nat.reduceBEq, Nat.reduceBNe, reduceCtorEq, rBE, ow, rw, tabC])
  · have e : i = L.length := by omega
    subst e
    have hlt' : ¬ (L.length : Int) < L.length := by omega
    have hlt2 : ¬ L.length < L.length := by omega
    simp (implicitDefEqProofs := false) (maxSteps := 1000000) only [hlt', hlt2, rX2, bd, bdL, bdB, bdH, bdT, front, VLe, VLeL, BLe, Phan, TLe, HLe, ro, Blk.owned, CLe, rr, given, mrg, exct, shr, ren, renL, renB, Nat.reduceAdd, Nat.reduceSub, Nat.reduceLT, Nat.reduceLeDiff, Nat.reduceEqDiff, Nat.reduceBEq, Nat.reduceBNe, reduceCtorEq, rBE, ow, rw, tabC, rX0, ofVal, ofVals, cellsV, vStore.isTup, eqL, eqV, Blk.deg, oneV, elApp, Nat.reduceAdd, Nat.reduceSub, Nat.reduceMul, Nat.reduceLT, Nat.reduceLeDiff, Nat.reduceEqDiff, Int.reduceToNat, Int.reduceGT, Int.reduceGE, Int.reduceMul, Int.reduceLT, Int.reduceLE, Int.reduceAdd, Int.reduceSub, Int.reduceNeg, reduceCtorEq, Sf.T3, Sf.T4, Sf.T5, Sf.T22, Sf.T150, Sf.T172, rBE, ow, rw, tabC]
    rw [List.take_length]
def notF (r : Int) : Int := bitsI .xor .u32 4294967295 r
def sumF (L : List Int) : Int := notF (thrF (notF 0) L)
theorem join_ok (r : Int) (L : List Int) (cap : Nat) (hB : Bys L) (hl : L.length ≤ 100000) : VCall Try.prog 149 [.int .u32 r, .slice 0 L.length cap] [rw L] fun v h => v = .int .u32 (notF (thrF (notF r) L)) ∧ h = [rw L] := by
  have ht := through_ok (notF r) L cap hB hl
  have hm : ∀ x, bitsI .xor .u32 (if IntKind.u32.signed = true then -1 else IntKind.u32.max) x = notF x := fun x => rfl
  unfold rw at ht ⊢
  refine VCall.trim 1 (Nat.le_of_ble_eq_true rfl) ?_
  refine wbody Try.func149 rfl (by kernel_rfl) ?_
  rw [Try.ntmps149, Try.results149]
  simp (implicitDefEqProofs := false) (maxSteps := 1000000) only [rX1, bd, bdL, bdB, bdH, bdT, front, VLe, VLeL, BLe, Phan, TLe, HLe, ro, Blk.owned, CLe, rr, given, mrg, exct, shr, ren, renL, renB, Nat.reduceBEq, Nat.reduceBNe, rX0, ofVal, ofVals, cellsV, vStore.isTup, eqL, eqV, Blk.deg, oneV, elApp, Nat.reduceAdd, Nat.reduceSub, Nat.reduceMul, Nat.reduceLT, Nat.reduceLeDiff, Nat.reduceEqDiff, Int.reduceToNat, Int.reduceGT, Int.reduceGE, Int.reduceMul, Int.reduceLT, Int.reduceLE, Int.reduceAdd, Int.reduceSub, Int.reduceNeg, reduceCtorEq, Sf.T3, Sf.T4, Sf.T5, Sf.T22, Sf.T150, Sf.T172, rBE, ow, rw, tabC]
  rw [hm]
  refine vframe (ht) [0] (by rfl) (by simp only [rX2, bd, bdL, bdB, bdH, bdT, front, VLe, VLeL, BLe, Phan, TLe, HLe, ro, Blk.owned, CLe, rr, given, mrg, exct, shr, ren, renL, renB, Nat.reduceAdd, Nat.reduceSub, Nat.reduceLT, Nat.reduceLeDiff, Nat.reduceEqDiff, Nat.reduceBEq, Nat.reduceBNe, reduceCtorEq, rBE, ow, rw, tabC]) ?_
  rintro v h ⟨rfl, rfl⟩ -
  simp (implicitDefEqProofs := false) (maxSteps := 1000000) only [hm, rX2, bd, bdL, bdB, bdH, bdT, front, VLe, VLeL, BLe, Phan, TLe, HLe, ro, Blk.owned, CLe, rr, given, mrg, exct, shr, ren, renL, renB, Nat.reduceAdd, Nat.reduceSub, Nat.reduceLT, Nat.reduceLeDiff, Nat.reduceEqDiff, Nat.reduceBEq, Nat.reduceBNe, reduceCtorEq, rBE, ow, rw, tabC, rX0, ofVal, ofVals, cellsV, vStore.isTup, eqL, eqV, Blk.deg, oneV, elApp, Nat.reduceAdd, Nat.reduceSub, Nat.reduceMul, Nat.reduceLT, Nat.reduceLeDiff, Nat.reduceEqDiff, Int.reduceToNat, Int.reduceGT, Int.reduceGE, Int.reduceMul, Int.reduceLT, Int.reduceLE, Int.reduceAdd, Int.reduceSub, Int.reduceNeg, reduceCtorEq, Sf.T3, Sf.T4, Sf.T5, Sf.T22, Sf.T150, Sf.T172, rBE, ow, rw, tabC]
theorem sum_ok (L : List Int) (cap : Nat) (hB : Bys L) (hl : L.length ≤ 100000) : VCall Try.prog 94 [.slice 0 L.length cap] [rw L] fun v h => v = .int .u32 (sumF L) ∧ h = [rw L] := by
  have ht := join_ok 0 L cap hB hl
  unfold rw at ht ⊢
  refine VCall.trim 1 (Nat.le_of_ble_eq_true rfl) ?_
  refine wbody Try.func94 rfl (by kernel_rfl) ?_
  rw [Try.ntmps94, Try.results94]
  simp (implicitDefEqProofs := false) (maxSteps := 1000000) only [rX1, bd, bdL, bdB, bdH, bdT, front, VLe, VLeL, BLe, Phan, TLe, HLe, ro, Blk.owned, CLe, rr, given, mrg, exct, shr, ren, renL, renB, Nat.reduceBEq, Nat.reduceBNe, rX0, ofVal, ofVals, cellsV, vStore.isTup, eqL, eqV, Blk.deg, oneV, elApp, Nat.reduceAdd, Nat.reduceSub, Nat.reduceMul, Nat.reduceLT, Nat.reduceLeDiff, Nat.reduceEqDiff, Int.reduceToNat, Int.reduceGT, Int.reduceGE, Int.reduceMul, Int.reduceLT, Int.reduceLE, Int.reduceAdd, Int.reduceSub, Int.reduceNeg, reduceCtorEq, Sf.T3, Sf.T4, Sf.T5, Sf.T22, Sf.T150, Sf.T172, rBE, ow, rw, tabC]
  refine vframe (ht) [0] (by rfl) (by simp only [rX2, bd, bdL, bdB, bdH, bdT, front, VLe, VLeL, BLe, Phan, TLe, HLe, ro, Blk.owned, CLe, rr, given, mrg, exct, shr, ren, renL, renB, Nat.reduceAdd, Nat.reduceSub, Nat.reduceLT, Nat.reduceLeDiff, Nat.reduceEqDiff, Nat.reduceBEq, Nat.reduceBNe, reduceCtorEq, rBE, ow, rw, tabC]) ?_
  rintro v h ⟨rfl, rfl⟩ -
  simp (implicitDefEqProofs := false) (maxSteps := 1000000) only [rX2, bd, bdL, bdB, bdH, bdT, front, VLe, VLeL, BLe, Phan, TLe, HLe, ro, Blk.owned, CLe, rr, given, mrg, exct, shr, ren, renL, renB, Nat.reduceAdd, Nat.reduceSub, Nat.reduceLT, Nat.reduceLeDiff, Nat.reduceEqDiff, Nat.reduceBEq, Nat.reduceBNe, reduceCtorEq, rBE, ow, rw, tabC, rX0, ofVal, ofVals, cellsV, vStore.isTup, eqL, eqV, Blk.deg, oneV, elApp, Nat.reduceAdd, Nat.reduceSub, Nat.reduceMul, Nat.reduceLT, Nat.reduceLeDiff, Nat.reduceEqDiff, Int.reduceToNat, Int.reduceGT, Int.reduceGE, Int.reduceMul, Int.reduceLT, Int.reduceLE, Int.reduceAdd, Int.reduceSub, Int.reduceNeg, reduceCtorEq, Sf.T3, Sf.T4, Sf.T5, Sf.T22, Sf.T150, Sf.T172, rBE, ow, rw, tabC]
  rfl
/-- The four bytes of a sum. -/
def b4 (s : Int) : List Int := [u8 s, u8 (shrI .u32 s 8), u8 (shrI .u32 s 16), u8 (shrI .u32 s 24)]
def sealB (L : List Int) : List Int := L ++ b4 (sumF L)
theorem seal_ok (L : List Int) (cap : Nat) (hB : Bys L) (hc : L.length ≤ cap) (hl : L.length ≤ 100000) : VCall Try.prog 81 [.slice 0 L.length cap] [rw L] fun v h => ∃ cap', v = .slice 1 (sealB L).length cap' ∧ h = [rw L, ow (sealB L) cap'] := by
  have ht := sum_ok L cap hB hl
  generalize hs : sumF L = s at ht
  have e4 : (sealB L).length = L.length + 4 := by unfold sealB b4; simp
  have key : ∀ j, j < L.length + 4 → elApp L.length (fun j => bE L j) (chunk 1 [.int .u8 (IntKind.u8.wrap s), .int .u8 (IntKind.u8.wrap (shrI .u32 s 8)), .int .u8 (IntKind.u8.wrap (shrI .u32 s 16)), .int .u8 (IntKind.u8.wrap (shrI .u32 s 24))]) j = bE (sealB L) j := fun j hj => by
    have := bE_many L (b4 s) j hj
    unfold sealB
    rw [hs]
    exact this
  unfold rw at ht
  unfold rw ow
  refine VC.out ?_
  refine wbody Try.func81 rfl (by kernel_rfl) ?_
  rw [Try.ntmps81, Try.results81]
  simp (implicitDefEqProofs := false) (maxSteps := 1000000) only [rX1, bd, bdL, bdB, bdH, bdT, front, VLe, VLeL, BLe, Phan, TLe, HLe, ro, Blk.owned, CLe, rr, given, mrg, exct, shr, ren, renL, renB, Nat.reduceBEq, Nat.reduceBNe, rX0, ofVal, ofVals, cellsV, vStore.isTup, eqL, eqV, Blk.deg, oneV, elApp, Nat.reduceAdd, Nat.reduceSub, Nat.reduceMul, Nat.reduceLT, Nat.reduceLeDiff, Nat.reduceEqDiff, Int.reduceToNat, Int.reduceGT, Int.reduceGE, Int.reduceMul, Int.reduceLT, Int.reduceLE, Int.reduceAdd, Int.reduceSub, Int.reduceNeg, reduceCtorEq, Sf.T3, Sf.T4, Sf.T5, Sf.T22, Sf.T150, Sf.T172, rBE, ow, rw, tabC]
  refine vframe (ht) [0] (by rfl) (by simp only [rX2, bd, bdL, bdB, bdH, bdT, front, VLe, VLeL, BLe, Phan, TLe, HLe, ro, Blk.owned, CLe, rr, given, mrg, exct, shr, ren, renL, renB, Nat.reduceAdd, Nat.reduceSub, Nat.reduceLT, Nat.reduceLeDiff, Nat.reduceEqDiff, Nat.reduceBEq, Nat.reduceBNe, reduceCtorEq, rBE, ow, rw, tabC]) ?_
  rintro v h ⟨rfl, rfl⟩ -
  simp (implicitDefEqProofs := false) (maxSteps := 1000000) only [rX2, bd, bdL, bdB, bdH, bdT, front, VLe, VLeL, BLe, Phan, TLe, HLe, ro, Blk.owned, CLe, rr, given, mrg, exct, shr, ren, renL, renB, Nat.reduceAdd, Nat.reduceSub, Nat.reduceLT, Nat.reduceLeDiff, Nat.reduceEqDiff, Nat.reduceBEq, Nat.reduceBNe, reduceCtorEq, rBE, ow, rw, tabC, rX0, ofVal, ofVals, cellsV, vStore.isTup, eqL, eqV, Blk.deg, oneV, elApp, Nat.reduceAdd, Nat.reduceSub, Nat.reduceMul, Nat.reduceLT, Nat.reduceLeDiff, Nat.reduceEqDiff, Int.reduceToNat, Int.reduceGT, Int.reduceGE, Int.reduceMul, Int.reduceLT, Int.reduceLE, Int.reduceAdd, Int.reduceSub, Int.reduceNeg, reduceCtorEq, Sf.T3, Sf.T4, Sf.T5, Sf.T22, Sf.T150, Sf.T172, rBE, ow, rw, tabC]
  refine ⟨hc, ⟨by omega, by omega, by simp only [maxI]; omega⟩, fun cap' _ _ => ?_⟩
  rw [e4]
  exact ⟨_, _, Le.off [some 0, some 3] (by rfl) (by rfl) (by simp only [rX2, bd, bdL, bdB, bdH, bdT, front, VLe, VLeL, BLe, Phan, TLe, HLe, ro, Blk.owned, CLe, rr, given, mrg, exct, shr, ren, renL, renB, Nat.reduceAdd, Nat.reduceSub, Nat.reduceLT, Nat.reduceLeDiff, Nat.reduceEqDiff, Nat.reduceBEq, Nat.reduceBNe, reduceCtorEq, rBE, ow, rw, tabC]; intro j hj; rw [key j hj]; simp only [rX2, bd, bdL, bdB, bdH, bdT, front, VLe, VLeL, BLe, Phan, TLe, HLe, ro, Blk.owned, CLe, rr, given, mrg, exct, shr, ren, renL, renB, Nat.reduceAdd, Nat.reduceSub, Nat.reduceLT, Nat.reduceLeDiff, Nat.reduceEqDiff, Nat.reduceBEq, Nat.reduceBNe, reduceCtorEq, rBE, ow, rw, tabC]), cap', rfl, rfl⟩
end Go.Proofs.Ytnlammgemaapnaa
