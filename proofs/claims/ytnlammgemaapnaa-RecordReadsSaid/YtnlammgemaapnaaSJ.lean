/- Layer 7: the document's Read, whatever the bytes. -/
import Derived.Test.YtnlammgemaapnaaSI
set_option linter.unusedSimpArgs false
set_option linter.unusedVariables false
set_option maxRecDepth 100000
namespace Go.Proofs.Ytnlammgemaapnaa
open Go Go.Sx
theorem yread_none (x : Int) (R : List Int) (cap : Nat) (hx : 0 ≤ x ∧ x ≤ 127) (hk : x ≤ 0 ∨ 8 ≤ x) (hB : Bys (x :: R)) (hl : (x :: R).length ≤ 1000) : VCall Try.prog 16 [.slice 0 (R.length + 1) cap] [rw (x :: R)] (ReadV (x :: R)) := by
  have hno : ∀ r', ¬ Good (x :: R) r' := fun r' ⟨y, R', k', e, h1, h2, _⟩ => by injection e with e1 e2; omega
  have b0 := ybyte_ok (x :: R) cap 0 false hB hl
  have b1 := yname_ok (x :: R) cap 1 false hB hl
  have l0 : lack false (x :: R) 0 = false := by unfold lack; simp
  have l1 : lack false (x :: R) 1 = false := by unfold lack; simp
  have ea : bitsI .and .i64 x 127 = x := and127 x hx
  have ew : IntKind.i8.wrap x = x := IntWalk.i8_in _ (by omega)
  have k6 : ¬ x = 6 := by omega
  have k7 : ¬ x = 7 := by omega
  have k1 : ¬ x = 1 := by omega
  have k2 : ¬ x = 2 := by omega
  have k3 : ¬ x = 3 := by omega
  have k4 : ¬ x = 4 := by omega
  obtain ⟨nm, hnm⟩ : ∃ nm, nmAt (x :: R) 1 = nm := ⟨_, rfl⟩
  rw [hnm] at b1
  unfold ReadV
  unfold yrd rw at b0 b1
  unfold rw
  simp only [Nat.zero_min, Int.natCast_zero, l0, l1, Nat.zero_add, List.getD_cons_zero, List.length_cons] at b0 b1
  have hr := rmay_none (rk x nm) 0 (by show x < 1 ∨ 7 < x; omega)
  refine VC.out ?_
  refine wbody Try.func16 rfl (by kernel_rfl) ?_
  rw [Try.ntmps16, Try.results16]
  simp (implicitDefEqProofs := false) only [rX1, bd, bdL, bdB, bdH, bdT, front, VLe, VLeL, BLe, Phan, TLe, HLe, ro, Blk.owned, CLe, rr, given, mrg, exct, shr, ren, renL, renB, Nat.reduceBEq, Nat.reduceBNe, rX0, ofVal, ofVals, cellsV, vStore.isTup, eqL, eqV, Blk.deg, oneV, elApp, Nat.reduceAdd, Nat.reduceSub, Nat.reduceMul, Nat.reduceLT, Nat.reduceLeDiff, Nat.reduceEqDiff, Int.reduceToNat, Int.reduceGT, Int.reduceGE, Int.reduceMul, Int.reduceLT, Int.reduceLE, Int.reduceAdd, Int.reduceSub, Int.reduceNeg, reduceCtorEq, Sf.T3, Sf.T4, Sf.T24, Sf.T5, Sf.T22, Sf.T26, Sf.T83, Sf.T27, Sf.T89, Sf.T29, Sf.T31, nmC, nmV, rBE, rw, yrd, nmAt, wrC, recC, zr, rk]
  refine vframe (b0) [2, 0] (by rfl) (by simp only [rX2, bd, bdL, bdB, bdH, bdT, front, VLe, VLeL, BLe, Phan, TLe, HLe, ro, Blk.owned, CLe, rr, given, mrg, exct, shr, ren, renL, renB, Nat.reduceAdd, Nat.reduceSub, Nat.reduceLT, Nat.reduceLeDiff, Nat.reduceEqDiff, Nat.reduceBEq, Nat.reduceBNe, reduceCtorEq, nmC, nmV, rBE, rw, yrd, nmAt, wrC, recC, zr, rk]) ?_
  rintro v h ⟨rfl, rfl⟩ -
  simp (implicitDefEqProofs := false) only [ea, ew, k6, k7, rX2, bd, bdL, bdB, bdH, bdT, front, VLe, VLeL, BLe, Phan, TLe, HLe, ro, Blk.owned, CLe, rr, given, mrg, exct, shr, ren, renL, renB, Nat.reduceAdd, Nat.reduceSub, Nat.reduceLT, Nat.reduceLeDiff, Nat.reduceEqDiff, Nat.reduceBEq, Nat.reduceBNe, reduceCtorEq, nmC, nmV, rBE, rw, yrd, nmAt, wrC, recC, zr, rk, rX0, ofVal, ofVals, cellsV, vStore.isTup, eqL, eqV, Blk.deg, oneV, elApp, Nat.reduceAdd, Nat.reduceSub, Nat.reduceMul, Nat.reduceLT, Nat.reduceLeDiff, Nat.reduceEqDiff, Int.reduceToNat, Int.reduceGT, Int.reduceGE, Int.reduceMul, Int.reduceLT, Int.reduceLE, Int.reduceAdd, Int.reduceSub, Int.reduceNeg, reduceCtorEq, Sf.T3, Sf.T4, Sf.T24, Sf.T5, Sf.T22, Sf.T26, Sf.T83, Sf.T27, Sf.T89, Sf.T29, Sf.T31, nmC, nmV, rBE, rw, yrd, nmAt, wrC, recC, zr, rk]
  refine ⟨fun _ => ⟨by omega, by omega, by omega, fun h => absurd h (by rw [List.getD_cons_zero]; omega), fun _ => ?_⟩, fun h => absurd h (by omega)⟩
  refine vframe (b1) [2, 0] (by rfl) (by simp only [rX2, bd, bdL, bdB, bdH, bdT, front, VLe, VLeL, BLe, Phan, TLe, HLe, ro, Blk.owned, CLe, rr, given, mrg, exct, shr, ren, renL, renB, Nat.reduceAdd, Nat.reduceSub, Nat.reduceLT, Nat.reduceLeDiff, Nat.reduceEqDiff, Nat.reduceBEq, Nat.reduceBNe, reduceCtorEq, nmC, nmV, rBE, rw, yrd, nmAt, wrC, recC, zr, rk]) ?_
  rintro v h ⟨rfl, rfl⟩ -
  simp (implicitDefEqProofs := false) only [k1, k2, k3, k4, rX2, bd, bdL, bdB, bdH, bdT, front, VLe, VLeL, BLe, Phan, TLe, HLe, ro, Blk.owned, CLe, rr, given, mrg, exct, shr, ren, renL, renB, Nat.reduceAdd, Nat.reduceSub, Nat.reduceLT, Nat.reduceLeDiff, Nat.reduceEqDiff, Nat.reduceBEq, Nat.reduceBNe, reduceCtorEq, nmC, nmV, rBE, rw, yrd, nmAt, wrC, recC, zr, rk, rX0, ofVal, ofVals, cellsV, vStore.isTup, eqL, eqV, Blk.deg, oneV, elApp, Nat.reduceAdd, Nat.reduceSub, Nat.reduceMul, Nat.reduceLT, Nat.reduceLeDiff, Nat.reduceEqDiff, Int.reduceToNat, Int.reduceGT, Int.reduceGE, Int.reduceMul, Int.reduceLT, Int.reduceLE, Int.reduceAdd, Int.reduceSub, Int.reduceNeg, reduceCtorEq, Sf.T3, Sf.T4, Sf.T24, Sf.T5, Sf.T22, Sf.T26, Sf.T83, Sf.T27, Sf.T89, Sf.T29, Sf.T31, nmC, nmV, rBE, rw, yrd, nmAt, wrC, recC, zr, rk]
  generalize lack false (x :: R) 10 = bq
  cases bq with
  | true =>
    simp (implicitDefEqProofs := false) only [rX2, bd, bdL, bdB, bdH, bdT, front, VLe, VLeL, BLe, Phan, TLe, HLe, ro, Blk.owned, CLe, rr, given, mrg, exct, shr, ren, renL, renB, Nat.reduceAdd, Nat.reduceSub, Nat.reduceLT, Nat.reduceLeDiff, Nat.reduceEqDiff, Nat.reduceBEq, Nat.reduceBNe, reduceCtorEq, nmC, nmV, rBE, rw, yrd, nmAt, wrC, recC, zr, rk, rX0, ofVal, ofVals, cellsV, vStore.isTup, eqL, eqV, Blk.deg, oneV, elApp, Nat.reduceAdd, Nat.reduceSub, Nat.reduceMul, Nat.reduceLT, Nat.reduceLeDiff, Nat.reduceEqDiff, Int.reduceToNat, Int.reduceGT, Int.reduceGE, Int.reduceMul, Int.reduceLT, Int.reduceLE, Int.reduceAdd, Int.reduceSub, Int.reduceNeg, reduceCtorEq, Sf.T3, Sf.T4, Sf.T24, Sf.T5, Sf.T22, Sf.T26, Sf.T83, Sf.T27, Sf.T89, Sf.T29, Sf.T31, nmC, nmV, rBE, rw, yrd, nmAt, wrC, recC, zr, rk]
    exact ⟨_, _, Le.off [some 0, none] (by rfl) (by rfl) (by simp only [rX2, bd, bdL, bdB, bdH, bdT, front, VLe, VLeL, BLe, Phan, TLe, HLe, ro, Blk.owned, CLe, rr, given, mrg, exct, shr, ren, renL, renB, Nat.reduceAdd, Nat.reduceSub, Nat.reduceLT, Nat.reduceLeDiff, Nat.reduceEqDiff, Nat.reduceBEq, Nat.reduceBNe, reduceCtorEq, nmC, nmV, rBE, rw, yrd, nmAt, wrC, recC, zr, rk]), zr, 40, 0, .inr ⟨hno, rfl, rfl⟩, rfl, rfl⟩
  | false =>
    simp (implicitDefEqProofs := false) only [rX2, bd, bdL, bdB, bdH, bdT, front, VLe, VLeL, BLe, Phan, TLe, HLe, ro, Blk.owned, CLe, rr, given, mrg, exct, shr, ren, renL, renB, Nat.reduceAdd, Nat.reduceSub, Nat.reduceLT, Nat.reduceLeDiff, Nat.reduceEqDiff, Nat.reduceBEq, Nat.reduceBNe, reduceCtorEq, nmC, nmV, rBE, rw, yrd, nmAt, wrC, recC, zr, rk, rX0, ofVal, ofVals, cellsV, vStore.isTup, eqL, eqV, Blk.deg, oneV, elApp, Nat.reduceAdd, Nat.reduceSub, Nat.reduceMul, Nat.reduceLT, Nat.reduceLeDiff, Nat.reduceEqDiff, Int.reduceToNat, Int.reduceGT, Int.reduceGE, Int.reduceMul, Int.reduceLT, Int.reduceLE, Int.reduceAdd, Int.reduceSub, Int.reduceNeg, reduceCtorEq, Sf.T3, Sf.T4, Sf.T24, Sf.T5, Sf.T22, Sf.T26, Sf.T83, Sf.T27, Sf.T89, Sf.T29, Sf.T31, nmC, nmV, rBE, rw, yrd, nmAt, wrC, recC, zr, rk]
    refine ⟨fun h => ?_, fun h => ?_⟩
    · exact ⟨_, _, Le.off [some 0, none] (by rfl) (by rfl) (by simp only [rX2, bd, bdL, bdB, bdH, bdT, front, VLe, VLeL, BLe, Phan, TLe, HLe, ro, Blk.owned, CLe, rr, given, mrg, exct, shr, ren, renL, renB, Nat.reduceAdd, Nat.reduceSub, Nat.reduceLT, Nat.reduceLeDiff, Nat.reduceEqDiff, Nat.reduceBEq, Nat.reduceBNe, reduceCtorEq, nmC, nmV, rBE, rw, yrd, nmAt, wrC, recC, zr, rk]), zr, 40, 0, .inr ⟨hno, rfl, rfl⟩, rfl, rfl⟩
    · rw [decide_eq_false (fun hM : MayR (rk x nm) => by
        have hs' := hM.1
        unfold Such at hs'
        have e : (rk x nm).k = x := rfl
        rw [e, if_neg k1, if_neg k2, if_neg k3, if_neg k4, if_neg (by omega), if_neg (by omega), if_neg (by omega)] at hs'
        exact hs')] at hr
      unfold recC at hr
      refine VC.le [.agg (recC (rk x nm) (.slice 4 0 0))] [.row 1 (R.length + 1) (bE (x :: R)), .cells true 31 (recC zr .nilSlice), .cells true 83 [.slice 0 (R.length + 1) cap, .int .i64 ((min 10 (R.length + 1) : Nat) : Int), .bool false], .cells true 31 (recC (rk x nm) .nilSlice), .row 9 0 fun j => wrC (zr.w j)] (Le.off [some 0, some 1, some 2, some 3, none] (by rfl) (by rfl) (by simp only [rX2, bd, bdL, bdB, bdH, bdT, front, VLe, VLeL, BLe, Phan, TLe, HLe, ro, Blk.owned, CLe, rr, given, mrg, exct, shr, ren, renL, renB, Nat.reduceAdd, Nat.reduceSub, Nat.reduceLT, Nat.reduceLeDiff, Nat.reduceEqDiff, Nat.reduceBEq, Nat.reduceBNe, reduceCtorEq, nmC, nmV, rBE, rw, yrd, nmAt, wrC, recC, zr, rk])) ?_
      refine vframe (hr) [4] (by rfl) (by simp only [rX2, bd, bdL, bdB, bdH, bdT, front, VLe, VLeL, BLe, Phan, TLe, HLe, ro, Blk.owned, CLe, rr, given, mrg, exct, shr, ren, renL, renB, Nat.reduceAdd, Nat.reduceSub, Nat.reduceLT, Nat.reduceLeDiff, Nat.reduceEqDiff, Nat.reduceBEq, Nat.reduceBNe, reduceCtorEq, nmC, nmV, rBE, rw, yrd, nmAt, wrC, recC, zr, rk]) ?_
      rintro v h ⟨rfl, rfl⟩ -
      simp (implicitDefEqProofs := false) only [rX2, bd, bdL, bdB, bdH, bdT, front, VLe, VLeL, BLe, Phan, TLe, HLe, ro, Blk.owned, CLe, rr, given, mrg, exct, shr, ren, renL, renB, Nat.reduceAdd, Nat.reduceSub, Nat.reduceLT, Nat.reduceLeDiff, Nat.reduceEqDiff, Nat.reduceBEq, Nat.reduceBNe, reduceCtorEq, nmC, nmV, rBE, rw, yrd, nmAt, wrC, recC, zr, rk, rX0, ofVal, ofVals, cellsV, vStore.isTup, eqL, eqV, Blk.deg, oneV, elApp, Nat.reduceAdd, Nat.reduceSub, Nat.reduceMul, Nat.reduceLT, Nat.reduceLeDiff, Nat.reduceEqDiff, Int.reduceToNat, Int.reduceGT, Int.reduceGE, Int.reduceMul, Int.reduceLT, Int.reduceLE, Int.reduceAdd, Int.reduceSub, Int.reduceNeg, reduceCtorEq, Sf.T3, Sf.T4, Sf.T24, Sf.T5, Sf.T22, Sf.T26, Sf.T83, Sf.T27, Sf.T89, Sf.T29, Sf.T31, nmC, nmV, rBE, rw, yrd, nmAt, wrC, recC, zr, rk]
      exact ⟨_, _, Le.off [some 0, none] (by rfl) (by rfl) (by simp only [rX2, bd, bdL, bdB, bdH, bdT, front, VLe, VLeL, BLe, Phan, TLe, HLe, ro, Blk.owned, CLe, rr, given, mrg, exct, shr, ren, renL, renB, Nat.reduceAdd, Nat.reduceSub, Nat.reduceLT, Nat.reduceLeDiff, Nat.reduceEqDiff, Nat.reduceBEq, Nat.reduceBNe, reduceCtorEq, nmC, nmV, rBE, rw, yrd, nmAt, wrC, recC, zr, rk]), zr, 40, 0, .inr ⟨hno, rfl, rfl⟩, rfl, rfl⟩
theorem yread_nil (cap : Nat) : VCall Try.prog 16 [.slice 0 0 cap] [rw []] (ReadV []) := by
  have hno : ∀ r', ¬ Good [] r' := fun r' ⟨x, R, k', e, _⟩ => by cases e
  have hB : Bys [] := fun x hx => by cases hx
  have b0 := ybyte_ok [] cap 0 false hB (by simp)
  have b1 := yname_ok [] cap 1 false hB (by simp)
  have l0 : lack false [] 0 = false := by unfold lack; simp
  have l1 : lack false [] 1 = true := by unfold lack; simp
  have l10 : lack false [] (1 + 9) = true := by unfold lack; simp
  have ea : bitsI .and .i64 0 127 = 0 := and127 0 (by omega)
  have ew : IntKind.i8.wrap 0 = 0 := by decide
  obtain ⟨nm, hnm⟩ : ∃ nm, nmAt [] 1 = nm := ⟨_, rfl⟩
  rw [hnm] at b1
  unfold ReadV
  unfold yrd rw at b0 b1
  unfold rw
  simp only [Nat.zero_min, Nat.min_zero, Int.natCast_zero, l0, l1, l10, Nat.zero_add, List.getD_nil, List.length_nil] at b0 b1
  refine VC.out ?_
  refine wbody Try.func16 rfl (by kernel_rfl) ?_
  rw [Try.ntmps16, Try.results16]
  simp (implicitDefEqProofs := false) only [rX1, bd, bdL, bdB, bdH, bdT, front, VLe, VLeL, BLe, Phan, TLe, HLe, ro, Blk.owned, CLe, rr, given, mrg, exct, shr, ren, renL, renB, Nat.reduceBEq, Nat.reduceBNe, rX0, ofVal, ofVals, cellsV, vStore.isTup, eqL, eqV, Blk.deg, oneV, elApp, Nat.reduceAdd, Nat.reduceSub, Nat.reduceMul, Nat.reduceLT, Nat.reduceLeDiff, Nat.reduceEqDiff, Int.reduceToNat, Int.reduceGT, Int.reduceGE, Int.reduceMul, Int.reduceLT, Int.reduceLE, Int.reduceAdd, Int.reduceSub, Int.reduceNeg, reduceCtorEq, Sf.T3, Sf.T4, Sf.T24, Sf.T5, Sf.T22, Sf.T26, Sf.T83, Sf.T27, Sf.T89, Sf.T29, Sf.T31, nmC, nmV, rBE, rw, yrd, nmAt, wrC, recC, zr, rk]
  refine vframe (b0) [2, 0] (by rfl) (by simp only [rX2, bd, bdL, bdB, bdH, bdT, front, VLe, VLeL, BLe, Phan, TLe, HLe, ro, Blk.owned, CLe, rr, given, mrg, exct, shr, ren, renL, renB, Nat.reduceAdd, Nat.reduceSub, Nat.reduceLT, Nat.reduceLeDiff, Nat.reduceEqDiff, Nat.reduceBEq, Nat.reduceBNe, reduceCtorEq, nmC, nmV, rBE, rw, yrd, nmAt, wrC, recC, zr, rk]) ?_
  rintro v h ⟨rfl, rfl⟩ -
  simp (implicitDefEqProofs := false) only [ea, ew, rX2, bd, bdL, bdB, bdH, bdT, front, VLe, VLeL, BLe, Phan, TLe, HLe, ro, Blk.owned, CLe, rr, given, mrg, exct, shr, ren, renL, renB, Nat.reduceAdd, Nat.reduceSub, Nat.reduceLT, Nat.reduceLeDiff, Nat.reduceEqDiff, Nat.reduceBEq, Nat.reduceBNe, reduceCtorEq, nmC, nmV, rBE, rw, yrd, nmAt, wrC, recC, zr, rk, rX0, ofVal, ofVals, cellsV, vStore.isTup, eqL, eqV, Blk.deg, oneV, elApp, Nat.reduceAdd, Nat.reduceSub, Nat.reduceMul, Nat.reduceLT, Nat.reduceLeDiff, Nat.reduceEqDiff, Int.reduceToNat, Int.reduceGT, Int.reduceGE, Int.reduceMul, Int.reduceLT, Int.reduceLE, Int.reduceAdd, Int.reduceSub, Int.reduceNeg, reduceCtorEq, Sf.T3, Sf.T4, Sf.T24, Sf.T5, Sf.T22, Sf.T26, Sf.T83, Sf.T27, Sf.T89, Sf.T29, Sf.T31, nmC, nmV, rBE, rw, yrd, nmAt, wrC, recC, zr, rk]
  refine ⟨fun h => absurd h (by omega), fun _ => ⟨fun h => absurd h (by omega), fun _ => ?_⟩⟩
  refine vframe (b1) [2, 0] (by rfl) (by simp only [rX2, bd, bdL, bdB, bdH, bdT, front, VLe, VLeL, BLe, Phan, TLe, HLe, ro, Blk.owned, CLe, rr, given, mrg, exct, shr, ren, renL, renB, Nat.reduceAdd, Nat.reduceSub, Nat.reduceLT, Nat.reduceLeDiff, Nat.reduceEqDiff, Nat.reduceBEq, Nat.reduceBNe, reduceCtorEq, nmC, nmV, rBE, rw, yrd, nmAt, wrC, recC, zr, rk]) ?_
  rintro v h ⟨rfl, rfl⟩ -
  simp (implicitDefEqProofs := false) only [rX2, bd, bdL, bdB, bdH, bdT, front, VLe, VLeL, BLe, Phan, TLe, HLe, ro, Blk.owned, CLe, rr, given, mrg, exct, shr, ren, renL, renB, Nat.reduceAdd, Nat.reduceSub, Nat.reduceLT, Nat.reduceLeDiff, Nat.reduceEqDiff, Nat.reduceBEq, Nat.reduceBNe, reduceCtorEq, nmC, nmV, rBE, rw, yrd, nmAt, wrC, recC, zr, rk, rX0, ofVal, ofVals, cellsV, vStore.isTup, eqL, eqV, Blk.deg, oneV, elApp, Nat.reduceAdd, Nat.reduceSub, Nat.reduceMul, Nat.reduceLT, Nat.reduceLeDiff, Nat.reduceEqDiff, Int.reduceToNat, Int.reduceGT, Int.reduceGE, Int.reduceMul, Int.reduceLT, Int.reduceLE, Int.reduceAdd, Int.reduceSub, Int.reduceNeg, reduceCtorEq, Sf.T3, Sf.T4, Sf.T24, Sf.T5, Sf.T22, Sf.T26, Sf.T83, Sf.T27, Sf.T89, Sf.T29, Sf.T31, nmC, nmV, rBE, rw, yrd, nmAt, wrC, recC, zr, rk]
  refine ⟨fun h => absurd h (by omega), fun _ => ⟨fun h => absurd h (by omega), fun _ => ⟨fun h => absurd h (by omega), fun _ => ⟨fun h => absurd h (by omega), fun _ => ?_⟩⟩⟩⟩
  exact ⟨_, _, Le.off [some 0, none] (by rfl) (by rfl) (by simp only [rX2, bd, bdL, bdB, bdH, bdT, front, VLe, VLeL, BLe, Phan, TLe, HLe, ro, Blk.owned, CLe, rr, given, mrg, exct, shr, ren, renL, renB, Nat.reduceAdd, Nat.reduceSub, Nat.reduceLT, Nat.reduceLeDiff, Nat.reduceEqDiff, Nat.reduceBEq, Nat.reduceBNe, reduceCtorEq, nmC, nmV, rBE, rw, yrd, nmAt, wrC, recC, zr, rk]), zr, 40, 0, .inr ⟨hno, rfl, rfl⟩, rfl, rfl⟩
theorem yread_great (x : Int) (R : List Int) (cap : Nat) (hx : 128 ≤ x) (hB : Bys (x :: R)) (hl : (x :: R).length ≤ 1000) : VCall Try.prog 16 [.slice 0 (R.length + 1) cap] [rw (x :: R)] (ReadV (x :: R)) := by
  have hno : ∀ r', ¬ Good (x :: R) r' := fun r' ⟨y, R', k', e, h1, h2, _⟩ => by injection e with e1 e2; omega
  have b0 := ybyte_ok (x :: R) cap 0 false hB hl
  have l0 : lack false (x :: R) 0 = false := by unfold lack; simp
  have l1 : lack false (x :: R) 1 = false := by unfold lack; simp
  obtain ⟨q, hq⟩ : ∃ q, bitsI .and .i64 x 127 = q := ⟨_, rfl⟩
  unfold ReadV
  unfold yrd rw at b0
  unfold rw
  simp only [Nat.zero_min, Int.natCast_zero, l0, l1, Nat.zero_add, List.getD_cons_zero, List.length_cons] at b0
  refine VC.out ?_
  refine wbody Try.func16 rfl (by kernel_rfl) ?_
  rw [Try.ntmps16, Try.results16]
  simp (implicitDefEqProofs := false) only [rX1, bd, bdL, bdB, bdH, bdT, front, VLe, VLeL, BLe, Phan, TLe, HLe, ro, Blk.owned, CLe, rr, given, mrg, exct, shr, ren, renL, renB, Nat.reduceBEq, Nat.reduceBNe, rX0, ofVal, ofVals, cellsV, vStore.isTup, eqL, eqV, Blk.deg, oneV, elApp, Nat.reduceAdd, Nat.reduceSub, Nat.reduceMul, Nat.reduceLT, Nat.reduceLeDiff, Nat.reduceEqDiff, Int.reduceToNat, Int.reduceGT, Int.reduceGE, Int.reduceMul, Int.reduceLT, Int.reduceLE, Int.reduceAdd, Int.reduceSub, Int.reduceNeg, reduceCtorEq, Sf.T3, Sf.T4, Sf.T24, Sf.T5, Sf.T22, Sf.T26, Sf.T83, Sf.T27, Sf.T89, Sf.T29, Sf.T31, nmC, nmV, rBE, rw, yrd, nmAt, wrC, recC, zr, rk]
  refine vframe (b0) [2, 0] (by rfl) (by simp only [rX2, bd, bdL, bdB, bdH, bdT, front, VLe, VLeL, BLe, Phan, TLe, HLe, ro, Blk.owned, CLe, rr, given, mrg, exct, shr, ren, renL, renB, Nat.reduceAdd, Nat.reduceSub, Nat.reduceLT, Nat.reduceLeDiff, Nat.reduceEqDiff, Nat.reduceBEq, Nat.reduceBNe, reduceCtorEq, nmC, nmV, rBE, rw, yrd, nmAt, wrC, recC, zr, rk]) ?_
  rintro v h ⟨rfl, rfl⟩ -
  simp (implicitDefEqProofs := false) only [hq, rX2, bd, bdL, bdB, bdH, bdT, front, VLe, VLeL, BLe, Phan, TLe, HLe, ro, Blk.owned, CLe, rr, given, mrg, exct, shr, ren, renL, renB, Nat.reduceAdd, Nat.reduceSub, Nat.reduceLT, Nat.reduceLeDiff, Nat.reduceEqDiff, Nat.reduceBEq, Nat.reduceBNe, reduceCtorEq, nmC, nmV, rBE, rw, yrd, nmAt, wrC, recC, zr, rk, rX0, ofVal, ofVals, cellsV, vStore.isTup, eqL, eqV, Blk.deg, oneV, elApp, Nat.reduceAdd, Nat.reduceSub, Nat.reduceMul, Nat.reduceLT, Nat.reduceLeDiff, Nat.reduceEqDiff, Int.reduceToNat, Int.reduceGT, Int.reduceGE, Int.reduceMul, Int.reduceLT, Int.reduceLE, Int.reduceAdd, Int.reduceSub, Int.reduceNeg, reduceCtorEq, Sf.T3, Sf.T4, Sf.T24, Sf.T5, Sf.T22, Sf.T26, Sf.T83, Sf.T27, Sf.T89, Sf.T29, Sf.T31, nmC, nmV, rBE, rw, yrd, nmAt, wrC, recC, zr, rk]
  refine ⟨fun _ => ⟨by omega, by omega, by omega, fun h => ?_, fun h => absurd h (by rw [List.getD_cons_zero]; omega)⟩, fun h => absurd h (by omega)⟩
  exact ⟨_, _, Le.off [some 0, none] (by rfl) (by rfl) (by simp only [rX2, bd, bdL, bdB, bdH, bdT, front, VLe, VLeL, BLe, Phan, TLe, HLe, ro, Blk.owned, CLe, rr, given, mrg, exct, shr, ren, renL, renB, Nat.reduceAdd, Nat.reduceSub, Nat.reduceLT, Nat.reduceLeDiff, Nat.reduceEqDiff, Nat.reduceBEq, Nat.reduceBNe, reduceCtorEq, nmC, nmV, rBE, rw, yrd, nmAt, wrC, recC, zr, rk]), zr, 40, 0, .inr ⟨hno, rfl, rfl⟩, rfl, rfl⟩
theorem yread_of {x : Int} {R : List Int} {cap : Nat} (hx : 1 ≤ x ∧ x ≤ 7)
    (h : VCall Try.prog 16 [.slice 0 (R.length + 1) cap] [rw (x :: R)] fun v h =>
      ∃ k' bad' r' r'' e co, GetK x R k' bad' r' ∧ (bad' = false ∧ R.length ≤ k' ∧ MayR r' ∧ r'' = r' ∧ e = 0 ∨ ¬ (bad' = false ∧ R.length ≤ k' ∧ MayR r') ∧ r'' = zr ∧ e = 40) ∧
        v = .tup [.agg (recC r'' (.slice 1 r''.n co)), .int .i64 e] ∧ h = [rw (x :: R), .own 89 9 r''.n co fun j => wrC (r''.w j)]) :
    VCall Try.prog 16 [.slice 0 (R.length + 1) cap] [rw (x :: R)] (ReadV (x :: R)) := by
  refine VCall.mono h ?_
  rintro v h ⟨k', bad', r', r'', e, co, hg, hc, hv, hh⟩
  refine ⟨r'', e, co, ?_, hv, hh⟩
  rcases hc with ⟨h1, h2, h3, rfl, rfl⟩ | ⟨hn, rfl, rfl⟩
  · subst h1
    exact .inl ⟨⟨x, R, k', rfl, hx.1, hx.2, hg, h2, h3⟩, rfl⟩
  · refine .inr ⟨fun s hs => hn ?_, rfl, rfl⟩
    obtain ⟨y, R', k2, e, _, _, hg2, h2, h3⟩ := hs
    injection e with e1 e2
    subst e1; subst e2
    obtain ⟨rfl, rfl, rfl⟩ := hg.uniq hx hg2
    exact ⟨rfl, h2, h3⟩
theorem yread_ok (B : List Int) (cap : Nat) (hB : Bys B) (hl : B.length ≤ 1000) : VCall Try.prog 16 [.slice 0 B.length cap] [rw B] (ReadV B) := by
  cases B with
  | nil => exact yread_nil cap
  | cons x R =>
    have hx := hB x (by simp)
    by_cases hg : 128 ≤ x
    · exact yread_great x R cap hg hB hl
    by_cases hn : x ≤ 0 ∨ 8 ≤ x
    · exact yread_none x R cap (by omega) hn hB hl
    have hc : x = 1 ∨ x = 2 ∨ x = 3 ∨ x = 4 ∨ x = 5 ∨ x = 6 ∨ x = 7 := by omega
    rcases hc with rfl | rfl | rfl | rfl | rfl | rfl | rfl
    · exact yread_of (by omega) (yread_1 R cap hB hl)
    · exact yread_of (by omega) (yread_2 R cap hB hl)
    · exact yread_of (by omega) (yread_3 R cap hB hl)
    · exact yread_of (by omega) (yread_4 R cap hB hl)
    · exact yread_of (by omega) (yread_5 R cap hB hl)
    · exact yread_of (by omega) (yread_6 R cap hB hl)
    · exact yread_of (by omega) (yread_7 R cap hB hl)
end Go.Proofs.Ytnlammgemaapnaa
