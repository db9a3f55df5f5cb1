/- Layer 7: the document's Read, by kinds. (Under way.) -/
import Derived.Test.YtnlammgemaapnaaSH
set_option linter.unusedSimpArgs false
set_option linter.unusedVariables false
set_option maxRecDepth 100000
namespace Go.Proofs.Ytnlammgemaapnaa
open Go Go.Sx
theorem and127 (x : Int) (h : 0 ≤ x ∧ x ≤ 127) : bitsI .and .i64 x 127 = x := by
  obtain ⟨n, rfl⟩ := Int.eq_ofNat_of_zero_le h.1
  have hn : n ≤ 127 := by omega
  have : ∀ n : Fin 128, bitsI .and .i64 ((n.val : Nat) : Int) 127 = (n.val : Nat) := by decide +kernel
  exact this ⟨n, by omega⟩
theorem lack_cons (x : Int) (R : List Int) (i : Nat) : lack false (x :: R) (i + 1) = lack false R i := by
  unfold lack; simp only [List.length_cons]; congr 1; exact decide_eq_decide.2 (by omega)
theorem reads_cons (x : Int) (R : List Int) (k n m : Nat) : Reads (x :: R) false (k + 1) n m ↔ Reads R false k n m := by
  have e : ∀ i, lack false (x :: R) (k + 1 + 9 * i) = lack false R (k + 9 * i) := fun i => by
    rw [show k + 1 + 9 * i = k + 9 * i + 1 by omega, lack_cons]
  unfold Reads
  simp only [e]
theorem wrAt_cons (x : Int) (R : List Int) (k : Nat) : wrAt (x :: R) (k + 1) = wrAt R k := by
  unfold wrAt
  rw [List.getD_cons_succ]
  congr 1
  funext i
  rw [show k + 1 + 1 + i = k + 1 + i + 1 by omega, List.getD_cons_succ]
theorem ywrites_R (x : Int) (R : List Int) (cap : Nat) (hB : Bys (x :: R)) (hl : (x :: R).length ≤ 1000) :
    VCall Try.prog 50 [.ptr 0 0 0 0] [yrd (x :: R) cap 10 false, rw (x :: R)] fun v h => ∃ m co, Reads R false 10 (R.getD 9 0).toNat m ∧ v = .slice 2 m co ∧
      h = [yrd (x :: R) cap (11 + 9 * m) false, rw (x :: R), .own 89 9 m co fun j => wrC (wrAt R (10 + 9 * j))] := by
  refine VCall.mono (ywrites_ok (x :: R) cap 10 false hB hl) ?_
  rintro v h ⟨m, co, hm, hv, hh⟩
  rw [List.getD_cons_succ, reads_cons] at hm
  refine ⟨m, co, hm, hv, ?_⟩
  rw [hh]
  have e : ∀ j, wrAt (x :: R) (10 + 1 + 9 * j) = wrAt R (10 + 9 * j) := fun j => by
    rw [show 10 + 1 + 9 * j = 10 + 9 * j + 1 by omega, wrAt_cons]
  simp only [e]
theorem bys_tail {x : Int} {R : List Int} (h : Bys (x :: R)) : Bys R := fun y hy => h y (by simp [hy])
theorem yread_3 (R : List Int) (cap : Nat) (hB : Bys (3 :: R)) (hl : (3 :: R : List Int).length ≤ 1000) :
    VCall Try.prog 16 [.slice 0 (R.length + 1) cap] [rw (3 :: R)] fun v h =>
      ∃ k' bad' r' r'' e co, GetK 3 R k' bad' r' ∧ (bad' = false ∧ R.length ≤ k' ∧ MayR r' ∧ r'' = r' ∧ e = 0 ∨ ¬ (bad' = false ∧ R.length ≤ k' ∧ MayR r') ∧ r'' = zr ∧ e = 40) ∧
        v = .tup [.agg (recC r'' (.slice 1 r''.n co)), .int .i64 e] ∧ h = [rw (3 :: R), .own 89 9 r''.n co fun j => wrC (r''.w j)] := by
  have b0 := ybyte_ok (3 :: R) cap 0 false hB hl
  have b1 := yname_ok (3 :: R) cap 1 false hB hl
  have b2 := yflag_ok (3 :: R) cap 10 false hB hl
  have l0 : lack false (3 :: R) 0 = false := by unfold lack; simp
  have l1 : lack false (3 :: R) 1 = false := by unfold lack; simp
  have ea : bitsI .and .i64 3 127 = 3 := and127 3 (by omega)
  have ew : IntKind.i8.wrap 3 = 3 := by decide
  have hnm : nmAt (3 :: R) 1 = nmAt R 0 := rfl
  rw [hnm] at b1
  unfold yrd rw at b0 b1 b2
  unfold rw
  simp only [Nat.zero_min, Int.natCast_zero, l0, l1, Nat.zero_add, List.getD_cons_zero, List.length_cons] at b0 b1 b2
  refine VC.out ?_
  refine wbody Try.func16 rfl (by kernel_rfl) ?_
  rw [Try.ntmps16, Try.results16]
  simp (implicitDefEqProofs := false) only [rX1, bd, bdL, bdB, bdH, bdT, front, VLe, VLeL, BLe, Phan, TLe, HLe, ro, Blk.owned, CLe, rr, given, mrg, exct, shr, ren, renL, renB, Nat.reduceBEq, Nat.reduceBNe, rX0, ofVal, ofVals, cellsV, vStore.isTup, eqL, eqV, Blk.deg, oneV, elApp, Nat.reduceAdd, Nat.reduceSub, Nat.reduceMul, Nat.reduceLT, Nat.reduceLeDiff, Nat.reduceEqDiff, Int.reduceToNat, Int.reduceGT, Int.reduceGE, Int.reduceMul, Int.reduceLT, Int.reduceLE, Int.reduceAdd, Int.reduceSub, Int.reduceNeg, reduceCtorEq, Sf.T3, Sf.T4, Sf.T24, Sf.T5, Sf.T22, Sf.T26, Sf.T83, Sf.T27, Sf.T89, Sf.T29, Sf.T31, nmC, nmV, rBE, rw, yrd, nmAt, wrC, recC, zr, rk]
  refine vframe (b0) [2, 0] (by rfl) (by simp only [rX2, bd, bdL, bdB, bdH, bdT, front, VLe, VLeL, BLe, Phan, TLe, HLe, ro, Blk.owned, CLe, rr, given, mrg, exct, shr, ren, renL, renB, Nat.reduceAdd, Nat.reduceSub, Nat.reduceLT, Nat.reduceLeDiff, Nat.reduceEqDiff, Nat.reduceBEq, Nat.reduceBNe, reduceCtorEq, nmC, nmV, rBE, rw, yrd, nmAt, wrC, recC, zr, rk]) ?_
  rintro v h ⟨rfl, rfl⟩ -
  simp (implicitDefEqProofs := false) only [ea, ew, rX2, bd, bdL, bdB, bdH, bdT, front, VLe, VLeL, BLe, Phan, TLe, HLe, ro, Blk.owned, CLe, rr, given, mrg, exct, shr, ren, renL, renB, Nat.reduceAdd, Nat.reduceSub, Nat.reduceLT, Nat.reduceLeDiff, Nat.reduceEqDiff, Nat.reduceBEq, Nat.reduceBNe, reduceCtorEq, nmC, nmV, rBE, rw, yrd, nmAt, wrC, recC, zr, rk, rX0, ofVal, ofVals, cellsV, vStore.isTup, eqL, eqV, Blk.deg, oneV, elApp, Nat.reduceAdd, Nat.reduceSub, Nat.reduceMul, Nat.reduceLT, Nat.reduceLeDiff, Nat.reduceEqDiff, Int.reduceToNat, Int.reduceGT, Int.reduceGE, Int.reduceMul, Int.reduceLT, Int.reduceLE, Int.reduceAdd, Int.reduceSub, Int.reduceNeg, reduceCtorEq, Sf.T3, Sf.T4, Sf.T24, Sf.T5, Sf.T22, Sf.T26, Sf.T83, Sf.T27, Sf.T89, Sf.T29, Sf.T31, nmC, nmV, rBE, rw, yrd, nmAt, wrC, recC, zr, rk]
  refine ⟨fun _ => ⟨by omega, by omega, by omega, fun h => absurd h (by rw [List.getD_cons_zero]; omega), fun _ => ?_⟩, fun h => absurd h (by omega)⟩
  refine ⟨fun h => absurd h (by omega), fun _ => ⟨fun h => absurd h (by omega), fun _ => ?_⟩⟩
  refine vframe (b1) [2, 0] (by rfl) (by simp only [rX2, bd, bdL, bdB, bdH, bdT, front, VLe, VLeL, BLe, Phan, TLe, HLe, ro, Blk.owned, CLe, rr, given, mrg, exct, shr, ren, renL, renB, Nat.reduceAdd, Nat.reduceSub, Nat.reduceLT, Nat.reduceLeDiff, Nat.reduceEqDiff, Nat.reduceBEq, Nat.reduceBNe, reduceCtorEq, nmC, nmV, rBE, rw, yrd, nmAt, wrC, recC, zr, rk]) ?_
  rintro v h ⟨rfl, rfl⟩ -
  simp (implicitDefEqProofs := false) only [rX2, bd, bdL, bdB, bdH, bdT, front, VLe, VLeL, BLe, Phan, TLe, HLe, ro, Blk.owned, CLe, rr, given, mrg, exct, shr, ren, renL, renB, Nat.reduceAdd, Nat.reduceSub, Nat.reduceLT, Nat.reduceLeDiff, Nat.reduceEqDiff, Nat.reduceBEq, Nat.reduceBNe, reduceCtorEq, nmC, nmV, rBE, rw, yrd, nmAt, wrC, recC, zr, rk, rX0, ofVal, ofVals, cellsV, vStore.isTup, eqL, eqV, Blk.deg, oneV, elApp, Nat.reduceAdd, Nat.reduceSub, Nat.reduceMul, Nat.reduceLT, Nat.reduceLeDiff, Nat.reduceEqDiff, Int.reduceToNat, Int.reduceGT, Int.reduceGE, Int.reduceMul, Int.reduceLT, Int.reduceLE, Int.reduceAdd, Int.reduceSub, Int.reduceNeg, reduceCtorEq, Sf.T3, Sf.T4, Sf.T24, Sf.T5, Sf.T22, Sf.T26, Sf.T83, Sf.T27, Sf.T89, Sf.T29, Sf.T31, nmC, nmV, rBE, rw, yrd, nmAt, wrC, recC, zr, rk]
  refine ⟨fun h => absurd h (by omega), fun _ => ⟨fun h => absurd h (by omega), fun _ => ?_⟩⟩
  have hg : GetK 3 R 10 (lack false R 10 || decide (R.getD 9 0 > 1)) { rk 3 (nmAt R 0) with yes := R.getD 9 0 == 1 } := by
    rw [getK_3 rfl]; exact ⟨rfl, rfl, rfl⟩
  have hl11 : lack false (3 :: R) 11 = lack false R 10 := by unfold lack; simp only [List.length_cons]; congr 1; exact decide_eq_decide.2 (by omega)
  have hd : (3 :: R : List Int).getD 10 0 = R.getD 9 0 := List.getD_cons_succ
  rw [hl11, hd] at b2
  generalize hbq : (lack false R 10 || decide (R.getD 9 0 > 1)) = bq at b2 hg
  have hm := rmay_ok { rk 3 (nmAt R 0) with yes := R.getD 9 0 == 1 } 0 (Nat.zero_le _)
  unfold recC at hm
  refine vframe (b2) [2, 0] (by rfl) (by simp only [rX2, bd, bdL, bdB, bdH, bdT, front, VLe, VLeL, BLe, Phan, TLe, HLe, ro, Blk.owned, CLe, rr, given, mrg, exct, shr, ren, renL, renB, Nat.reduceAdd, Nat.reduceSub, Nat.reduceLT, Nat.reduceLeDiff, Nat.reduceEqDiff, Nat.reduceBEq, Nat.reduceBNe, reduceCtorEq, nmC, nmV, rBE, rw, yrd, nmAt, wrC, recC, zr, rk]) ?_
  rintro v h ⟨rfl, rfl⟩ -
  simp (implicitDefEqProofs := false) only [rX2, bd, bdL, bdB, bdH, bdT, front, VLe, VLeL, BLe, Phan, TLe, HLe, ro, Blk.owned, CLe, rr, given, mrg, exct, shr, ren, renL, renB, Nat.reduceAdd, Nat.reduceSub, Nat.reduceLT, Nat.reduceLeDiff, Nat.reduceEqDiff, Nat.reduceBEq, Nat.reduceBNe, reduceCtorEq, nmC, nmV, rBE, rw, yrd, nmAt, wrC, recC, zr, rk, rX0, ofVal, ofVals, cellsV, vStore.isTup, eqL, eqV, Blk.deg, oneV, elApp, Nat.reduceAdd, Nat.reduceSub, Nat.reduceMul, Nat.reduceLT, Nat.reduceLeDiff, Nat.reduceEqDiff, Int.reduceToNat, Int.reduceGT, Int.reduceGE, Int.reduceMul, Int.reduceLT, Int.reduceLE, Int.reduceAdd, Int.reduceSub, Int.reduceNeg, reduceCtorEq, Sf.T3, Sf.T4, Sf.T24, Sf.T5, Sf.T22, Sf.T26, Sf.T83, Sf.T27, Sf.T89, Sf.T29, Sf.T31, nmC, nmV, rBE, rw, yrd, nmAt, wrC, recC, zr, rk]
  cases bq with
  | true =>
    simp (implicitDefEqProofs := false) only [rX2, bd, bdL, bdB, bdH, bdT, front, VLe, VLeL, BLe, Phan, TLe, HLe, ro, Blk.owned, CLe, rr, given, mrg, exct, shr, ren, renL, renB, Nat.reduceAdd, Nat.reduceSub, Nat.reduceLT, Nat.reduceLeDiff, Nat.reduceEqDiff, Nat.reduceBEq, Nat.reduceBNe, reduceCtorEq, nmC, nmV, rBE, rw, yrd, nmAt, wrC, recC, zr, rk, rX0, ofVal, ofVals, cellsV, vStore.isTup, eqL, eqV, Blk.deg, oneV, elApp, Nat.reduceAdd, Nat.reduceSub, Nat.reduceMul, Nat.reduceLT, Nat.reduceLeDiff, Nat.reduceEqDiff, Int.reduceToNat, Int.reduceGT, Int.reduceGE, Int.reduceMul, Int.reduceLT, Int.reduceLE, Int.reduceAdd, Int.reduceSub, Int.reduceNeg, reduceCtorEq, Sf.T3, Sf.T4, Sf.T24, Sf.T5, Sf.T22, Sf.T26, Sf.T83, Sf.T27, Sf.T89, Sf.T29, Sf.T31, nmC, nmV, rBE, rw, yrd, nmAt, wrC, recC, zr, rk]
    exact ⟨_, _, Le.off [some 0, none] (by rfl) (by rfl) (by simp only [rX2, bd, bdL, bdB, bdH, bdT, front, VLe, VLeL, BLe, Phan, TLe, HLe, ro, Blk.owned, CLe, rr, given, mrg, exct, shr, ren, renL, renB, Nat.reduceAdd, Nat.reduceSub, Nat.reduceLT, Nat.reduceLeDiff, Nat.reduceEqDiff, Nat.reduceBEq, Nat.reduceBNe, reduceCtorEq, nmC, nmV, rBE, rw, yrd, nmAt, wrC, recC, zr, rk]), 10, true, _, zr, 40, 0, hg, .inr ⟨fun hh => (by cases hh.1), rfl, rfl⟩, rfl, rfl⟩
  | false =>
    simp (implicitDefEqProofs := false) only [rX2, bd, bdL, bdB, bdH, bdT, front, VLe, VLeL, BLe, Phan, TLe, HLe, ro, Blk.owned, CLe, rr, given, mrg, exct, shr, ren, renL, renB, Nat.reduceAdd, Nat.reduceSub, Nat.reduceLT, Nat.reduceLeDiff, Nat.reduceEqDiff, Nat.reduceBEq, Nat.reduceBNe, reduceCtorEq, nmC, nmV, rBE, rw, yrd, nmAt, wrC, recC, zr, rk, rX0, ofVal, ofVals, cellsV, vStore.isTup, eqL, eqV, Blk.deg, oneV, elApp, Nat.reduceAdd, Nat.reduceSub, Nat.reduceMul, Nat.reduceLT, Nat.reduceLeDiff, Nat.reduceEqDiff, Int.reduceToNat, Int.reduceGT, Int.reduceGE, Int.reduceMul, Int.reduceLT, Int.reduceLE, Int.reduceAdd, Int.reduceSub, Int.reduceNeg, reduceCtorEq, Sf.T3, Sf.T4, Sf.T24, Sf.T5, Sf.T22, Sf.T26, Sf.T83, Sf.T27, Sf.T89, Sf.T29, Sf.T31, nmC, nmV, rBE, rw, yrd, nmAt, wrC, recC, zr, rk]
    refine ⟨fun h => ?_, fun h => ?_⟩
    · exact ⟨_, _, Le.off [some 0, none] (by rfl) (by rfl) (by simp only [rX2, bd, bdL, bdB, bdH, bdT, front, VLe, VLeL, BLe, Phan, TLe, HLe, ro, Blk.owned, CLe, rr, given, mrg, exct, shr, ren, renL, renB, Nat.reduceAdd, Nat.reduceSub, Nat.reduceLT, Nat.reduceLeDiff, Nat.reduceEqDiff, Nat.reduceBEq, Nat.reduceBNe, reduceCtorEq, nmC, nmV, rBE, rw, yrd, nmAt, wrC, recC, zr, rk]), 10, false, _, zr, 40, 0, hg, .inr ⟨fun hh => (by have := hh.2.1; omega), rfl, rfl⟩, rfl, rfl⟩
    · refine VC.le [.agg (recC { rk 3 (nmAt R 0) with yes := R.getD 9 0 == 1 } (.slice 4 0 0))] [.row 1 (R.length + 1) (bE (3 :: R)), .cells true 31 (recC zr .nilSlice), .cells true 83 [.slice 0 (R.length + 1) cap, .int .i64 ((min 11 (R.length + 1) : Nat) : Int), .bool false], .cells true 31 (recC { rk 3 (nmAt R 0) with yes := R.getD 9 0 == 1 } .nilSlice), .row 9 0 fun j => wrC (zr.w j)] (Le.off [some 0, some 1, some 2, some 3, none] (by rfl) (by rfl) (by simp only [rX2, bd, bdL, bdB, bdH, bdT, front, VLe, VLeL, BLe, Phan, TLe, HLe, ro, Blk.owned, CLe, rr, given, mrg, exct, shr, ren, renL, renB, Nat.reduceAdd, Nat.reduceSub, Nat.reduceLT, Nat.reduceLeDiff, Nat.reduceEqDiff, Nat.reduceBEq, Nat.reduceBNe, reduceCtorEq, nmC, nmV, rBE, rw, yrd, nmAt, wrC, recC, zr, rk])) ?_
      refine vframe (hm) [4] (by rfl) (by simp only [rX2, bd, bdL, bdB, bdH, bdT, front, VLe, VLeL, BLe, Phan, TLe, HLe, ro, Blk.owned, CLe, rr, given, mrg, exct, shr, ren, renL, renB, Nat.reduceAdd, Nat.reduceSub, Nat.reduceLT, Nat.reduceLeDiff, Nat.reduceEqDiff, Nat.reduceBEq, Nat.reduceBNe, reduceCtorEq, nmC, nmV, rBE, rw, yrd, nmAt, wrC, recC, zr, rk]) ?_
      rintro v h ⟨rfl, rfl⟩ -
      simp (implicitDefEqProofs := false) only [rX2, bd, bdL, bdB, bdH, bdT, front, VLe, VLeL, BLe, Phan, TLe, HLe, ro, Blk.owned, CLe, rr, given, mrg, exct, shr, ren, renL, renB, Nat.reduceAdd, Nat.reduceSub, Nat.reduceLT, Nat.reduceLeDiff, Nat.reduceEqDiff, Nat.reduceBEq, Nat.reduceBNe, reduceCtorEq, nmC, nmV, rBE, rw, yrd, nmAt, wrC, recC, zr, rk, rX0, ofVal, ofVals, cellsV, vStore.isTup, eqL, eqV, Blk.deg, oneV, elApp, Nat.reduceAdd, Nat.reduceSub, Nat.reduceMul, Nat.reduceLT, Nat.reduceLeDiff, Nat.reduceEqDiff, Int.reduceToNat, Int.reduceGT, Int.reduceGE, Int.reduceMul, Int.reduceLT, Int.reduceLE, Int.reduceAdd, Int.reduceSub, Int.reduceNeg, reduceCtorEq, Sf.T3, Sf.T4, Sf.T24, Sf.T5, Sf.T22, Sf.T26, Sf.T83, Sf.T27, Sf.T89, Sf.T29, Sf.T31, nmC, nmV, rBE, rw, yrd, nmAt, wrC, recC, zr, rk]
      have hle : R.length ≤ 10 := by
        by_cases c : R.length + 1 ≤ 11
        · omega
        · rw [Nat.min_eq_left (by omega)] at h; omega
      refine ⟨fun hM => ?_, fun hM => ?_⟩
      · exact ⟨_, _, Le.off [some 0, none] (by rfl) (by rfl) (by simp only [rX2, bd, bdL, bdB, bdH, bdT, front, VLe, VLeL, BLe, Phan, TLe, HLe, ro, Blk.owned, CLe, rr, given, mrg, exct, shr, ren, renL, renB, Nat.reduceAdd, Nat.reduceSub, Nat.reduceLT, Nat.reduceLeDiff, Nat.reduceEqDiff, Nat.reduceBEq, Nat.reduceBNe, reduceCtorEq, nmC, nmV, rBE, rw, yrd, nmAt, wrC, recC, zr, rk]), 10, false, _, _, 0, 0, hg, .inl ⟨rfl, hle, hM, rfl, rfl⟩, rfl, rfl⟩
      · exact ⟨_, _, Le.off [some 0, none] (by rfl) (by rfl) (by simp only [rX2, bd, bdL, bdB, bdH, bdT, front, VLe, VLeL, BLe, Phan, TLe, HLe, ro, Blk.owned, CLe, rr, given, mrg, exct, shr, ren, renL, renB, Nat.reduceAdd, Nat.reduceSub, Nat.reduceLT, Nat.reduceLeDiff, Nat.reduceEqDiff, Nat.reduceBEq, Nat.reduceBNe, reduceCtorEq, nmC, nmV, rBE, rw, yrd, nmAt, wrC, recC, zr, rk]), 10, false, _, zr, 40, 0, hg, .inr ⟨fun hh => hM hh.2.2, rfl, rfl⟩, rfl, rfl⟩
theorem yread_5 (R : List Int) (cap : Nat) (hB : Bys (5 :: R)) (hl : (5 :: R : List Int).length ≤ 1000) :
    VCall Try.prog 16 [.slice 0 (R.length + 1) cap] [rw (5 :: R)] fun v h =>
      ∃ k' bad' r' r'' e co, GetK 5 R k' bad' r' ∧ (bad' = false ∧ R.length ≤ k' ∧ MayR r' ∧ r'' = r' ∧ e = 0 ∨ ¬ (bad' = false ∧ R.length ≤ k' ∧ MayR r') ∧ r'' = zr ∧ e = 40) ∧
        v = .tup [.agg (recC r'' (.slice 1 r''.n co)), .int .i64 e] ∧ h = [rw (5 :: R), .own 89 9 r''.n co fun j => wrC (r''.w j)] := by
  have b0 := ybyte_ok (5 :: R) cap 0 false hB hl
  have b1 := yname_ok (5 :: R) cap 1 false hB hl
  have l0 : lack false (5 :: R) 0 = false := by unfold lack; simp
  have l1 : lack false (5 :: R) 1 = false := by unfold lack; simp
  have ea : bitsI .and .i64 5 127 = 5 := and127 5 (by omega)
  have ew : IntKind.i8.wrap 5 = 5 := by decide
  have hnm : nmAt (5 :: R) 1 = nmAt R 0 := rfl
  rw [hnm] at b1
  unfold yrd rw at b0 b1
  unfold rw
  simp only [Nat.zero_min, Int.natCast_zero, l0, l1, Nat.zero_add, List.getD_cons_zero, List.length_cons] at b0 b1
  refine VC.out ?_
  refine wbody Try.func16 rfl (by kernel_rfl) ?_
  rw [Try.ntmps16, Try.results16]
  simp (implicitDefEqProofs := false) only [rX1, bd, bdL, bdB, bdH, bdT, front, VLe, VLeL, BLe, Phan, TLe, HLe, ro, Blk.owned, CLe, rr, given, mrg, exct, shr, ren, renL, renB, Nat.reduceBEq, Nat.reduceBNe, rX0, ofVal, ofVals, cellsV, vStore.isTup, eqL, eqV, Blk.deg, oneV, elApp, Nat.reduceAdd, Nat.reduceSub, Nat.reduceMul, Nat.reduceLT, Nat.reduceLeDiff, Nat.reduceEqDiff, Int.reduceToNat, Int.reduceGT, Int.reduceGE, Int.reduceMul, Int.reduceLT, Int.reduceLE, Int.reduceAdd, Int.reduceSub, Int.reduceNeg, reduceCtorEq, Sf.T3, Sf.T4, Sf.T24, Sf.T5, Sf.T22, Sf.T26, Sf.T83, Sf.T27, Sf.T89, Sf.T29, Sf.T31, nmC, nmV, rBE, rw, yrd, nmAt, wrC, recC, zr, rk]
  refine vframe (b0) [2, 0] (by rfl) (by simp only [rX2, bd, bdL, bdB, bdH, bdT, front, VLe, VLeL, BLe, Phan, TLe, HLe, ro, Blk.owned, CLe, rr, given, mrg, exct, shr, ren, renL, renB, Nat.reduceAdd, Nat.reduceSub, Nat.reduceLT, Nat.reduceLeDiff, Nat.reduceEqDiff, Nat.reduceBEq, Nat.reduceBNe, reduceCtorEq, nmC, nmV, rBE, rw, yrd, nmAt, wrC, recC, zr, rk]) ?_
  rintro v h ⟨rfl, rfl⟩ -
  simp (implicitDefEqProofs := false) only [ea, ew, rX2, bd, bdL, bdB, bdH, bdT, front, VLe, VLeL, BLe, Phan, TLe, HLe, ro, Blk.owned, CLe, rr, given, mrg, exct, shr, ren, renL, renB, Nat.reduceAdd, Nat.reduceSub, Nat.reduceLT, Nat.reduceLeDiff, Nat.reduceEqDiff, Nat.reduceBEq, Nat.reduceBNe, reduceCtorEq, nmC, nmV, rBE, rw, yrd, nmAt, wrC, recC, zr, rk, rX0, ofVal, ofVals, cellsV, vStore.isTup, eqL, eqV, Blk.deg, oneV, elApp, Nat.reduceAdd, Nat.reduceSub, Nat.reduceMul, Nat.reduceLT, Nat.reduceLeDiff, Nat.reduceEqDiff, Int.reduceToNat, Int.reduceGT, Int.reduceGE, Int.reduceMul, Int.reduceLT, Int.reduceLE, Int.reduceAdd, Int.reduceSub, Int.reduceNeg, reduceCtorEq, Sf.T3, Sf.T4, Sf.T24, Sf.T5, Sf.T22, Sf.T26, Sf.T83, Sf.T27, Sf.T89, Sf.T29, Sf.T31, nmC, nmV, rBE, rw, yrd, nmAt, wrC, recC, zr, rk]
  refine ⟨fun _ => ⟨by omega, by omega, by omega, fun h => absurd h (by rw [List.getD_cons_zero]; omega), fun _ => ?_⟩, fun h => absurd h (by omega)⟩
  refine ⟨fun h => absurd h (by omega), fun _ => ⟨fun h => absurd h (by omega), fun _ => ?_⟩⟩
  refine vframe (b1) [2, 0] (by rfl) (by simp only [rX2, bd, bdL, bdB, bdH, bdT, front, VLe, VLeL, BLe, Phan, TLe, HLe, ro, Blk.owned, CLe, rr, given, mrg, exct, shr, ren, renL, renB, Nat.reduceAdd, Nat.reduceSub, Nat.reduceLT, Nat.reduceLeDiff, Nat.reduceEqDiff, Nat.reduceBEq, Nat.reduceBNe, reduceCtorEq, nmC, nmV, rBE, rw, yrd, nmAt, wrC, recC, zr, rk]) ?_
  rintro v h ⟨rfl, rfl⟩ -
  simp (implicitDefEqProofs := false) only [rX2, bd, bdL, bdB, bdH, bdT, front, VLe, VLeL, BLe, Phan, TLe, HLe, ro, Blk.owned, CLe, rr, given, mrg, exct, shr, ren, renL, renB, Nat.reduceAdd, Nat.reduceSub, Nat.reduceLT, Nat.reduceLeDiff, Nat.reduceEqDiff, Nat.reduceBEq, Nat.reduceBNe, reduceCtorEq, nmC, nmV, rBE, rw, yrd, nmAt, wrC, recC, zr, rk, rX0, ofVal, ofVals, cellsV, vStore.isTup, eqL, eqV, Blk.deg, oneV, elApp, Nat.reduceAdd, Nat.reduceSub, Nat.reduceMul, Nat.reduceLT, Nat.reduceLeDiff, Nat.reduceEqDiff, Int.reduceToNat, Int.reduceGT, Int.reduceGE, Int.reduceMul, Int.reduceLT, Int.reduceLE, Int.reduceAdd, Int.reduceSub, Int.reduceNeg, reduceCtorEq, Sf.T3, Sf.T4, Sf.T24, Sf.T5, Sf.T22, Sf.T26, Sf.T83, Sf.T27, Sf.T89, Sf.T29, Sf.T31, nmC, nmV, rBE, rw, yrd, nmAt, wrC, recC, zr, rk]
  refine ⟨fun h => absurd h (by omega), fun _ => ⟨fun h => absurd h (by omega), fun _ => ⟨fun h => absurd h (by omega), fun _ => ⟨fun h => absurd h (by omega), fun _ => ?_⟩⟩⟩⟩
  have hg : GetK 5 R 9 (lack false R 9) (rk 5 (nmAt R 0)) := by
    rw [getK_5 rfl]; exact ⟨rfl, rfl, rfl⟩
  have hm := rmay_ok (rk 5 (nmAt R 0)) 0 (Nat.zero_le _)
  unfold recC at hm
  have hl10 : lack false (5 :: R) 10 = lack false R 9 := by unfold lack; simp only [List.length_cons]; congr 1; exact decide_eq_decide.2 (by omega)
  rw [hl10]
  generalize hbq : lack false R 9 = bq at hg ⊢
  cases bq with
  | true =>
    simp (implicitDefEqProofs := false) only [rX2, bd, bdL, bdB, bdH, bdT, front, VLe, VLeL, BLe, Phan, TLe, HLe, ro, Blk.owned, CLe, rr, given, mrg, exct, shr, ren, renL, renB, Nat.reduceAdd, Nat.reduceSub, Nat.reduceLT, Nat.reduceLeDiff, Nat.reduceEqDiff, Nat.reduceBEq, Nat.reduceBNe, reduceCtorEq, nmC, nmV, rBE, rw, yrd, nmAt, wrC, recC, zr, rk, rX0, ofVal, ofVals, cellsV, vStore.isTup, eqL, eqV, Blk.deg, oneV, elApp, Nat.reduceAdd, Nat.reduceSub, Nat.reduceMul, Nat.reduceLT, Nat.reduceLeDiff, Nat.reduceEqDiff, Int.reduceToNat, Int.reduceGT, Int.reduceGE, Int.reduceMul, Int.reduceLT, Int.reduceLE, Int.reduceAdd, Int.reduceSub, Int.reduceNeg, reduceCtorEq, Sf.T3, Sf.T4, Sf.T24, Sf.T5, Sf.T22, Sf.T26, Sf.T83, Sf.T27, Sf.T89, Sf.T29, Sf.T31, nmC, nmV, rBE, rw, yrd, nmAt, wrC, recC, zr, rk]
    exact ⟨_, _, Le.off [some 0, none] (by rfl) (by rfl) (by simp only [rX2, bd, bdL, bdB, bdH, bdT, front, VLe, VLeL, BLe, Phan, TLe, HLe, ro, Blk.owned, CLe, rr, given, mrg, exct, shr, ren, renL, renB, Nat.reduceAdd, Nat.reduceSub, Nat.reduceLT, Nat.reduceLeDiff, Nat.reduceEqDiff, Nat.reduceBEq, Nat.reduceBNe, reduceCtorEq, nmC, nmV, rBE, rw, yrd, nmAt, wrC, recC, zr, rk]), 9, true, _, zr, 40, 0, hg, .inr ⟨fun hh => (by cases hh.1), rfl, rfl⟩, rfl, rfl⟩
  | false =>
    simp (implicitDefEqProofs := false) only [rX2, bd, bdL, bdB, bdH, bdT, front, VLe, VLeL, BLe, Phan, TLe, HLe, ro, Blk.owned, CLe, rr, given, mrg, exct, shr, ren, renL, renB, Nat.reduceAdd, Nat.reduceSub, Nat.reduceLT, Nat.reduceLeDiff, Nat.reduceEqDiff, Nat.reduceBEq, Nat.reduceBNe, reduceCtorEq, nmC, nmV, rBE, rw, yrd, nmAt, wrC, recC, zr, rk, rX0, ofVal, ofVals, cellsV, vStore.isTup, eqL, eqV, Blk.deg, oneV, elApp, Nat.reduceAdd, Nat.reduceSub, Nat.reduceMul, Nat.reduceLT, Nat.reduceLeDiff, Nat.reduceEqDiff, Int.reduceToNat, Int.reduceGT, Int.reduceGE, Int.reduceMul, Int.reduceLT, Int.reduceLE, Int.reduceAdd, Int.reduceSub, Int.reduceNeg, reduceCtorEq, Sf.T3, Sf.T4, Sf.T24, Sf.T5, Sf.T22, Sf.T26, Sf.T83, Sf.T27, Sf.T89, Sf.T29, Sf.T31, nmC, nmV, rBE, rw, yrd, nmAt, wrC, recC, zr, rk]
    refine ⟨fun h => ?_, fun h => ?_⟩
    · exact ⟨_, _, Le.off [some 0, none] (by rfl) (by rfl) (by simp only [rX2, bd, bdL, bdB, bdH, bdT, front, VLe, VLeL, BLe, Phan, TLe, HLe, ro, Blk.owned, CLe, rr, given, mrg, exct, shr, ren, renL, renB, Nat.reduceAdd, Nat.reduceSub, Nat.reduceLT, Nat.reduceLeDiff, Nat.reduceEqDiff, Nat.reduceBEq, Nat.reduceBNe, reduceCtorEq, nmC, nmV, rBE, rw, yrd, nmAt, wrC, recC, zr, rk]), 9, false, _, zr, 40, 0, hg, .inr ⟨fun hh => (by have := hh.2.1; omega), rfl, rfl⟩, rfl, rfl⟩
    · refine VC.le [.agg (recC (rk 5 (nmAt R 0)) (.slice 4 0 0))] [.row 1 (R.length + 1) (bE (5 :: R)), .cells true 31 (recC zr .nilSlice), .cells true 83 [.slice 0 (R.length + 1) cap, .int .i64 ((min 10 (R.length + 1) : Nat) : Int), .bool false], .cells true 31 (recC (rk 5 (nmAt R 0)) .nilSlice), .row 9 0 fun j => wrC (zr.w j)] (Le.off [some 0, some 1, some 2, some 3, none] (by rfl) (by rfl) (by simp only [rX2, bd, bdL, bdB, bdH, bdT, front, VLe, VLeL, BLe, Phan, TLe, HLe, ro, Blk.owned, CLe, rr, given, mrg, exct, shr, ren, renL, renB, Nat.reduceAdd, Nat.reduceSub, Nat.reduceLT, Nat.reduceLeDiff, Nat.reduceEqDiff, Nat.reduceBEq, Nat.reduceBNe, reduceCtorEq, nmC, nmV, rBE, rw, yrd, nmAt, wrC, recC, zr, rk])) ?_
      refine vframe (hm) [4] (by rfl) (by simp only [rX2, bd, bdL, bdB, bdH, bdT, front, VLe, VLeL, BLe, Phan, TLe, HLe, ro, Blk.owned, CLe, rr, given, mrg, exct, shr, ren, renL, renB, Nat.reduceAdd, Nat.reduceSub, Nat.reduceLT, Nat.reduceLeDiff, Nat.reduceEqDiff, Nat.reduceBEq, Nat.reduceBNe, reduceCtorEq, nmC, nmV, rBE, rw, yrd, nmAt, wrC, recC, zr, rk]) ?_
      rintro v h ⟨rfl, rfl⟩ -
      simp (implicitDefEqProofs := false) only [rX2, bd, bdL, bdB, bdH, bdT, front, VLe, VLeL, BLe, Phan, TLe, HLe, ro, Blk.owned, CLe, rr, given, mrg, exct, shr, ren, renL, renB, Nat.reduceAdd, Nat.reduceSub, Nat.reduceLT, Nat.reduceLeDiff, Nat.reduceEqDiff, Nat.reduceBEq, Nat.reduceBNe, reduceCtorEq, nmC, nmV, rBE, rw, yrd, nmAt, wrC, recC, zr, rk, rX0, ofVal, ofVals, cellsV, vStore.isTup, eqL, eqV, Blk.deg, oneV, elApp, Nat.reduceAdd, Nat.reduceSub, Nat.reduceMul, Nat.reduceLT, Nat.reduceLeDiff, Nat.reduceEqDiff, Int.reduceToNat, Int.reduceGT, Int.reduceGE, Int.reduceMul, Int.reduceLT, Int.reduceLE, Int.reduceAdd, Int.reduceSub, Int.reduceNeg, reduceCtorEq, Sf.T3, Sf.T4, Sf.T24, Sf.T5, Sf.T22, Sf.T26, Sf.T83, Sf.T27, Sf.T89, Sf.T29, Sf.T31, nmC, nmV, rBE, rw, yrd, nmAt, wrC, recC, zr, rk]
      have hle : R.length ≤ 9 := by
        by_cases c : R.length + 1 ≤ 10
        · omega
        · rw [Nat.min_eq_left (by omega)] at h; omega
      refine ⟨fun hM => ?_, fun hM => ?_⟩
      · exact ⟨_, _, Le.off [some 0, none] (by rfl) (by rfl) (by simp only [rX2, bd, bdL, bdB, bdH, bdT, front, VLe, VLeL, BLe, Phan, TLe, HLe, ro, Blk.owned, CLe, rr, given, mrg, exct, shr, ren, renL, renB, Nat.reduceAdd, Nat.reduceSub, Nat.reduceLT, Nat.reduceLeDiff, Nat.reduceEqDiff, Nat.reduceBEq, Nat.reduceBNe, reduceCtorEq, nmC, nmV, rBE, rw, yrd, nmAt, wrC, recC, zr, rk]), 9, false, _, _, 0, 0, hg, .inl ⟨rfl, hle, hM, rfl, rfl⟩, rfl, rfl⟩
      · exact ⟨_, _, Le.off [some 0, none] (by rfl) (by rfl) (by simp only [rX2, bd, bdL, bdB, bdH, bdT, front, VLe, VLeL, BLe, Phan, TLe, HLe, ro, Blk.owned, CLe, rr, given, mrg, exct, shr, ren, renL, renB, Nat.reduceAdd, Nat.reduceSub, Nat.reduceLT, Nat.reduceLeDiff, Nat.reduceEqDiff, Nat.reduceBEq, Nat.reduceBNe, reduceCtorEq, nmC, nmV, rBE, rw, yrd, nmAt, wrC, recC, zr, rk]), 9, false, _, zr, 40, 0, hg, .inr ⟨fun hh => hM hh.2.2, rfl, rfl⟩, rfl, rfl⟩
theorem yread_4 (R : List Int) (cap : Nat) (hB : Bys (4 :: R)) (hl : (4 :: R : List Int).length ≤ 1000) :
    VCall Try.prog 16 [.slice 0 (R.length + 1) cap] [rw (4 :: R)] fun v h =>
      ∃ k' bad' r' r'' e co, GetK 4 R k' bad' r' ∧ (bad' = false ∧ R.length ≤ k' ∧ MayR r' ∧ r'' = r' ∧ e = 0 ∨ ¬ (bad' = false ∧ R.length ≤ k' ∧ MayR r') ∧ r'' = zr ∧ e = 40) ∧
        v = .tup [.agg (recC r'' (.slice 1 r''.n co)), .int .i64 e] ∧ h = [rw (4 :: R), .own 89 9 r''.n co fun j => wrC (r''.w j)] := by
  have b0 := ybyte_ok (4 :: R) cap 0 false hB hl
  have b1 := yname_ok (4 :: R) cap 1 false hB hl
  have b2 := ybyte_ok (4 :: R) cap 10 false hB hl
  have b3 := ybyte_ok (4 :: R) cap 11 false hB hl
  have b4 := ybyte_ok (4 :: R) cap 12 false hB hl
  rw [show (4 :: R : List Int).getD 10 0 = R.getD 9 0 from List.getD_cons_succ] at b2
  rw [show (4 :: R : List Int).getD 11 0 = R.getD 10 0 from List.getD_cons_succ] at b3
  rw [show (4 :: R : List Int).getD 12 0 = R.getD 11 0 from List.getD_cons_succ] at b4
  have hx := hB.getD 11
  rw [show (4 :: R : List Int).getD 11 0 = R.getD 10 0 from List.getD_cons_succ] at hx
  have hst : IntKind.i64.wrap (R.getD 10 0 - 1) = R.getD 10 0 - 1 := IntWalk.i64_in _ (by omega)
  have l0 : lack false (4 :: R) 0 = false := by unfold lack; simp
  have l1 : lack false (4 :: R) 1 = false := by unfold lack; simp
  have ea : bitsI .and .i64 4 127 = 4 := and127 4 (by omega)
  have ew : IntKind.i8.wrap 4 = 4 := by decide
  have hnm : nmAt (4 :: R) 1 = nmAt R 0 := rfl
  rw [hnm] at b1
  unfold yrd rw at b0 b1 b2 b3 b4
  unfold rw
  simp only [Nat.zero_min, Int.natCast_zero, l0, l1, Nat.zero_add, List.getD_cons_zero, List.length_cons] at b0 b1 b2 b3 b4
  refine VC.out ?_
  refine wbody Try.func16 rfl (by kernel_rfl) ?_
  rw [Try.ntmps16, Try.results16]
  simp (implicitDefEqProofs := false) only [rX1, bd, bdL, bdB, bdH, bdT, front, VLe, VLeL, BLe, Phan, TLe, HLe, ro, Blk.owned, CLe, rr, given, mrg, exct, shr, ren, renL, renB, Nat.reduceBEq, Nat.reduceBNe, rX0, ofVal, ofVals, cellsV, vStore.isTup, eqL, eqV, Blk.deg, oneV, elApp, Nat.reduceAdd, Nat.reduceSub, Nat.reduceMul, Nat.reduceLT, Nat.reduceLeDiff, Nat.reduceEqDiff, Int.reduceToNat, Int.reduceGT, Int.reduceGE, Int.reduceMul, Int.reduceLT, Int.reduceLE, Int.reduceAdd, Int.reduceSub, Int.reduceNeg, reduceCtorEq, Sf.T3, Sf.T4, Sf.T24, Sf.T5, Sf.T22, Sf.T26, Sf.T83, Sf.T27, Sf.T89, Sf.T29, Sf.T31, nmC, nmV, rBE, rw, yrd, nmAt, wrC, recC, zr, rk]
  refine vframe (b0) [2, 0] (by rfl) (by simp only [rX2, bd, bdL, bdB, bdH, bdT, front, VLe, VLeL, BLe, Phan, TLe, HLe, ro, Blk.owned, CLe, rr, given, mrg, exct, shr, ren, renL, renB, Nat.reduceAdd, Nat.reduceSub, Nat.reduceLT, Nat.reduceLeDiff, Nat.reduceEqDiff, Nat.reduceBEq, Nat.reduceBNe, reduceCtorEq, nmC, nmV, rBE, rw, yrd, nmAt, wrC, recC, zr, rk]) ?_
  rintro v h ⟨rfl, rfl⟩ -
  simp (implicitDefEqProofs := false) only [ea, ew, rX2, bd, bdL, bdB, bdH, bdT, front, VLe, VLeL, BLe, Phan, TLe, HLe, ro, Blk.owned, CLe, rr, given, mrg, exct, shr, ren, renL, renB, Nat.reduceAdd, Nat.reduceSub, Nat.reduceLT, Nat.reduceLeDiff, Nat.reduceEqDiff, Nat.reduceBEq, Nat.reduceBNe, reduceCtorEq, nmC, nmV, rBE, rw, yrd, nmAt, wrC, recC, zr, rk, rX0, ofVal, ofVals, cellsV, vStore.isTup, eqL, eqV, Blk.deg, oneV, elApp, Nat.reduceAdd, Nat.reduceSub, Nat.reduceMul, Nat.reduceLT, Nat.reduceLeDiff, Nat.reduceEqDiff, Int.reduceToNat, Int.reduceGT, Int.reduceGE, Int.reduceMul, Int.reduceLT, Int.reduceLE, Int.reduceAdd, Int.reduceSub, Int.reduceNeg, reduceCtorEq, Sf.T3, Sf.T4, Sf.T24, Sf.T5, Sf.T22, Sf.T26, Sf.T83, Sf.T27, Sf.T89, Sf.T29, Sf.T31, nmC, nmV, rBE, rw, yrd, nmAt, wrC, recC, zr, rk]
  refine ⟨fun _ => ⟨by omega, by omega, by omega, fun h => absurd h (by rw [List.getD_cons_zero]; omega), fun _ => ?_⟩, fun h => absurd h (by omega)⟩
  refine ⟨fun h => absurd h (by omega), fun _ => ⟨fun h => absurd h (by omega), fun _ => ?_⟩⟩
  refine vframe (b1) [2, 0] (by rfl) (by simp only [rX2, bd, bdL, bdB, bdH, bdT, front, VLe, VLeL, BLe, Phan, TLe, HLe, ro, Blk.owned, CLe, rr, given, mrg, exct, shr, ren, renL, renB, Nat.reduceAdd, Nat.reduceSub, Nat.reduceLT, Nat.reduceLeDiff, Nat.reduceEqDiff, Nat.reduceBEq, Nat.reduceBNe, reduceCtorEq, nmC, nmV, rBE, rw, yrd, nmAt, wrC, recC, zr, rk]) ?_
  rintro v h ⟨rfl, rfl⟩ -
  simp (implicitDefEqProofs := false) only [rX2, bd, bdL, bdB, bdH, bdT, front, VLe, VLeL, BLe, Phan, TLe, HLe, ro, Blk.owned, CLe, rr, given, mrg, exct, shr, ren, renL, renB, Nat.reduceAdd, Nat.reduceSub, Nat.reduceLT, Nat.reduceLeDiff, Nat.reduceEqDiff, Nat.reduceBEq, Nat.reduceBNe, reduceCtorEq, nmC, nmV, rBE, rw, yrd, nmAt, wrC, recC, zr, rk, rX0, ofVal, ofVals, cellsV, vStore.isTup, eqL, eqV, Blk.deg, oneV, elApp, Nat.reduceAdd, Nat.reduceSub, Nat.reduceMul, Nat.reduceLT, Nat.reduceLeDiff, Nat.reduceEqDiff, Int.reduceToNat, Int.reduceGT, Int.reduceGE, Int.reduceMul, Int.reduceLT, Int.reduceLE, Int.reduceAdd, Int.reduceSub, Int.reduceNeg, reduceCtorEq, Sf.T3, Sf.T4, Sf.T24, Sf.T5, Sf.T22, Sf.T26, Sf.T83, Sf.T27, Sf.T89, Sf.T29, Sf.T31, nmC, nmV, rBE, rw, yrd, nmAt, wrC, recC, zr, rk]
  refine ⟨fun h => absurd h (by omega), fun _ => ⟨fun h => absurd h (by omega), fun _ => ⟨fun h => absurd h (by omega), fun _ => ?_⟩⟩⟩
  have hg : GetK 4 R 12 (lack false R 12) { rk 4 (nmAt R 0) with shards := R.getD 9 0, st := R.getD 10 0 - 1, to_ := R.getD 11 0 } := by
    rw [getK_4 rfl]; exact ⟨rfl, rfl, rfl⟩
  have hm := rmay_ok { rk 4 (nmAt R 0) with shards := R.getD 9 0, st := R.getD 10 0 - 1, to_ := R.getD 11 0 } 0 (Nat.zero_le _)
  unfold recC at hm
  refine vframe (b2) [2, 0] (by rfl) (by simp only [rX2, bd, bdL, bdB, bdH, bdT, front, VLe, VLeL, BLe, Phan, TLe, HLe, ro, Blk.owned, CLe, rr, given, mrg, exct, shr, ren, renL, renB, Nat.reduceAdd, Nat.reduceSub, Nat.reduceLT, Nat.reduceLeDiff, Nat.reduceEqDiff, Nat.reduceBEq, Nat.reduceBNe, reduceCtorEq, nmC, nmV, rBE, rw, yrd, nmAt, wrC, recC, zr, rk]) ?_
  rintro v h ⟨rfl, rfl⟩ -
  simp (implicitDefEqProofs := false) only [rX2, bd, bdL, bdB, bdH, bdT, front, VLe, VLeL, BLe, Phan, TLe, HLe, ro, Blk.owned, CLe, rr, given, mrg, exct, shr, ren, renL, renB, Nat.reduceAdd, Nat.reduceSub, Nat.reduceLT, Nat.reduceLeDiff, Nat.reduceEqDiff, Nat.reduceBEq, Nat.reduceBNe, reduceCtorEq, nmC, nmV, rBE, rw, yrd, nmAt, wrC, recC, zr, rk, rX0, ofVal, ofVals, cellsV, vStore.isTup, eqL, eqV, Blk.deg, oneV, elApp, Nat.reduceAdd, Nat.reduceSub, Nat.reduceMul, Nat.reduceLT, Nat.reduceLeDiff, Nat.reduceEqDiff, Int.reduceToNat, Int.reduceGT, Int.reduceGE, Int.reduceMul, Int.reduceLT, Int.reduceLE, Int.reduceAdd, Int.reduceSub, Int.reduceNeg, reduceCtorEq, Sf.T3, Sf.T4, Sf.T24, Sf.T5, Sf.T22, Sf.T26, Sf.T83, Sf.T27, Sf.T89, Sf.T29, Sf.T31, nmC, nmV, rBE, rw, yrd, nmAt, wrC, recC, zr, rk]
  refine vframe (b3) [2, 0] (by rfl) (by simp only [rX2, bd, bdL, bdB, bdH, bdT, front, VLe, VLeL, BLe, Phan, TLe, HLe, ro, Blk.owned, CLe, rr, given, mrg, exct, shr, ren, renL, renB, Nat.reduceAdd, Nat.reduceSub, Nat.reduceLT, Nat.reduceLeDiff, Nat.reduceEqDiff, Nat.reduceBEq, Nat.reduceBNe, reduceCtorEq, nmC, nmV, rBE, rw, yrd, nmAt, wrC, recC, zr, rk]) ?_
  rintro v h ⟨rfl, rfl⟩ -
  simp (implicitDefEqProofs := false) only [hst, rX2, bd, bdL, bdB, bdH, bdT, front, VLe, VLeL, BLe, Phan, TLe, HLe, ro, Blk.owned, CLe, rr, given, mrg, exct, shr, ren, renL, renB, Nat.reduceAdd, Nat.reduceSub, Nat.reduceLT, Nat.reduceLeDiff, Nat.reduceEqDiff, Nat.reduceBEq, Nat.reduceBNe, reduceCtorEq, nmC, nmV, rBE, rw, yrd, nmAt, wrC, recC, zr, rk, rX0, ofVal, ofVals, cellsV, vStore.isTup, eqL, eqV, Blk.deg, oneV, elApp, Nat.reduceAdd, Nat.reduceSub, Nat.reduceMul, Nat.reduceLT, Nat.reduceLeDiff, Nat.reduceEqDiff, Int.reduceToNat, Int.reduceGT, Int.reduceGE, Int.reduceMul, Int.reduceLT, Int.reduceLE, Int.reduceAdd, Int.reduceSub, Int.reduceNeg, reduceCtorEq, Sf.T3, Sf.T4, Sf.T24, Sf.T5, Sf.T22, Sf.T26, Sf.T83, Sf.T27, Sf.T89, Sf.T29, Sf.T31, nmC, nmV, rBE, rw, yrd, nmAt, wrC, recC, zr, rk]
  refine vframe (b4) [2, 0] (by rfl) (by simp only [rX2, bd, bdL, bdB, bdH, bdT, front, VLe, VLeL, BLe, Phan, TLe, HLe, ro, Blk.owned, CLe, rr, given, mrg, exct, shr, ren, renL, renB, Nat.reduceAdd, Nat.reduceSub, Nat.reduceLT, Nat.reduceLeDiff, Nat.reduceEqDiff, Nat.reduceBEq, Nat.reduceBNe, reduceCtorEq, nmC, nmV, rBE, rw, yrd, nmAt, wrC, recC, zr, rk]) ?_
  rintro v h ⟨rfl, rfl⟩ -
  simp (implicitDefEqProofs := false) only [rX2, bd, bdL, bdB, bdH, bdT, front, VLe, VLeL, BLe, Phan, TLe, HLe, ro, Blk.owned, CLe, rr, given, mrg, exct, shr, ren, renL, renB, Nat.reduceAdd, Nat.reduceSub, Nat.reduceLT, Nat.reduceLeDiff, Nat.reduceEqDiff, Nat.reduceBEq, Nat.reduceBNe, reduceCtorEq, nmC, nmV, rBE, rw, yrd, nmAt, wrC, recC, zr, rk, rX0, ofVal, ofVals, cellsV, vStore.isTup, eqL, eqV, Blk.deg, oneV, elApp, Nat.reduceAdd, Nat.reduceSub, Nat.reduceMul, Nat.reduceLT, Nat.reduceLeDiff, Nat.reduceEqDiff, Int.reduceToNat, Int.reduceGT, Int.reduceGE, Int.reduceMul, Int.reduceLT, Int.reduceLE, Int.reduceAdd, Int.reduceSub, Int.reduceNeg, reduceCtorEq, Sf.T3, Sf.T4, Sf.T24, Sf.T5, Sf.T22, Sf.T26, Sf.T83, Sf.T27, Sf.T89, Sf.T29, Sf.T31, nmC, nmV, rBE, rw, yrd, nmAt, wrC, recC, zr, rk]
  have hl10 : lack false (4 :: R) 13 = lack false R 12 := by unfold lack; simp only [List.length_cons]; congr 1; exact decide_eq_decide.2 (by omega)
  rw [hl10]
  generalize hbq : lack false R 12 = bq at hg ⊢
  cases bq with
  | true =>
    simp (implicitDefEqProofs := false) only [rX2, bd, bdL, bdB, bdH, bdT, front, VLe, VLeL, BLe, Phan, TLe, HLe, ro, Blk.owned, CLe, rr, given, mrg, exct, shr, ren, renL, renB, Nat.reduceAdd, Nat.reduceSub, Nat.reduceLT, Nat.reduceLeDiff, Nat.reduceEqDiff, Nat.reduceBEq, Nat.reduceBNe, reduceCtorEq, nmC, nmV, rBE, rw, yrd, nmAt, wrC, recC, zr, rk, rX0, ofVal, ofVals, cellsV, vStore.isTup, eqL, eqV, Blk.deg, oneV, elApp, Nat.reduceAdd, Nat.reduceSub, Nat.reduceMul, Nat.reduceLT, Nat.reduceLeDiff, Nat.reduceEqDiff, Int.reduceToNat, Int.reduceGT, Int.reduceGE, Int.reduceMul, Int.reduceLT, Int.reduceLE, Int.reduceAdd, Int.reduceSub, Int.reduceNeg, reduceCtorEq, Sf.T3, Sf.T4, Sf.T24, Sf.T5, Sf.T22, Sf.T26, Sf.T83, Sf.T27, Sf.T89, Sf.T29, Sf.T31, nmC, nmV, rBE, rw, yrd, nmAt, wrC, recC, zr, rk]
    exact ⟨_, _, Le.off [some 0, none] (by rfl) (by rfl) (by simp only [rX2, bd, bdL, bdB, bdH, bdT, front, VLe, VLeL, BLe, Phan, TLe, HLe, ro, Blk.owned, CLe, rr, given, mrg, exct, shr, ren, renL, renB, Nat.reduceAdd, Nat.reduceSub, Nat.reduceLT, Nat.reduceLeDiff, Nat.reduceEqDiff, Nat.reduceBEq, Nat.reduceBNe, reduceCtorEq, nmC, nmV, rBE, rw, yrd, nmAt, wrC, recC, zr, rk]), 12, true, _, zr, 40, 0, hg, .inr ⟨fun hh => (by cases hh.1), rfl, rfl⟩, rfl, rfl⟩
  | false =>
    simp (implicitDefEqProofs := false) only [rX2, bd, bdL, bdB, bdH, bdT, front, VLe, VLeL, BLe, Phan, TLe, HLe, ro, Blk.owned, CLe, rr, given, mrg, exct, shr, ren, renL, renB, Nat.reduceAdd, Nat.reduceSub, Nat.reduceLT, Nat.reduceLeDiff, Nat.reduceEqDiff, Nat.reduceBEq, Nat.reduceBNe, reduceCtorEq, nmC, nmV, rBE, rw, yrd, nmAt, wrC, recC, zr, rk, rX0, ofVal, ofVals, cellsV, vStore.isTup, eqL, eqV, Blk.deg, oneV, elApp, Nat.reduceAdd, Nat.reduceSub, Nat.reduceMul, Nat.reduceLT, Nat.reduceLeDiff, Nat.reduceEqDiff, Int.reduceToNat, Int.reduceGT, Int.reduceGE, Int.reduceMul, Int.reduceLT, Int.reduceLE, Int.reduceAdd, Int.reduceSub, Int.reduceNeg, reduceCtorEq, Sf.T3, Sf.T4, Sf.T24, Sf.T5, Sf.T22, Sf.T26, Sf.T83, Sf.T27, Sf.T89, Sf.T29, Sf.T31, nmC, nmV, rBE, rw, yrd, nmAt, wrC, recC, zr, rk]
    refine ⟨fun h => ?_, fun h => ?_⟩
    · exact ⟨_, _, Le.off [some 0, none] (by rfl) (by rfl) (by simp only [rX2, bd, bdL, bdB, bdH, bdT, front, VLe, VLeL, BLe, Phan, TLe, HLe, ro, Blk.owned, CLe, rr, given, mrg, exct, shr, ren, renL, renB, Nat.reduceAdd, Nat.reduceSub, Nat.reduceLT, Nat.reduceLeDiff, Nat.reduceEqDiff, Nat.reduceBEq, Nat.reduceBNe, reduceCtorEq, nmC, nmV, rBE, rw, yrd, nmAt, wrC, recC, zr, rk]), 12, false, _, zr, 40, 0, hg, .inr ⟨fun hh => (by have := hh.2.1; omega), rfl, rfl⟩, rfl, rfl⟩
    · refine VC.le [.agg (recC { rk 4 (nmAt R 0) with shards := R.getD 9 0, st := R.getD 10 0 - 1, to_ := R.getD 11 0 } (.slice 4 0 0))] [.row 1 (R.length + 1) (bE (4 :: R)), .cells true 31 (recC zr .nilSlice), .cells true 83 [.slice 0 (R.length + 1) cap, .int .i64 ((min 13 (R.length + 1) : Nat) : Int), .bool false], .cells true 31 (recC { rk 4 (nmAt R 0) with shards := R.getD 9 0, st := R.getD 10 0 - 1, to_ := R.getD 11 0 } .nilSlice), .row 9 0 fun j => wrC (zr.w j)] (Le.off [some 0, some 1, some 2, some 3, none] (by rfl) (by rfl) (by simp only [rX2, bd, bdL, bdB, bdH, bdT, front, VLe, VLeL, BLe, Phan, TLe, HLe, ro, Blk.owned, CLe, rr, given, mrg, exct, shr, ren, renL, renB, Nat.reduceAdd, Nat.reduceSub, Nat.reduceLT, Nat.reduceLeDiff, Nat.reduceEqDiff, Nat.reduceBEq, Nat.reduceBNe, reduceCtorEq, nmC, nmV, rBE, rw, yrd, nmAt, wrC, recC, zr, rk])) ?_
      refine vframe (hm) [4] (by rfl) (by simp only [rX2, bd, bdL, bdB, bdH, bdT, front, VLe, VLeL, BLe, Phan, TLe, HLe, ro, Blk.owned, CLe, rr, given, mrg, exct, shr, ren, renL, renB, Nat.reduceAdd, Nat.reduceSub, Nat.reduceLT, Nat.reduceLeDiff, Nat.reduceEqDiff, Nat.reduceBEq, Nat.reduceBNe, reduceCtorEq, nmC, nmV, rBE, rw, yrd, nmAt, wrC, recC, zr, rk]) ?_
      rintro v h ⟨rfl, rfl⟩ -
      simp (implicitDefEqProofs := false) only [rX2, bd, bdL, bdB, bdH, bdT, front, VLe, VLeL, BLe, Phan, TLe, HLe, ro, Blk.owned, CLe, rr, given, mrg, exct, shr, ren, renL, renB, Nat.reduceAdd, Nat.reduceSub, Nat.reduceLT, Nat.reduceLeDiff, Nat.reduceEqDiff, Nat.reduceBEq, Nat.reduceBNe, reduceCtorEq, nmC, nmV, rBE, rw, yrd, nmAt, wrC, recC, zr, rk, rX0, ofVal, ofVals, cellsV, vStore.isTup, eqL, eqV, Blk.deg, oneV, elApp, Nat.reduceAdd, Nat.reduceSub, Nat.reduceMul, Nat.reduceLT, Nat.reduceLeDiff, Nat.reduceEqDiff, Int.reduceToNat, Int.reduceGT, Int.reduceGE, Int.reduceMul, Int.reduceLT, Int.reduceLE, Int.reduceAdd, Int.reduceSub, Int.reduceNeg, reduceCtorEq, Sf.T3, Sf.T4, Sf.T24, Sf.T5, Sf.T22, Sf.T26, Sf.T83, Sf.T27, Sf.T89, Sf.T29, Sf.T31, nmC, nmV, rBE, rw, yrd, nmAt, wrC, recC, zr, rk]
      have hle : R.length ≤ 12 := by
        by_cases c : R.length + 1 ≤ 13
        · omega
        · rw [Nat.min_eq_left (by omega)] at h; omega
      refine ⟨fun hM => ?_, fun hM => ?_⟩
      · exact ⟨_, _, Le.off [some 0, none] (by rfl) (by rfl) (by simp only [rX2, bd, bdL, bdB, bdH, bdT, front, VLe, VLeL, BLe, Phan, TLe, HLe, ro, Blk.owned, CLe, rr, given, mrg, exct, shr, ren, renL, renB, Nat.reduceAdd, Nat.reduceSub, Nat.reduceLT, Nat.reduceLeDiff, Nat.reduceEqDiff, Nat.reduceBEq, Nat.reduceBNe, reduceCtorEq, nmC, nmV, rBE, rw, yrd, nmAt, wrC, recC, zr, rk]), 12, false, _, _, 0, 0, hg, .inl ⟨rfl, hle, hM, rfl, rfl⟩, rfl, rfl⟩
      · exact ⟨_, _, Le.off [some 0, none] (by rfl) (by rfl) (by simp only [rX2, bd, bdL, bdB, bdH, bdT, front, VLe, VLeL, BLe, Phan, TLe, HLe, ro, Blk.owned, CLe, rr, given, mrg, exct, shr, ren, renL, renB, Nat.reduceAdd, Nat.reduceSub, Nat.reduceLT, Nat.reduceLeDiff, Nat.reduceEqDiff, Nat.reduceBEq, Nat.reduceBNe, reduceCtorEq, nmC, nmV, rBE, rw, yrd, nmAt, wrC, recC, zr, rk]), 12, false, _, zr, 40, 0, hg, .inr ⟨fun hh => hM hh.2.2, rfl, rfl⟩, rfl, rfl⟩
theorem yread_6 (R : List Int) (cap : Nat) (hB : Bys (6 :: R)) (hl : (6 :: R : List Int).length ≤ 1000) :
    VCall Try.prog 16 [.slice 0 (R.length + 1) cap] [rw (6 :: R)] fun v h =>
      ∃ k' bad' r' r'' e co, GetK 6 R k' bad' r' ∧ (bad' = false ∧ R.length ≤ k' ∧ MayR r' ∧ r'' = r' ∧ e = 0 ∨ ¬ (bad' = false ∧ R.length ≤ k' ∧ MayR r') ∧ r'' = zr ∧ e = 40) ∧
        v = .tup [.agg (recC r'' (.slice 1 r''.n co)), .int .i64 e] ∧ h = [rw (6 :: R), .own 89 9 r''.n co fun j => wrC (r''.w j)] := by
  have b0 := ybyte_ok (6 :: R) cap 0 false hB hl
  have b1 := ythree_ok (6 :: R) cap 1 false hB hl
  have l0 : lack false (6 :: R) 0 = false := by unfold lack; simp
  have l1 : lack false (6 :: R) 1 = false := by unfold lack; simp
  have ea : bitsI .and .i64 6 127 = 6 := and127 6 (by omega)
  have ew : IntKind.i8.wrap 6 = 6 := by decide
  have hnm : n3 (6 :: R) 1 = n3 R 0 := rfl
  rw [hnm] at b1
  obtain ⟨q, hq⟩ : ∃ q, n3 R 0 = q := ⟨_, rfl⟩
  rw [hq] at b1
  unfold yrd rw at b0 b1
  unfold rw
  simp only [Nat.zero_min, Int.natCast_zero, l0, l1, Nat.zero_add, List.getD_cons_zero, List.length_cons] at b0 b1
  refine VC.out ?_
  refine wbody Try.func16 rfl (by kernel_rfl) ?_
  rw [Try.ntmps16, Try.results16]
  simp (implicitDefEqProofs := false) only [rX1, bd, bdL, bdB, bdH, bdT, front, VLe, VLeL, BLe, Phan, TLe, HLe, ro, Blk.owned, CLe, rr, given, mrg, exct, shr, ren, renL, renB, Nat.reduceBEq, Nat.reduceBNe, rX0, ofVal, ofVals, cellsV, vStore.isTup, eqL, eqV, Blk.deg, oneV, elApp, Nat.reduceAdd, Nat.reduceSub, Nat.reduceMul, Nat.reduceLT, Nat.reduceLeDiff, Nat.reduceEqDiff, Int.reduceToNat, Int.reduceGT, Int.reduceGE, Int.reduceMul, Int.reduceLT, Int.reduceLE, Int.reduceAdd, Int.reduceSub, Int.reduceNeg, reduceCtorEq, Sf.T3, Sf.T4, Sf.T24, Sf.T5, Sf.T22, Sf.T26, Sf.T83, Sf.T27, Sf.T89, Sf.T29, Sf.T31, nmC, nmV, rBE, rw, yrd, nmAt, wrC, recC, zr, rk]
  refine vframe (b0) [2, 0] (by rfl) (by simp only [rX2, bd, bdL, bdB, bdH, bdT, front, VLe, VLeL, BLe, Phan, TLe, HLe, ro, Blk.owned, CLe, rr, given, mrg, exct, shr, ren, renL, renB, Nat.reduceAdd, Nat.reduceSub, Nat.reduceLT, Nat.reduceLeDiff, Nat.reduceEqDiff, Nat.reduceBEq, Nat.reduceBNe, reduceCtorEq, nmC, nmV, rBE, rw, yrd, nmAt, wrC, recC, zr, rk]) ?_
  rintro v h ⟨rfl, rfl⟩ -
  simp (implicitDefEqProofs := false) only [ea, ew, rX2, bd, bdL, bdB, bdH, bdT, front, VLe, VLeL, BLe, Phan, TLe, HLe, ro, Blk.owned, CLe, rr, given, mrg, exct, shr, ren, renL, renB, Nat.reduceAdd, Nat.reduceSub, Nat.reduceLT, Nat.reduceLeDiff, Nat.reduceEqDiff, Nat.reduceBEq, Nat.reduceBNe, reduceCtorEq, nmC, nmV, rBE, rw, yrd, nmAt, wrC, recC, zr, rk, rX0, ofVal, ofVals, cellsV, vStore.isTup, eqL, eqV, Blk.deg, oneV, elApp, Nat.reduceAdd, Nat.reduceSub, Nat.reduceMul, Nat.reduceLT, Nat.reduceLeDiff, Nat.reduceEqDiff, Int.reduceToNat, Int.reduceGT, Int.reduceGE, Int.reduceMul, Int.reduceLT, Int.reduceLE, Int.reduceAdd, Int.reduceSub, Int.reduceNeg, reduceCtorEq, Sf.T3, Sf.T4, Sf.T24, Sf.T5, Sf.T22, Sf.T26, Sf.T83, Sf.T27, Sf.T89, Sf.T29, Sf.T31, nmC, nmV, rBE, rw, yrd, nmAt, wrC, recC, zr, rk]
  refine ⟨fun _ => ⟨by omega, by omega, by omega, fun h => absurd h (by rw [List.getD_cons_zero]; omega), fun _ => ?_⟩, fun h => absurd h (by omega)⟩
  refine vframe (b1) [2, 0] (by rfl) (by simp only [rX2, bd, bdL, bdB, bdH, bdT, front, VLe, VLeL, BLe, Phan, TLe, HLe, ro, Blk.owned, CLe, rr, given, mrg, exct, shr, ren, renL, renB, Nat.reduceAdd, Nat.reduceSub, Nat.reduceLT, Nat.reduceLeDiff, Nat.reduceEqDiff, Nat.reduceBEq, Nat.reduceBNe, reduceCtorEq, nmC, nmV, rBE, rw, yrd, nmAt, wrC, recC, zr, rk]) ?_
  rintro v h ⟨rfl, rfl⟩ -
  simp (implicitDefEqProofs := false) only [rX2, bd, bdL, bdB, bdH, bdT, front, VLe, VLeL, BLe, Phan, TLe, HLe, ro, Blk.owned, CLe, rr, given, mrg, exct, shr, ren, renL, renB, Nat.reduceAdd, Nat.reduceSub, Nat.reduceLT, Nat.reduceLeDiff, Nat.reduceEqDiff, Nat.reduceBEq, Nat.reduceBNe, reduceCtorEq, nmC, nmV, rBE, rw, yrd, nmAt, wrC, recC, zr, rk, rX0, ofVal, ofVals, cellsV, vStore.isTup, eqL, eqV, Blk.deg, oneV, elApp, Nat.reduceAdd, Nat.reduceSub, Nat.reduceMul, Nat.reduceLT, Nat.reduceLeDiff, Nat.reduceEqDiff, Int.reduceToNat, Int.reduceGT, Int.reduceGE, Int.reduceMul, Int.reduceLT, Int.reduceLE, Int.reduceAdd, Int.reduceSub, Int.reduceNeg, reduceCtorEq, Sf.T3, Sf.T4, Sf.T24, Sf.T5, Sf.T22, Sf.T26, Sf.T83, Sf.T27, Sf.T89, Sf.T29, Sf.T31, nmC, nmV, rBE, rw, yrd, nmAt, wrC, recC, zr, rk]
  have hg : GetK 6 R 3 (lack false R 3) { rk 6 ⟨0, 0, 0⟩ with num := q } := by
    rw [getK_6 (by omega), ← hq]; exact ⟨rfl, rfl, rfl⟩
  have hm := rmay_ok { rk 6 ⟨0, 0, 0⟩ with num := q } 0 (Nat.zero_le _)
  have hl10 : lack false (6 :: R) 4 = lack false R 3 := by unfold lack; simp only [List.length_cons]; congr 1; exact decide_eq_decide.2 (by omega)
  rw [hl10]
  generalize hbq : lack false R 3 = bq at hg ⊢
  cases bq with
  | true =>
    simp (implicitDefEqProofs := false) only [rX2, bd, bdL, bdB, bdH, bdT, front, VLe, VLeL, BLe, Phan, TLe, HLe, ro, Blk.owned, CLe, rr, given, mrg, exct, shr, ren, renL, renB, Nat.reduceAdd, Nat.reduceSub, Nat.reduceLT, Nat.reduceLeDiff, Nat.reduceEqDiff, Nat.reduceBEq, Nat.reduceBNe, reduceCtorEq, nmC, nmV, rBE, rw, yrd, nmAt, wrC, recC, zr, rk, rX0, ofVal, ofVals, cellsV, vStore.isTup, eqL, eqV, Blk.deg, oneV, elApp, Nat.reduceAdd, Nat.reduceSub, Nat.reduceMul, Nat.reduceLT, Nat.reduceLeDiff, Nat.reduceEqDiff, Int.reduceToNat, Int.reduceGT, Int.reduceGE, Int.reduceMul, Int.reduceLT, Int.reduceLE, Int.reduceAdd, Int.reduceSub, Int.reduceNeg, reduceCtorEq, Sf.T3, Sf.T4, Sf.T24, Sf.T5, Sf.T22, Sf.T26, Sf.T83, Sf.T27, Sf.T89, Sf.T29, Sf.T31, nmC, nmV, rBE, rw, yrd, nmAt, wrC, recC, zr, rk]
    exact ⟨_, _, Le.off [some 0, none] (by rfl) (by rfl) (by simp only [rX2, bd, bdL, bdB, bdH, bdT, front, VLe, VLeL, BLe, Phan, TLe, HLe, ro, Blk.owned, CLe, rr, given, mrg, exct, shr, ren, renL, renB, Nat.reduceAdd, Nat.reduceSub, Nat.reduceLT, Nat.reduceLeDiff, Nat.reduceEqDiff, Nat.reduceBEq, Nat.reduceBNe, reduceCtorEq, nmC, nmV, rBE, rw, yrd, nmAt, wrC, recC, zr, rk]), 3, true, _, zr, 40, 0, hg, .inr ⟨fun hh => (by cases hh.1), rfl, rfl⟩, rfl, rfl⟩
  | false =>
    simp (implicitDefEqProofs := false) only [rX2, bd, bdL, bdB, bdH, bdT, front, VLe, VLeL, BLe, Phan, TLe, HLe, ro, Blk.owned, CLe, rr, given, mrg, exct, shr, ren, renL, renB, Nat.reduceAdd, Nat.reduceSub, Nat.reduceLT, Nat.reduceLeDiff, Nat.reduceEqDiff, Nat.reduceBEq, Nat.reduceBNe, reduceCtorEq, nmC, nmV, rBE, rw, yrd, nmAt, wrC, recC, zr, rk, rX0, ofVal, ofVals, cellsV, vStore.isTup, eqL, eqV, Blk.deg, oneV, elApp, Nat.reduceAdd, Nat.reduceSub, Nat.reduceMul, Nat.reduceLT, Nat.reduceLeDiff, Nat.reduceEqDiff, Int.reduceToNat, Int.reduceGT, Int.reduceGE, Int.reduceMul, Int.reduceLT, Int.reduceLE, Int.reduceAdd, Int.reduceSub, Int.reduceNeg, reduceCtorEq, Sf.T3, Sf.T4, Sf.T24, Sf.T5, Sf.T22, Sf.T26, Sf.T83, Sf.T27, Sf.T89, Sf.T29, Sf.T31, nmC, nmV, rBE, rw, yrd, nmAt, wrC, recC, zr, rk]
    refine ⟨fun h => ?_, fun h => ?_⟩
    · exact ⟨_, _, Le.off [some 0, none] (by rfl) (by rfl) (by simp only [rX2, bd, bdL, bdB, bdH, bdT, front, VLe, VLeL, BLe, Phan, TLe, HLe, ro, Blk.owned, CLe, rr, given, mrg, exct, shr, ren, renL, renB, Nat.reduceAdd, Nat.reduceSub, Nat.reduceLT, Nat.reduceLeDiff, Nat.reduceEqDiff, Nat.reduceBEq, Nat.reduceBNe, reduceCtorEq, nmC, nmV, rBE, rw, yrd, nmAt, wrC, recC, zr, rk]), 3, false, _, zr, 40, 0, hg, .inr ⟨fun hh => (by have := hh.2.1; omega), rfl, rfl⟩, rfl, rfl⟩
    · refine VC.le [.agg (recC { rk 6 ⟨0, 0, 0⟩ with num := q } (.slice 4 0 0))] [.row 1 (R.length + 1) (bE (6 :: R)), .cells true 31 (recC zr .nilSlice), .cells true 83 [.slice 0 (R.length + 1) cap, .int .i64 ((min 4 (R.length + 1) : Nat) : Int), .bool false], .cells true 31 (recC { rk 6 ⟨0, 0, 0⟩ with num := q } .nilSlice), .row 9 0 fun j => wrC (zr.w j)] (Le.off [some 0, some 1, some 2, some 3, none] (by rfl) (by rfl) (by simp only [rX2, bd, bdL, bdB, bdH, bdT, front, VLe, VLeL, BLe, Phan, TLe, HLe, ro, Blk.owned, CLe, rr, given, mrg, exct, shr, ren, renL, renB, Nat.reduceAdd, Nat.reduceSub, Nat.reduceLT, Nat.reduceLeDiff, Nat.reduceEqDiff, Nat.reduceBEq, Nat.reduceBNe, reduceCtorEq, nmC, nmV, rBE, rw, yrd, nmAt, wrC, recC, zr, rk])) ?_
      have hle : R.length ≤ 3 := by
        by_cases c : R.length + 1 ≤ 4
        · omega
        · rw [Nat.min_eq_left (by omega)] at h; omega
      by_cases hM : MayR { rk 6 ⟨0, 0, 0⟩ with num := q }
      · rw [decide_eq_true hM] at hm
        unfold recC at hm
        refine vframe (hm) [4] (by rfl) (by simp only [rX2, bd, bdL, bdB, bdH, bdT, front, VLe, VLeL, BLe, Phan, TLe, HLe, ro, Blk.owned, CLe, rr, given, mrg, exct, shr, ren, renL, renB, Nat.reduceAdd, Nat.reduceSub, Nat.reduceLT, Nat.reduceLeDiff, Nat.reduceEqDiff, Nat.reduceBEq, Nat.reduceBNe, reduceCtorEq, nmC, nmV, rBE, rw, yrd, nmAt, wrC, recC, zr, rk]) ?_
        rintro v h ⟨rfl, rfl⟩ -
        simp (implicitDefEqProofs := false) only [rX2, bd, bdL, bdB, bdH, bdT, front, VLe, VLeL, BLe, Phan, TLe, HLe, ro, Blk.owned, CLe, rr, given, mrg, exct, shr, ren, renL, renB, Nat.reduceAdd, Nat.reduceSub, Nat.reduceLT, Nat.reduceLeDiff, Nat.reduceEqDiff, Nat.reduceBEq, Nat.reduceBNe, reduceCtorEq, nmC, nmV, rBE, rw, yrd, nmAt, wrC, recC, zr, rk, rX0, ofVal, ofVals, cellsV, vStore.isTup, eqL, eqV, Blk.deg, oneV, elApp, Nat.reduceAdd, Nat.reduceSub, Nat.reduceMul, Nat.reduceLT, Nat.reduceLeDiff, Nat.reduceEqDiff, Int.reduceToNat, Int.reduceGT, Int.reduceGE, Int.reduceMul, Int.reduceLT, Int.reduceLE, Int.reduceAdd, Int.reduceSub, Int.reduceNeg, reduceCtorEq, Sf.T3, Sf.T4, Sf.T24, Sf.T5, Sf.T22, Sf.T26, Sf.T83, Sf.T27, Sf.T89, Sf.T29, Sf.T31, nmC, nmV, rBE, rw, yrd, nmAt, wrC, recC, zr, rk]
        exact ⟨_, _, Le.off [some 0, none] (by rfl) (by rfl) (by simp only [rX2, bd, bdL, bdB, bdH, bdT, front, VLe, VLeL, BLe, Phan, TLe, HLe, ro, Blk.owned, CLe, rr, given, mrg, exct, shr, ren, renL, renB, Nat.reduceAdd, Nat.reduceSub, Nat.reduceLT, Nat.reduceLeDiff, Nat.reduceEqDiff, Nat.reduceBEq, Nat.reduceBNe, reduceCtorEq, nmC, nmV, rBE, rw, yrd, nmAt, wrC, recC, zr, rk]), 3, false, _, _, 0, 0, hg, .inl ⟨rfl, hle, hM, rfl, rfl⟩, rfl, rfl⟩
      · rw [decide_eq_false hM] at hm
        unfold recC at hm
        refine vframe (hm) [4] (by rfl) (by simp only [rX2, bd, bdL, bdB, bdH, bdT, front, VLe, VLeL, BLe, Phan, TLe, HLe, ro, Blk.owned, CLe, rr, given, mrg, exct, shr, ren, renL, renB, Nat.reduceAdd, Nat.reduceSub, Nat.reduceLT, Nat.reduceLeDiff, Nat.reduceEqDiff, Nat.reduceBEq, Nat.reduceBNe, reduceCtorEq, nmC, nmV, rBE, rw, yrd, nmAt, wrC, recC, zr, rk]) ?_
        rintro v h ⟨rfl, rfl⟩ -
        simp (implicitDefEqProofs := false) only [rX2, bd, bdL, bdB, bdH, bdT, front, VLe, VLeL, BLe, Phan, TLe, HLe, ro, Blk.owned, CLe, rr, given, mrg, exct, shr, ren, renL, renB, Nat.reduceAdd, Nat.reduceSub, Nat.reduceLT, Nat.reduceLeDiff, Nat.reduceEqDiff, Nat.reduceBEq, Nat.reduceBNe, reduceCtorEq, nmC, nmV, rBE, rw, yrd, nmAt, wrC, recC, zr, rk, rX0, ofVal, ofVals, cellsV, vStore.isTup, eqL, eqV, Blk.deg, oneV, elApp, Nat.reduceAdd, Nat.reduceSub, Nat.reduceMul, Nat.reduceLT, Nat.reduceLeDiff, Nat.reduceEqDiff, Int.reduceToNat, Int.reduceGT, Int.reduceGE, Int.reduceMul, Int.reduceLT, Int.reduceLE, Int.reduceAdd, Int.reduceSub, Int.reduceNeg, reduceCtorEq, Sf.T3, Sf.T4, Sf.T24, Sf.T5, Sf.T22, Sf.T26, Sf.T83, Sf.T27, Sf.T89, Sf.T29, Sf.T31, nmC, nmV, rBE, rw, yrd, nmAt, wrC, recC, zr, rk]
        exact ⟨_, _, Le.off [some 0, none] (by rfl) (by rfl) (by simp only [rX2, bd, bdL, bdB, bdH, bdT, front, VLe, VLeL, BLe, Phan, TLe, HLe, ro, Blk.owned, CLe, rr, given, mrg, exct, shr, ren, renL, renB, Nat.reduceAdd, Nat.reduceSub, Nat.reduceLT, Nat.reduceLeDiff, Nat.reduceEqDiff, Nat.reduceBEq, Nat.reduceBNe, reduceCtorEq, nmC, nmV, rBE, rw, yrd, nmAt, wrC, recC, zr, rk]), 3, false, _, zr, 40, 0, hg, .inr ⟨fun hh => hM hh.2.2, rfl, rfl⟩, rfl, rfl⟩
theorem yread_7 (R : List Int) (cap : Nat) (hB : Bys (7 :: R)) (hl : (7 :: R : List Int).length ≤ 1000) :
    VCall Try.prog 16 [.slice 0 (R.length + 1) cap] [rw (7 :: R)] fun v h =>
      ∃ k' bad' r' r'' e co, GetK 7 R k' bad' r' ∧ (bad' = false ∧ R.length ≤ k' ∧ MayR r' ∧ r'' = r' ∧ e = 0 ∨ ¬ (bad' = false ∧ R.length ≤ k' ∧ MayR r') ∧ r'' = zr ∧ e = 40) ∧
        v = .tup [.agg (recC r'' (.slice 1 r''.n co)), .int .i64 e] ∧ h = [rw (7 :: R), .own 89 9 r''.n co fun j => wrC (r''.w j)] := by
  have b0 := ybyte_ok (7 :: R) cap 0 false hB hl
  have b1 := ythree_ok (7 :: R) cap 1 false hB hl
  have l0 : lack false (7 :: R) 0 = false := by unfold lack; simp
  have l1 : lack false (7 :: R) 1 = false := by unfold lack; simp
  have ea : bitsI .and .i64 7 127 = 7 := and127 7 (by omega)
  have ew : IntKind.i8.wrap 7 = 7 := by decide
  have hnm : n3 (7 :: R) 1 = n3 R 0 := rfl
  rw [hnm] at b1
  obtain ⟨q, hq⟩ : ∃ q, n3 R 0 = q := ⟨_, rfl⟩
  rw [hq] at b1
  unfold yrd rw at b0 b1
  unfold rw
  simp only [Nat.zero_min, Int.natCast_zero, l0, l1, Nat.zero_add, List.getD_cons_zero, List.length_cons] at b0 b1
  refine VC.out ?_
  refine wbody Try.func16 rfl (by kernel_rfl) ?_
  rw [Try.ntmps16, Try.results16]
  simp (implicitDefEqProofs := false) only [rX1, bd, bdL, bdB, bdH, bdT, front, VLe, VLeL, BLe, Phan, TLe, HLe, ro, Blk.owned, CLe, rr, given, mrg, exct, shr, ren, renL, renB, Nat.reduceBEq, Nat.reduceBNe, rX0, ofVal, ofVals, cellsV, vStore.isTup, eqL, eqV, Blk.deg, oneV, elApp, Nat.reduceAdd, Nat.reduceSub, Nat.reduceMul, Nat.reduceLT, Nat.reduceLeDiff, Nat.reduceEqDiff, Int.reduceToNat, Int.reduceGT, Int.reduceGE, Int.reduceMul, Int.reduceLT, Int.reduceLE, Int.reduceAdd, Int.reduceSub, Int.reduceNeg, reduceCtorEq, Sf.T3, Sf.T4, Sf.T24, Sf.T5, Sf.T22, Sf.T26, Sf.T83, Sf.T27, Sf.T89, Sf.T29, Sf.T31, nmC, nmV, rBE, rw, yrd, nmAt, wrC, recC, zr, rk]
  refine vframe (b0) [2, 0] (by rfl) (by simp only [rX2, bd, bdL, bdB, bdH, bdT, front, VLe, VLeL, BLe, Phan, TLe, HLe, ro, Blk.owned, CLe, rr, given, mrg, exct, shr, ren, renL, renB, Nat.reduceAdd, Nat.reduceSub, Nat.reduceLT, Nat.reduceLeDiff, Nat.reduceEqDiff, Nat.reduceBEq, Nat.reduceBNe, reduceCtorEq, nmC, nmV, rBE, rw, yrd, nmAt, wrC, recC, zr, rk]) ?_
  rintro v h ⟨rfl, rfl⟩ -
  simp (implicitDefEqProofs := false) only [ea, ew, rX2, bd, bdL, bdB, bdH, bdT, front, VLe, VLeL, BLe, Phan, TLe, HLe, ro, Blk.owned, CLe, rr, given, mrg, exct, shr, ren, renL, renB, Nat.reduceAdd, Nat.reduceSub, Nat.reduceLT, Nat.reduceLeDiff, Nat.reduceEqDiff, Nat.reduceBEq, Nat.reduceBNe, reduceCtorEq, nmC, nmV, rBE, rw, yrd, nmAt, wrC, recC, zr, rk, rX0, ofVal, ofVals, cellsV, vStore.isTup, eqL, eqV, Blk.deg, oneV, elApp, Nat.reduceAdd, Nat.reduceSub, Nat.reduceMul, Nat.reduceLT, Nat.reduceLeDiff, Nat.reduceEqDiff, Int.reduceToNat, Int.reduceGT, Int.reduceGE, Int.reduceMul, Int.reduceLT, Int.reduceLE, Int.reduceAdd, Int.reduceSub, Int.reduceNeg, reduceCtorEq, Sf.T3, Sf.T4, Sf.T24, Sf.T5, Sf.T22, Sf.T26, Sf.T83, Sf.T27, Sf.T89, Sf.T29, Sf.T31, nmC, nmV, rBE, rw, yrd, nmAt, wrC, recC, zr, rk]
  refine ⟨fun _ => ⟨by omega, by omega, by omega, fun h => absurd h (by rw [List.getD_cons_zero]; omega), fun _ => ?_⟩, fun h => absurd h (by omega)⟩
  refine ⟨fun h => absurd h (by omega), fun _ => ?_⟩
  refine vframe (b1) [2, 0] (by rfl) (by simp only [rX2, bd, bdL, bdB, bdH, bdT, front, VLe, VLeL, BLe, Phan, TLe, HLe, ro, Blk.owned, CLe, rr, given, mrg, exct, shr, ren, renL, renB, Nat.reduceAdd, Nat.reduceSub, Nat.reduceLT, Nat.reduceLeDiff, Nat.reduceEqDiff, Nat.reduceBEq, Nat.reduceBNe, reduceCtorEq, nmC, nmV, rBE, rw, yrd, nmAt, wrC, recC, zr, rk]) ?_
  rintro v h ⟨rfl, rfl⟩ -
  simp (implicitDefEqProofs := false) only [rX2, bd, bdL, bdB, bdH, bdT, front, VLe, VLeL, BLe, Phan, TLe, HLe, ro, Blk.owned, CLe, rr, given, mrg, exct, shr, ren, renL, renB, Nat.reduceAdd, Nat.reduceSub, Nat.reduceLT, Nat.reduceLeDiff, Nat.reduceEqDiff, Nat.reduceBEq, Nat.reduceBNe, reduceCtorEq, nmC, nmV, rBE, rw, yrd, nmAt, wrC, recC, zr, rk, rX0, ofVal, ofVals, cellsV, vStore.isTup, eqL, eqV, Blk.deg, oneV, elApp, Nat.reduceAdd, Nat.reduceSub, Nat.reduceMul, Nat.reduceLT, Nat.reduceLeDiff, Nat.reduceEqDiff, Int.reduceToNat, Int.reduceGT, Int.reduceGE, Int.reduceMul, Int.reduceLT, Int.reduceLE, Int.reduceAdd, Int.reduceSub, Int.reduceNeg, reduceCtorEq, Sf.T3, Sf.T4, Sf.T24, Sf.T5, Sf.T22, Sf.T26, Sf.T83, Sf.T27, Sf.T89, Sf.T29, Sf.T31, nmC, nmV, rBE, rw, yrd, nmAt, wrC, recC, zr, rk]
  have hg : GetK 7 R 3 (lack false R 3) { rk 7 ⟨0, 0, 0⟩ with num := q } := by
    rw [getK_6 (by omega), ← hq]; exact ⟨rfl, rfl, rfl⟩
  have hm := rmay_ok { rk 7 ⟨0, 0, 0⟩ with num := q } 0 (Nat.zero_le _)
  have hl10 : lack false (7 :: R) 4 = lack false R 3 := by unfold lack; simp only [List.length_cons]; congr 1; exact decide_eq_decide.2 (by omega)
  rw [hl10]
  generalize hbq : lack false R 3 = bq at hg ⊢
  cases bq with
  | true =>
    simp (implicitDefEqProofs := false) only [rX2, bd, bdL, bdB, bdH, bdT, front, VLe, VLeL, BLe, Phan, TLe, HLe, ro, Blk.owned, CLe, rr, given, mrg, exct, shr, ren, renL, renB, Nat.reduceAdd, Nat.reduceSub, Nat.reduceLT, Nat.reduceLeDiff, Nat.reduceEqDiff, Nat.reduceBEq, Nat.reduceBNe, reduceCtorEq, nmC, nmV, rBE, rw, yrd, nmAt, wrC, recC, zr, rk, rX0, ofVal, ofVals, cellsV, vStore.isTup, eqL, eqV, Blk.deg, oneV, elApp, Nat.reduceAdd, Nat.reduceSub, Nat.reduceMul, Nat.reduceLT, Nat.reduceLeDiff, Nat.reduceEqDiff, Int.reduceToNat, Int.reduceGT, Int.reduceGE, Int.reduceMul, Int.reduceLT, Int.reduceLE, Int.reduceAdd, Int.reduceSub, Int.reduceNeg, reduceCtorEq, Sf.T3, Sf.T4, Sf.T24, Sf.T5, Sf.T22, Sf.T26, Sf.T83, Sf.T27, Sf.T89, Sf.T29, Sf.T31, nmC, nmV, rBE, rw, yrd, nmAt, wrC, recC, zr, rk]
    exact ⟨_, _, Le.off [some 0, none] (by rfl) (by rfl) (by simp only [rX2, bd, bdL, bdB, bdH, bdT, front, VLe, VLeL, BLe, Phan, TLe, HLe, ro, Blk.owned, CLe, rr, given, mrg, exct, shr, ren, renL, renB, Nat.reduceAdd, Nat.reduceSub, Nat.reduceLT, Nat.reduceLeDiff, Nat.reduceEqDiff, Nat.reduceBEq, Nat.reduceBNe, reduceCtorEq, nmC, nmV, rBE, rw, yrd, nmAt, wrC, recC, zr, rk]), 3, true, _, zr, 40, 0, hg, .inr ⟨fun hh => (by cases hh.1), rfl, rfl⟩, rfl, rfl⟩
  | false =>
    simp (implicitDefEqProofs := false) only [rX2, bd, bdL, bdB, bdH, bdT, front, VLe, VLeL, BLe, Phan, TLe, HLe, ro, Blk.owned, CLe, rr, given, mrg, exct, shr, ren, renL, renB, Nat.reduceAdd, Nat.reduceSub, Nat.reduceLT, Nat.reduceLeDiff, Nat.reduceEqDiff, Nat.reduceBEq, Nat.reduceBNe, reduceCtorEq, nmC, nmV, rBE, rw, yrd, nmAt, wrC, recC, zr, rk, rX0, ofVal, ofVals, cellsV, vStore.isTup, eqL, eqV, Blk.deg, oneV, elApp, Nat.reduceAdd, Nat.reduceSub, Nat.reduceMul, Nat.reduceLT, Nat.reduceLeDiff, Nat.reduceEqDiff, Int.reduceToNat, Int.reduceGT, Int.reduceGE, Int.reduceMul, Int.reduceLT, Int.reduceLE, Int.reduceAdd, Int.reduceSub, Int.reduceNeg, reduceCtorEq, Sf.T3, Sf.T4, Sf.T24, Sf.T5, Sf.T22, Sf.T26, Sf.T83, Sf.T27, Sf.T89, Sf.T29, Sf.T31, nmC, nmV, rBE, rw, yrd, nmAt, wrC, recC, zr, rk]
    refine ⟨fun h => ?_, fun h => ?_⟩
    · exact ⟨_, _, Le.off [some 0, none] (by rfl) (by rfl) (by simp only [rX2, bd, bdL, bdB, bdH, bdT, front, VLe, VLeL, BLe, Phan, TLe, HLe, ro, Blk.owned, CLe, rr, given, mrg, exct, shr, ren, renL, renB, Nat.reduceAdd, Nat.reduceSub, Nat.reduceLT, Nat.reduceLeDiff, Nat.reduceEqDiff, Nat.reduceBEq, Nat.reduceBNe, reduceCtorEq, nmC, nmV, rBE, rw, yrd, nmAt, wrC, recC, zr, rk]), 3, false, _, zr, 40, 0, hg, .inr ⟨fun hh => (by have := hh.2.1; omega), rfl, rfl⟩, rfl, rfl⟩
    · refine VC.le [.agg (recC { rk 7 ⟨0, 0, 0⟩ with num := q } (.slice 4 0 0))] [.row 1 (R.length + 1) (bE (7 :: R)), .cells true 31 (recC zr .nilSlice), .cells true 83 [.slice 0 (R.length + 1) cap, .int .i64 ((min 4 (R.length + 1) : Nat) : Int), .bool false], .cells true 31 (recC { rk 7 ⟨0, 0, 0⟩ with num := q } .nilSlice), .row 9 0 fun j => wrC (zr.w j)] (Le.off [some 0, some 1, some 2, some 3, none] (by rfl) (by rfl) (by simp only [rX2, bd, bdL, bdB, bdH, bdT, front, VLe, VLeL, BLe, Phan, TLe, HLe, ro, Blk.owned, CLe, rr, given, mrg, exct, shr, ren, renL, renB, Nat.reduceAdd, Nat.reduceSub, Nat.reduceLT, Nat.reduceLeDiff, Nat.reduceEqDiff, Nat.reduceBEq, Nat.reduceBNe, reduceCtorEq, nmC, nmV, rBE, rw, yrd, nmAt, wrC, recC, zr, rk])) ?_
      have hle : R.length ≤ 3 := by
        by_cases c : R.length + 1 ≤ 4
        · omega
        · rw [Nat.min_eq_left (by omega)] at h; omega
      by_cases hM : MayR { rk 7 ⟨0, 0, 0⟩ with num := q }
      · rw [decide_eq_true hM] at hm
        unfold recC at hm
        refine vframe (hm) [4] (by rfl) (by simp only [rX2, bd, bdL, bdB, bdH, bdT, front, VLe, VLeL, BLe, Phan, TLe, HLe, ro, Blk.owned, CLe, rr, given, mrg, exct, shr, ren, renL, renB, Nat.reduceAdd, Nat.reduceSub, Nat.reduceLT, Nat.reduceLeDiff, Nat.reduceEqDiff, Nat.reduceBEq, Nat.reduceBNe, reduceCtorEq, nmC, nmV, rBE, rw, yrd, nmAt, wrC, recC, zr, rk]) ?_
        rintro v h ⟨rfl, rfl⟩ -
        simp (implicitDefEqProofs := false) only [rX2, bd, bdL, bdB, bdH, bdT, front, VLe, VLeL, BLe, Phan, TLe, HLe, ro, Blk.owned, CLe, rr, given, mrg, exct, shr, ren, renL, renB, Nat.reduceAdd, Nat.reduceSub, Nat.reduceLT, Nat.reduceLeDiff, Nat.reduceEqDiff, Nat.reduceBEq, Nat.reduceBNe, reduceCtorEq, nmC, nmV, rBE, rw, yrd, nmAt, wrC, recC, zr, rk, rX0, ofVal, ofVals, cellsV, vStore.isTup, eqL, eqV, Blk.deg, oneV, elApp, Nat.reduceAdd, Nat.reduceSub, Nat.reduceMul, Nat.reduceLT, Nat.reduceLeDiff, Nat.reduceEqDiff, Int.reduceToNat, Int.reduceGT, Int.reduceGE, Int.reduceMul, Int.reduceLT, Int.reduceLE, Int.reduceAdd, Int.reduceSub, Int.reduceNeg, reduceCtorEq, Sf.T3, Sf.T4, Sf.T24, Sf.T5, Sf.T22, Sf.T26, Sf.T83, Sf.T27, Sf.T89, Sf.T29, Sf.T31, nmC, nmV, rBE, rw, yrd, nmAt, wrC, recC, zr, rk]
        exact ⟨_, _, Le.off [some 0, none] (by rfl) (by rfl) (by simp only [rX2, bd, bdL, bdB, bdH, bdT, front, VLe, VLeL, BLe, Phan, TLe, HLe, ro, Blk.owned, CLe, rr, given, mrg, exct, shr, ren, renL, renB, Nat.reduceAdd, Nat.reduceSub, Nat.reduceLT, Nat.reduceLeDiff, Nat.reduceEqDiff, Nat.reduceBEq, Nat.reduceBNe, reduceCtorEq, nmC, nmV, rBE, rw, yrd, nmAt, wrC, recC, zr, rk]), 3, false, _, _, 0, 0, hg, .inl ⟨rfl, hle, hM, rfl, rfl⟩, rfl, rfl⟩
      · rw [decide_eq_false hM] at hm
        unfold recC at hm
        refine vframe (hm) [4] (by rfl) (by simp only [rX2, bd, bdL, bdB, bdH, bdT, front, VLe, VLeL, BLe, Phan, TLe, HLe, ro, Blk.owned, CLe, rr, given, mrg, exct, shr, ren, renL, renB, Nat.reduceAdd, Nat.reduceSub, Nat.reduceLT, Nat.reduceLeDiff, Nat.reduceEqDiff, Nat.reduceBEq, Nat.reduceBNe, reduceCtorEq, nmC, nmV, rBE, rw, yrd, nmAt, wrC, recC, zr, rk]) ?_
        rintro v h ⟨rfl, rfl⟩ -
        simp (implicitDefEqProofs := false) only [rX2, bd, bdL, bdB, bdH, bdT, front, VLe, VLeL, BLe, Phan, TLe, HLe, ro, Blk.owned, CLe, rr, given, mrg, exct, shr, ren, renL, renB, Nat.reduceAdd, Nat.reduceSub, Nat.reduceLT, Nat.reduceLeDiff, Nat.reduceEqDiff, Nat.reduceBEq, Nat.reduceBNe, reduceCtorEq, nmC, nmV, rBE, rw, yrd, nmAt, wrC, recC, zr, rk, rX0, ofVal, ofVals, cellsV, vStore.isTup, eqL, eqV, Blk.deg, oneV, elApp, Nat.reduceAdd, Nat.reduceSub, Nat.reduceMul, Nat.reduceLT, Nat.reduceLeDiff, Nat.reduceEqDiff, Int.reduceToNat, Int.reduceGT, Int.reduceGE, Int.reduceMul, Int.reduceLT, Int.reduceLE, Int.reduceAdd, Int.reduceSub, Int.reduceNeg, reduceCtorEq, Sf.T3, Sf.T4, Sf.T24, Sf.T5, Sf.T22, Sf.T26, Sf.T83, Sf.T27, Sf.T89, Sf.T29, Sf.T31, nmC, nmV, rBE, rw, yrd, nmAt, wrC, recC, zr, rk]
        exact ⟨_, _, Le.off [some 0, none] (by rfl) (by rfl) (by simp only [rX2, bd, bdL, bdB, bdH, bdT, front, VLe, VLeL, BLe, Phan, TLe, HLe, ro, Blk.owned, CLe, rr, given, mrg, exct, shr, ren, renL, renB, Nat.reduceAdd, Nat.reduceSub, Nat.reduceLT, Nat.reduceLeDiff, Nat.reduceEqDiff, Nat.reduceBEq, Nat.reduceBNe, reduceCtorEq, nmC, nmV, rBE, rw, yrd, nmAt, wrC, recC, zr, rk]), 3, false, _, zr, 40, 0, hg, .inr ⟨fun hh => hM hh.2.2, rfl, rfl⟩, rfl, rfl⟩
theorem yread_1 (R : List Int) (cap : Nat) (hB : Bys (1 :: R)) (hl : (1 :: R : List Int).length ≤ 1000) :
    VCall Try.prog 16 [.slice 0 (R.length + 1) cap] [rw (1 :: R)] fun v h =>
      ∃ k' bad' r' r'' e co, GetK 1 R k' bad' r' ∧ (bad' = false ∧ R.length ≤ k' ∧ MayR r' ∧ r'' = r' ∧ e = 0 ∨ ¬ (bad' = false ∧ R.length ≤ k' ∧ MayR r') ∧ r'' = zr ∧ e = 40) ∧
        v = .tup [.agg (recC r'' (.slice 1 r''.n co)), .int .i64 e] ∧ h = [rw (1 :: R), .own 89 9 r''.n co fun j => wrC (r''.w j)] := by
  have b0 := ybyte_ok (1 :: R) cap 0 false hB hl
  have b1 := yname_ok (1 :: R) cap 1 false hB hl
  have b2 := ywrites_R 1 R cap hB hl
  have l0 : lack false (1 :: R) 0 = false := by unfold lack; simp
  have l1 : lack false (1 :: R) 1 = false := by unfold lack; simp
  have ea : bitsI .and .i64 1 127 = 1 := and127 1 (by omega)
  have ew : IntKind.i8.wrap 1 = 1 := by decide
  have hnm : nmAt (1 :: R) 1 = nmAt R 0 := rfl
  have hR := bys_tail hB
  rw [hnm] at b1
  unfold yrd rw at b0 b1 b2
  unfold rw
  simp only [Nat.zero_min, Int.natCast_zero, l0, l1, Nat.zero_add, List.getD_cons_zero, List.length_cons] at b0 b1 b2
  refine VC.out ?_
  refine wbody Try.func16 rfl (by kernel_rfl) ?_
  rw [Try.ntmps16, Try.results16]
  simp (implicitDefEqProofs := false) only [rX1, bd, bdL, bdB, bdH, bdT, front, VLe, VLeL, BLe, Phan, TLe, HLe, ro, Blk.owned, CLe, rr, given, mrg, exct, shr, ren, renL, renB, Nat.reduceBEq, Nat.reduceBNe, rX0, ofVal, ofVals, cellsV, vStore.isTup, eqL, eqV, Blk.deg, oneV, elApp, Nat.reduceAdd, Nat.reduceSub, Nat.reduceMul, Nat.reduceLT, Nat.reduceLeDiff, Nat.reduceEqDiff, Int.reduceToNat, Int.reduceGT, Int.reduceGE, Int.reduceMul, Int.reduceLT, Int.reduceLE, Int.reduceAdd, Int.reduceSub, Int.reduceNeg, reduceCtorEq, Sf.T3, Sf.T4, Sf.T24, Sf.T5, Sf.T22, Sf.T26, Sf.T83, Sf.T27, Sf.T89, Sf.T29, Sf.T31, nmC, nmV, rBE, rw, yrd, nmAt, wrC, recC, zr, rk]
  refine vframe (b0) [2, 0] (by rfl) (by simp only [rX2, bd, bdL, bdB, bdH, bdT, front, VLe, VLeL, BLe, Phan, TLe, HLe, ro, Blk.owned, CLe, rr, given, mrg, exct, shr, ren, renL, renB, Nat.reduceAdd, Nat.reduceSub, Nat.reduceLT, Nat.reduceLeDiff, Nat.reduceEqDiff, Nat.reduceBEq, Nat.reduceBNe, reduceCtorEq, nmC, nmV, rBE, rw, yrd, nmAt, wrC, recC, zr, rk]) ?_
  rintro v h ⟨rfl, rfl⟩ -
  simp (implicitDefEqProofs := false) only [ea, ew, rX2, bd, bdL, bdB, bdH, bdT, front, VLe, VLeL, BLe, Phan, TLe, HLe, ro, Blk.owned, CLe, rr, given, mrg, exct, shr, ren, renL, renB, Nat.reduceAdd, Nat.reduceSub, Nat.reduceLT, Nat.reduceLeDiff, Nat.reduceEqDiff, Nat.reduceBEq, Nat.reduceBNe, reduceCtorEq, nmC, nmV, rBE, rw, yrd, nmAt, wrC, recC, zr, rk, rX0, ofVal, ofVals, cellsV, vStore.isTup, eqL, eqV, Blk.deg, oneV, elApp, Nat.reduceAdd, Nat.reduceSub, Nat.reduceMul, Nat.reduceLT, Nat.reduceLeDiff, Nat.reduceEqDiff, Int.reduceToNat, Int.reduceGT, Int.reduceGE, Int.reduceMul, Int.reduceLT, Int.reduceLE, Int.reduceAdd, Int.reduceSub, Int.reduceNeg, reduceCtorEq, Sf.T3, Sf.T4, Sf.T24, Sf.T5, Sf.T22, Sf.T26, Sf.T83, Sf.T27, Sf.T89, Sf.T29, Sf.T31, nmC, nmV, rBE, rw, yrd, nmAt, wrC, recC, zr, rk]
  refine ⟨fun _ => ⟨by omega, by omega, by omega, fun h => absurd h (by rw [List.getD_cons_zero]; omega), fun _ => ?_⟩, fun h => absurd h (by omega)⟩
  refine ⟨fun h => absurd h (by omega), fun _ => ⟨fun h => absurd h (by omega), fun _ => ?_⟩⟩
  refine vframe (b1) [2, 0] (by rfl) (by simp only [rX2, bd, bdL, bdB, bdH, bdT, front, VLe, VLeL, BLe, Phan, TLe, HLe, ro, Blk.owned, CLe, rr, given, mrg, exct, shr, ren, renL, renB, Nat.reduceAdd, Nat.reduceSub, Nat.reduceLT, Nat.reduceLeDiff, Nat.reduceEqDiff, Nat.reduceBEq, Nat.reduceBNe, reduceCtorEq, nmC, nmV, rBE, rw, yrd, nmAt, wrC, recC, zr, rk]) ?_
  rintro v h ⟨rfl, rfl⟩ -
  simp (implicitDefEqProofs := false) only [rX2, bd, bdL, bdB, bdH, bdT, front, VLe, VLeL, BLe, Phan, TLe, HLe, ro, Blk.owned, CLe, rr, given, mrg, exct, shr, ren, renL, renB, Nat.reduceAdd, Nat.reduceSub, Nat.reduceLT, Nat.reduceLeDiff, Nat.reduceEqDiff, Nat.reduceBEq, Nat.reduceBNe, reduceCtorEq, nmC, nmV, rBE, rw, yrd, nmAt, wrC, recC, zr, rk, rX0, ofVal, ofVals, cellsV, vStore.isTup, eqL, eqV, Blk.deg, oneV, elApp, Nat.reduceAdd, Nat.reduceSub, Nat.reduceMul, Nat.reduceLT, Nat.reduceLeDiff, Nat.reduceEqDiff, Int.reduceToNat, Int.reduceGT, Int.reduceGE, Int.reduceMul, Int.reduceLT, Int.reduceLE, Int.reduceAdd, Int.reduceSub, Int.reduceNeg, reduceCtorEq, Sf.T3, Sf.T4, Sf.T24, Sf.T5, Sf.T22, Sf.T26, Sf.T83, Sf.T27, Sf.T89, Sf.T29, Sf.T31, nmC, nmV, rBE, rw, yrd, nmAt, wrC, recC, zr, rk]
  refine vframe (b2) [2, 0] (by rfl) (by simp only [rX2, bd, bdL, bdB, bdH, bdT, front, VLe, VLeL, BLe, Phan, TLe, HLe, ro, Blk.owned, CLe, rr, given, mrg, exct, shr, ren, renL, renB, Nat.reduceAdd, Nat.reduceSub, Nat.reduceLT, Nat.reduceLeDiff, Nat.reduceEqDiff, Nat.reduceBEq, Nat.reduceBNe, reduceCtorEq, nmC, nmV, rBE, rw, yrd, nmAt, wrC, recC, zr, rk]) ?_
  rintro v h ⟨m, co, hm, rfl, rfl⟩ -
  simp (implicitDefEqProofs := false) only [rX2, bd, bdL, bdB, bdH, bdT, front, VLe, VLeL, BLe, Phan, TLe, HLe, ro, Blk.owned, CLe, rr, given, mrg, exct, shr, ren, renL, renB, Nat.reduceAdd, Nat.reduceSub, Nat.reduceLT, Nat.reduceLeDiff, Nat.reduceEqDiff, Nat.reduceBEq, Nat.reduceBNe, reduceCtorEq, nmC, nmV, rBE, rw, yrd, nmAt, wrC, recC, zr, rk, rX0, ofVal, ofVals, cellsV, vStore.isTup, eqL, eqV, Blk.deg, oneV, elApp, Nat.reduceAdd, Nat.reduceSub, Nat.reduceMul, Nat.reduceLT, Nat.reduceLeDiff, Nat.reduceEqDiff, Int.reduceToNat, Int.reduceGT, Int.reduceGE, Int.reduceMul, Int.reduceLT, Int.reduceLE, Int.reduceAdd, Int.reduceSub, Int.reduceNeg, reduceCtorEq, Sf.T3, Sf.T4, Sf.T24, Sf.T5, Sf.T22, Sf.T26, Sf.T83, Sf.T27, Sf.T89, Sf.T29, Sf.T31, nmC, nmV, rBE, rw, yrd, nmAt, wrC, recC, zr, rk]
  have hm5 := reads_ok hR hm
  have hg : GetK 1 R (10 + 9 * m) (lack false R (10 + 9 * m)) { rk 1 (nmAt R 0) with n := m, w := fun j => wrAt R (10 + 9 * j) } := by
    rw [getK_1 rfl]; exact ⟨m, hm, rfl, rfl, rfl⟩
  have hr := rmay_ok { rk 1 (nmAt R 0) with n := m, w := fun j => wrAt R (10 + 9 * j) } co (by show m ≤ 1000; omega)
  have hl10 : lack false (1 :: R) (11 + 9 * m) = lack false R (10 + 9 * m) := by unfold lack; simp only [List.length_cons]; congr 1; exact decide_eq_decide.2 (by omega)
  rw [hl10]
  generalize hbq : lack false R (10 + 9 * m) = bq at hg ⊢
  cases bq with
  | true =>
    simp (implicitDefEqProofs := false) only [rX2, bd, bdL, bdB, bdH, bdT, front, VLe, VLeL, BLe, Phan, TLe, HLe, ro, Blk.owned, CLe, rr, given, mrg, exct, shr, ren, renL, renB, Nat.reduceAdd, Nat.reduceSub, Nat.reduceLT, Nat.reduceLeDiff, Nat.reduceEqDiff, Nat.reduceBEq, Nat.reduceBNe, reduceCtorEq, nmC, nmV, rBE, rw, yrd, nmAt, wrC, recC, zr, rk, rX0, ofVal, ofVals, cellsV, vStore.isTup, eqL, eqV, Blk.deg, oneV, elApp, Nat.reduceAdd, Nat.reduceSub, Nat.reduceMul, Nat.reduceLT, Nat.reduceLeDiff, Nat.reduceEqDiff, Int.reduceToNat, Int.reduceGT, Int.reduceGE, Int.reduceMul, Int.reduceLT, Int.reduceLE, Int.reduceAdd, Int.reduceSub, Int.reduceNeg, reduceCtorEq, Sf.T3, Sf.T4, Sf.T24, Sf.T5, Sf.T22, Sf.T26, Sf.T83, Sf.T27, Sf.T89, Sf.T29, Sf.T31, nmC, nmV, rBE, rw, yrd, nmAt, wrC, recC, zr, rk]
    exact ⟨_, _, Le.off [some 0, none] (by rfl) (by rfl) (by simp only [rX2, bd, bdL, bdB, bdH, bdT, front, VLe, VLeL, BLe, Phan, TLe, HLe, ro, Blk.owned, CLe, rr, given, mrg, exct, shr, ren, renL, renB, Nat.reduceAdd, Nat.reduceSub, Nat.reduceLT, Nat.reduceLeDiff, Nat.reduceEqDiff, Nat.reduceBEq, Nat.reduceBNe, reduceCtorEq, nmC, nmV, rBE, rw, yrd, nmAt, wrC, recC, zr, rk]), _, true, _, zr, 40, 0, hg, .inr ⟨fun hh => (by cases hh.1), rfl, rfl⟩, rfl, rfl⟩
  | false =>
    simp (implicitDefEqProofs := false) only [rX2, bd, bdL, bdB, bdH, bdT, front, VLe, VLeL, BLe, Phan, TLe, HLe, ro, Blk.owned, CLe, rr, given, mrg, exct, shr, ren, renL, renB, Nat.reduceAdd, Nat.reduceSub, Nat.reduceLT, Nat.reduceLeDiff, Nat.reduceEqDiff, Nat.reduceBEq, Nat.reduceBNe, reduceCtorEq, nmC, nmV, rBE, rw, yrd, nmAt, wrC, recC, zr, rk, rX0, ofVal, ofVals, cellsV, vStore.isTup, eqL, eqV, Blk.deg, oneV, elApp, Nat.reduceAdd, Nat.reduceSub, Nat.reduceMul, Nat.reduceLT, Nat.reduceLeDiff, Nat.reduceEqDiff, Int.reduceToNat, Int.reduceGT, Int.reduceGE, Int.reduceMul, Int.reduceLT, Int.reduceLE, Int.reduceAdd, Int.reduceSub, Int.reduceNeg, reduceCtorEq, Sf.T3, Sf.T4, Sf.T24, Sf.T5, Sf.T22, Sf.T26, Sf.T83, Sf.T27, Sf.T89, Sf.T29, Sf.T31, nmC, nmV, rBE, rw, yrd, nmAt, wrC, recC, zr, rk]
    refine ⟨fun h => ?_, fun h => ?_⟩
    · exact ⟨_, _, Le.off [some 0, none] (by rfl) (by rfl) (by simp only [rX2, bd, bdL, bdB, bdH, bdT, front, VLe, VLeL, BLe, Phan, TLe, HLe, ro, Blk.owned, CLe, rr, given, mrg, exct, shr, ren, renL, renB, Nat.reduceAdd, Nat.reduceSub, Nat.reduceLT, Nat.reduceLeDiff, Nat.reduceEqDiff, Nat.reduceBEq, Nat.reduceBNe, reduceCtorEq, nmC, nmV, rBE, rw, yrd, nmAt, wrC, recC, zr, rk]), _, false, _, zr, 40, 0, hg, .inr ⟨fun hh => (by have := hh.2.1; omega), rfl, rfl⟩, rfl, rfl⟩
    · have hle : R.length ≤ 10 + 9 * m := by
        by_cases c : R.length + 1 ≤ 11 + 9 * m
        · omega
        · rw [Nat.min_eq_left (by omega)] at h; omega
      by_cases hM : MayR { rk 1 (nmAt R 0) with n := m, w := fun j => wrAt R (10 + 9 * j) }
      · rw [decide_eq_true hM] at hr
        unfold recC at hr
        refine vframe (hr) [4] (by rfl) (by simp only [rX2, bd, bdL, bdB, bdH, bdT, front, VLe, VLeL, BLe, Phan, TLe, HLe, ro, Blk.owned, CLe, rr, given, mrg, exct, shr, ren, renL, renB, Nat.reduceAdd, Nat.reduceSub, Nat.reduceLT, Nat.reduceLeDiff, Nat.reduceEqDiff, Nat.reduceBEq, Nat.reduceBNe, reduceCtorEq, nmC, nmV, rBE, rw, yrd, nmAt, wrC, recC, zr, rk]) ?_
        rintro v h ⟨rfl, rfl⟩ -
        simp (implicitDefEqProofs := false) only [rX2, bd, bdL, bdB, bdH, bdT, front, VLe, VLeL, BLe, Phan, TLe, HLe, ro, Blk.owned, CLe, rr, given, mrg, exct, shr, ren, renL, renB, Nat.reduceAdd, Nat.reduceSub, Nat.reduceLT, Nat.reduceLeDiff, Nat.reduceEqDiff, Nat.reduceBEq, Nat.reduceBNe, reduceCtorEq, nmC, nmV, rBE, rw, yrd, nmAt, wrC, recC, zr, rk, rX0, ofVal, ofVals, cellsV, vStore.isTup, eqL, eqV, Blk.deg, oneV, elApp, Nat.reduceAdd, Nat.reduceSub, Nat.reduceMul, Nat.reduceLT, Nat.reduceLeDiff, Nat.reduceEqDiff, Int.reduceToNat, Int.reduceGT, Int.reduceGE, Int.reduceMul, Int.reduceLT, Int.reduceLE, Int.reduceAdd, Int.reduceSub, Int.reduceNeg, reduceCtorEq, Sf.T3, Sf.T4, Sf.T24, Sf.T5, Sf.T22, Sf.T26, Sf.T83, Sf.T27, Sf.T89, Sf.T29, Sf.T31, nmC, nmV, rBE, rw, yrd, nmAt, wrC, recC, zr, rk]
        exact ⟨_, _, Le.off [some 0, some 4] (by rfl) (by rfl) (by simp only [rX2, bd, bdL, bdB, bdH, bdT, front, VLe, VLeL, BLe, Phan, TLe, HLe, ro, Blk.owned, CLe, rr, given, mrg, exct, shr, ren, renL, renB, Nat.reduceAdd, Nat.reduceSub, Nat.reduceLT, Nat.reduceLeDiff, Nat.reduceEqDiff, Nat.reduceBEq, Nat.reduceBNe, reduceCtorEq, nmC, nmV, rBE, rw, yrd, nmAt, wrC, recC, zr, rk]), _, false, _, _, 0, co, hg, .inl ⟨rfl, hle, hM, rfl, rfl⟩, rfl, rfl⟩
      · rw [decide_eq_false hM] at hr
        unfold recC at hr
        refine vframe (hr) [4] (by rfl) (by simp only [rX2, bd, bdL, bdB, bdH, bdT, front, VLe, VLeL, BLe, Phan, TLe, HLe, ro, Blk.owned, CLe, rr, given, mrg, exct, shr, ren, renL, renB, Nat.reduceAdd, Nat.reduceSub, Nat.reduceLT, Nat.reduceLeDiff, Nat.reduceEqDiff, Nat.reduceBEq, Nat.reduceBNe, reduceCtorEq, nmC, nmV, rBE, rw, yrd, nmAt, wrC, recC, zr, rk]) ?_
        rintro v h ⟨rfl, rfl⟩ -
        simp (implicitDefEqProofs := false) only [rX2, bd, bdL, bdB, bdH, bdT, front, VLe, VLeL, BLe, Phan, TLe, HLe, ro, Blk.owned, CLe, rr, given, mrg, exct, shr, ren, renL, renB, Nat.reduceAdd, Nat.reduceSub, Nat.reduceLT, Nat.reduceLeDiff, Nat.reduceEqDiff, Nat.reduceBEq, Nat.reduceBNe, reduceCtorEq, nmC, nmV, rBE, rw, yrd, nmAt, wrC, recC, zr, rk, rX0, ofVal, ofVals, cellsV, vStore.isTup, eqL, eqV, Blk.deg, oneV, elApp, Nat.reduceAdd, Nat.reduceSub, Nat.reduceMul, Nat.reduceLT, Nat.reduceLeDiff, Nat.reduceEqDiff, Int.reduceToNat, Int.reduceGT, Int.reduceGE, Int.reduceMul, Int.reduceLT, Int.reduceLE, Int.reduceAdd, Int.reduceSub, Int.reduceNeg, reduceCtorEq, Sf.T3, Sf.T4, Sf.T24, Sf.T5, Sf.T22, Sf.T26, Sf.T83, Sf.T27, Sf.T89, Sf.T29, Sf.T31, nmC, nmV, rBE, rw, yrd, nmAt, wrC, recC, zr, rk]
        exact ⟨_, _, Le.off [some 0, none] (by rfl) (by rfl) (by simp only [rX2, bd, bdL, bdB, bdH, bdT, front, VLe, VLeL, BLe, Phan, TLe, HLe, ro, Blk.owned, CLe, rr, given, mrg, exct, shr, ren, renL, renB, Nat.reduceAdd, Nat.reduceSub, Nat.reduceLT, Nat.reduceLeDiff, Nat.reduceEqDiff, Nat.reduceBEq, Nat.reduceBNe, reduceCtorEq, nmC, nmV, rBE, rw, yrd, nmAt, wrC, recC, zr, rk]), _, false, _, zr, 40, 0, hg, .inr ⟨fun hh => hM hh.2.2, rfl, rfl⟩, rfl, rfl⟩
theorem yread_2 (R : List Int) (cap : Nat) (hB : Bys (2 :: R)) (hl : (2 :: R : List Int).length ≤ 1000) :
    VCall Try.prog 16 [.slice 0 (R.length + 1) cap] [rw (2 :: R)] fun v h =>
      ∃ k' bad' r' r'' e co, GetK 2 R k' bad' r' ∧ (bad' = false ∧ R.length ≤ k' ∧ MayR r' ∧ r'' = r' ∧ e = 0 ∨ ¬ (bad' = false ∧ R.length ≤ k' ∧ MayR r') ∧ r'' = zr ∧ e = 40) ∧
        v = .tup [.agg (recC r'' (.slice 1 r''.n co)), .int .i64 e] ∧ h = [rw (2 :: R), .own 89 9 r''.n co fun j => wrC (r''.w j)] := by
  have b0 := ybyte_ok (2 :: R) cap 0 false hB hl
  have b1 := yname_ok (2 :: R) cap 1 false hB hl
  have b2 := ywrites_R 2 R cap hB hl
  have l0 : lack false (2 :: R) 0 = false := by unfold lack; simp
  have l1 : lack false (2 :: R) 1 = false := by unfold lack; simp
  have ea : bitsI .and .i64 2 127 = 2 := and127 2 (by omega)
  have ew : IntKind.i8.wrap 2 = 2 := by decide
  have hnm : nmAt (2 :: R) 1 = nmAt R 0 := rfl
  have hR := bys_tail hB
  rw [hnm] at b1
  unfold yrd rw at b0 b1 b2
  unfold rw
  simp only [Nat.zero_min, Int.natCast_zero, l0, l1, Nat.zero_add, List.getD_cons_zero, List.length_cons] at b0 b1 b2
  refine VC.out ?_
  refine wbody Try.func16 rfl (by kernel_rfl) ?_
  rw [Try.ntmps16, Try.results16]
  simp (implicitDefEqProofs := false) only [rX1, bd, bdL, bdB, bdH, bdT, front, VLe, VLeL, BLe, Phan, TLe, HLe, ro, Blk.owned, CLe, rr, given, mrg, exct, shr, ren, renL, renB, Nat.reduceBEq, Nat.reduceBNe, rX0, ofVal, ofVals, cellsV, vStore.isTup, eqL, eqV, Blk.deg, oneV, elApp, Nat.reduceAdd, Nat.reduceSub, Nat.reduceMul, Nat.reduceLT, Nat.reduceLeDiff, Nat.reduceEqDiff, Int.reduceToNat, Int.reduceGT, Int.reduceGE, Int.reduceMul, Int.reduceLT, Int.reduceLE, Int.reduceAdd, Int.reduceSub, Int.reduceNeg, reduceCtorEq, Sf.T3, Sf.T4, Sf.T24, Sf.T5, Sf.T22, Sf.T26, Sf.T83, Sf.T27, Sf.T89, Sf.T29, Sf.T31, nmC, nmV, rBE, rw, yrd, nmAt, wrC, recC, zr, rk]
  refine vframe (b0) [2, 0] (by rfl) (by simp only [rX2, bd, bdL, bdB, bdH, bdT, front, VLe, VLeL, BLe, Phan, TLe, HLe, ro, Blk.owned, CLe, rr, given, mrg, exct, shr, ren, renL, renB, Nat.reduceAdd, Nat.reduceSub, Nat.reduceLT, Nat.reduceLeDiff, Nat.reduceEqDiff, Nat.reduceBEq, Nat.reduceBNe, reduceCtorEq, nmC, nmV, rBE, rw, yrd, nmAt, wrC, recC, zr, rk]) ?_
  rintro v h ⟨rfl, rfl⟩ -
  simp (implicitDefEqProofs := false) only [ea, ew, rX2, bd, bdL, bdB, bdH, bdT, front, VLe, VLeL, BLe, Phan, TLe, HLe, ro, Blk.owned, CLe, rr, given, mrg, exct, shr, ren, renL, renB, Nat.reduceAdd, Nat.reduceSub, Nat.reduceLT, Nat.reduceLeDiff, Nat.reduceEqDiff, Nat.reduceBEq, Nat.reduceBNe, reduceCtorEq, nmC, nmV, rBE, rw, yrd, nmAt, wrC, recC, zr, rk, rX0, ofVal, ofVals, cellsV, vStore.isTup, eqL, eqV, Blk.deg, oneV, elApp, Nat.reduceAdd, Nat.reduceSub, Nat.reduceMul, Nat.reduceLT, Nat.reduceLeDiff, Nat.reduceEqDiff, Int.reduceToNat, Int.reduceGT, Int.reduceGE, Int.reduceMul, Int.reduceLT, Int.reduceLE, Int.reduceAdd, Int.reduceSub, Int.reduceNeg, reduceCtorEq, Sf.T3, Sf.T4, Sf.T24, Sf.T5, Sf.T22, Sf.T26, Sf.T83, Sf.T27, Sf.T89, Sf.T29, Sf.T31, nmC, nmV, rBE, rw, yrd, nmAt, wrC, recC, zr, rk]
  refine ⟨fun _ => ⟨by omega, by omega, by omega, fun h => absurd h (by rw [List.getD_cons_zero]; omega), fun _ => ?_⟩, fun h => absurd h (by omega)⟩
  refine ⟨fun h => absurd h (by omega), fun _ => ⟨fun h => absurd h (by omega), fun _ => ?_⟩⟩
  refine vframe (b1) [2, 0] (by rfl) (by simp only [rX2, bd, bdL, bdB, bdH, bdT, front, VLe, VLeL, BLe, Phan, TLe, HLe, ro, Blk.owned, CLe, rr, given, mrg, exct, shr, ren, renL, renB, Nat.reduceAdd, Nat.reduceSub, Nat.reduceLT, Nat.reduceLeDiff, Nat.reduceEqDiff, Nat.reduceBEq, Nat.reduceBNe, reduceCtorEq, nmC, nmV, rBE, rw, yrd, nmAt, wrC, recC, zr, rk]) ?_
  rintro v h ⟨rfl, rfl⟩ -
  simp (implicitDefEqProofs := false) only [rX2, bd, bdL, bdB, bdH, bdT, front, VLe, VLeL, BLe, Phan, TLe, HLe, ro, Blk.owned, CLe, rr, given, mrg, exct, shr, ren, renL, renB, Nat.reduceAdd, Nat.reduceSub, Nat.reduceLT, Nat.reduceLeDiff, Nat.reduceEqDiff, Nat.reduceBEq, Nat.reduceBNe, reduceCtorEq, nmC, nmV, rBE, rw, yrd, nmAt, wrC, recC, zr, rk, rX0, ofVal, ofVals, cellsV, vStore.isTup, eqL, eqV, Blk.deg, oneV, elApp, Nat.reduceAdd, Nat.reduceSub, Nat.reduceMul, Nat.reduceLT, Nat.reduceLeDiff, Nat.reduceEqDiff, Int.reduceToNat, Int.reduceGT, Int.reduceGE, Int.reduceMul, Int.reduceLT, Int.reduceLE, Int.reduceAdd, Int.reduceSub, Int.reduceNeg, reduceCtorEq, Sf.T3, Sf.T4, Sf.T24, Sf.T5, Sf.T22, Sf.T26, Sf.T83, Sf.T27, Sf.T89, Sf.T29, Sf.T31, nmC, nmV, rBE, rw, yrd, nmAt, wrC, recC, zr, rk]
  refine ⟨fun h => absurd h (by omega), fun _ => ?_⟩
  refine vframe (b2) [2, 0] (by rfl) (by simp only [rX2, bd, bdL, bdB, bdH, bdT, front, VLe, VLeL, BLe, Phan, TLe, HLe, ro, Blk.owned, CLe, rr, given, mrg, exct, shr, ren, renL, renB, Nat.reduceAdd, Nat.reduceSub, Nat.reduceLT, Nat.reduceLeDiff, Nat.reduceEqDiff, Nat.reduceBEq, Nat.reduceBNe, reduceCtorEq, nmC, nmV, rBE, rw, yrd, nmAt, wrC, recC, zr, rk]) ?_
  rintro v h ⟨m, co, hm, rfl, rfl⟩ -
  simp (implicitDefEqProofs := false) only [rX2, bd, bdL, bdB, bdH, bdT, front, VLe, VLeL, BLe, Phan, TLe, HLe, ro, Blk.owned, CLe, rr, given, mrg, exct, shr, ren, renL, renB, Nat.reduceAdd, Nat.reduceSub, Nat.reduceLT, Nat.reduceLeDiff, Nat.reduceEqDiff, Nat.reduceBEq, Nat.reduceBNe, reduceCtorEq, nmC, nmV, rBE, rw, yrd, nmAt, wrC, recC, zr, rk, rX0, ofVal, ofVals, cellsV, vStore.isTup, eqL, eqV, Blk.deg, oneV, elApp, Nat.reduceAdd, Nat.reduceSub, Nat.reduceMul, Nat.reduceLT, Nat.reduceLeDiff, Nat.reduceEqDiff, Int.reduceToNat, Int.reduceGT, Int.reduceGE, Int.reduceMul, Int.reduceLT, Int.reduceLE, Int.reduceAdd, Int.reduceSub, Int.reduceNeg, reduceCtorEq, Sf.T3, Sf.T4, Sf.T24, Sf.T5, Sf.T22, Sf.T26, Sf.T83, Sf.T27, Sf.T89, Sf.T29, Sf.T31, nmC, nmV, rBE, rw, yrd, nmAt, wrC, recC, zr, rk]
  have hm5 := reads_ok hR hm
  have b3 := ybyte_ok (2 :: R) cap (11 + 9 * m) false hB hl
  have b4 := ybyte_ok (2 :: R) cap (11 + 9 * m + 1) false hB hl
  rw [show (2 :: R : List Int).getD (11 + 9 * m) 0 = R.getD (10 + 9 * m) 0 by rw [show 11 + 9 * m = 10 + 9 * m + 1 by omega, List.getD_cons_succ]] at b3
  rw [show (2 :: R : List Int).getD (11 + 9 * m + 1) 0 = R.getD (11 + 9 * m) 0 by rw [List.getD_cons_succ]] at b4
  unfold yrd rw at b3 b4
  simp only [List.length_cons] at b3 b4
  refine vframe (b3) [2, 0] (by rfl) (by simp only [rX2, bd, bdL, bdB, bdH, bdT, front, VLe, VLeL, BLe, Phan, TLe, HLe, ro, Blk.owned, CLe, rr, given, mrg, exct, shr, ren, renL, renB, Nat.reduceAdd, Nat.reduceSub, Nat.reduceLT, Nat.reduceLeDiff, Nat.reduceEqDiff, Nat.reduceBEq, Nat.reduceBNe, reduceCtorEq, nmC, nmV, rBE, rw, yrd, nmAt, wrC, recC, zr, rk]) ?_
  rintro v h ⟨rfl, rfl⟩ -
  simp (implicitDefEqProofs := false) only [rX2, bd, bdL, bdB, bdH, bdT, front, VLe, VLeL, BLe, Phan, TLe, HLe, ro, Blk.owned, CLe, rr, given, mrg, exct, shr, ren, renL, renB, Nat.reduceAdd, Nat.reduceSub, Nat.reduceLT, Nat.reduceLeDiff, Nat.reduceEqDiff, Nat.reduceBEq, Nat.reduceBNe, reduceCtorEq, nmC, nmV, rBE, rw, yrd, nmAt, wrC, recC, zr, rk, rX0, ofVal, ofVals, cellsV, vStore.isTup, eqL, eqV, Blk.deg, oneV, elApp, Nat.reduceAdd, Nat.reduceSub, Nat.reduceMul, Nat.reduceLT, Nat.reduceLeDiff, Nat.reduceEqDiff, Int.reduceToNat, Int.reduceGT, Int.reduceGE, Int.reduceMul, Int.reduceLT, Int.reduceLE, Int.reduceAdd, Int.reduceSub, Int.reduceNeg, reduceCtorEq, Sf.T3, Sf.T4, Sf.T24, Sf.T5, Sf.T22, Sf.T26, Sf.T83, Sf.T27, Sf.T89, Sf.T29, Sf.T31, nmC, nmV, rBE, rw, yrd, nmAt, wrC, recC, zr, rk]
  refine vframe (b4) [2, 0] (by rfl) (by simp only [rX2, bd, bdL, bdB, bdH, bdT, front, VLe, VLeL, BLe, Phan, TLe, HLe, ro, Blk.owned, CLe, rr, given, mrg, exct, shr, ren, renL, renB, Nat.reduceAdd, Nat.reduceSub, Nat.reduceLT, Nat.reduceLeDiff, Nat.reduceEqDiff, Nat.reduceBEq, Nat.reduceBNe, reduceCtorEq, nmC, nmV, rBE, rw, yrd, nmAt, wrC, recC, zr, rk]) ?_
  rintro v h ⟨rfl, rfl⟩ -
  simp (implicitDefEqProofs := false) only [rX2, bd, bdL, bdB, bdH, bdT, front, VLe, VLeL, BLe, Phan, TLe, HLe, ro, Blk.owned, CLe, rr, given, mrg, exct, shr, ren, renL, renB, Nat.reduceAdd, Nat.reduceSub, Nat.reduceLT, Nat.reduceLeDiff, Nat.reduceEqDiff, Nat.reduceBEq, Nat.reduceBNe, reduceCtorEq, nmC, nmV, rBE, rw, yrd, nmAt, wrC, recC, zr, rk, rX0, ofVal, ofVals, cellsV, vStore.isTup, eqL, eqV, Blk.deg, oneV, elApp, Nat.reduceAdd, Nat.reduceSub, Nat.reduceMul, Nat.reduceLT, Nat.reduceLeDiff, Nat.reduceEqDiff, Int.reduceToNat, Int.reduceGT, Int.reduceGE, Int.reduceMul, Int.reduceLT, Int.reduceLE, Int.reduceAdd, Int.reduceSub, Int.reduceNeg, reduceCtorEq, Sf.T3, Sf.T4, Sf.T24, Sf.T5, Sf.T22, Sf.T26, Sf.T83, Sf.T27, Sf.T89, Sf.T29, Sf.T31, nmC, nmV, rBE, rw, yrd, nmAt, wrC, recC, zr, rk]
  have hg : GetK 2 R (10 + 9 * m + 2) (lack false R (10 + 9 * m + 2)) { rk 2 (nmAt R 0) with n := m, w := fun j => wrAt R (10 + 9 * j), give := R.getD (10 + 9 * m) 0, take := R.getD (11 + 9 * m) 0 } := by
    rw [getK_2 rfl, show 11 + 9 * m = 10 + 9 * m + 1 by omega]; exact ⟨m, hm, rfl, rfl, rfl⟩
  have hr := rmay_ok { rk 2 (nmAt R 0) with n := m, w := fun j => wrAt R (10 + 9 * j), give := R.getD (10 + 9 * m) 0, take := R.getD (11 + 9 * m) 0 } co (by show m ≤ 1000; omega)
  have hl10 : lack false (2 :: R) (11 + 9 * m + 1 + 1) = lack false R (10 + 9 * m + 2) := by unfold lack; simp only [List.length_cons]; congr 1; exact decide_eq_decide.2 (by omega)
  rw [hl10]
  generalize hbq : lack false R (10 + 9 * m + 2) = bq at hg ⊢
  cases bq with
  | true =>
    simp (implicitDefEqProofs := false) only [rX2, bd, bdL, bdB, bdH, bdT, front, VLe, VLeL, BLe, Phan, TLe, HLe, ro, Blk.owned, CLe, rr, given, mrg, exct, shr, ren, renL, renB, Nat.reduceAdd, Nat.reduceSub, Nat.reduceLT, Nat.reduceLeDiff, Nat.reduceEqDiff, Nat.reduceBEq, Nat.reduceBNe, reduceCtorEq, nmC, nmV, rBE, rw, yrd, nmAt, wrC, recC, zr, rk, rX0, ofVal, ofVals, cellsV, vStore.isTup, eqL, eqV, Blk.deg, oneV, elApp, Nat.reduceAdd, Nat.reduceSub, Nat.reduceMul, Nat.reduceLT, Nat.reduceLeDiff, Nat.reduceEqDiff, Int.reduceToNat, Int.reduceGT, Int.reduceGE, Int.reduceMul, Int.reduceLT, Int.reduceLE, Int.reduceAdd, Int.reduceSub, Int.reduceNeg, reduceCtorEq, Sf.T3, Sf.T4, Sf.T24, Sf.T5, Sf.T22, Sf.T26, Sf.T83, Sf.T27, Sf.T89, Sf.T29, Sf.T31, nmC, nmV, rBE, rw, yrd, nmAt, wrC, recC, zr, rk]
    exact ⟨_, _, Le.off [some 0, none] (by rfl) (by rfl) (by simp only [rX2, bd, bdL, bdB, bdH, bdT, front, VLe, VLeL, BLe, Phan, TLe, HLe, ro, Blk.owned, CLe, rr, given, mrg, exct, shr, ren, renL, renB, Nat.reduceAdd, Nat.reduceSub, Nat.reduceLT, Nat.reduceLeDiff, Nat.reduceEqDiff, Nat.reduceBEq, Nat.reduceBNe, reduceCtorEq, nmC, nmV, rBE, rw, yrd, nmAt, wrC, recC, zr, rk]), _, true, _, zr, 40, 0, hg, .inr ⟨fun hh => (by cases hh.1), rfl, rfl⟩, rfl, rfl⟩
  | false =>
    simp (implicitDefEqProofs := false) only [rX2, bd, bdL, bdB, bdH, bdT, front, VLe, VLeL, BLe, Phan, TLe, HLe, ro, Blk.owned, CLe, rr, given, mrg, exct, shr, ren, renL, renB, Nat.reduceAdd, Nat.reduceSub, Nat.reduceLT, Nat.reduceLeDiff, Nat.reduceEqDiff, Nat.reduceBEq, Nat.reduceBNe, reduceCtorEq, nmC, nmV, rBE, rw, yrd, nmAt, wrC, recC, zr, rk, rX0, ofVal, ofVals, cellsV, vStore.isTup, eqL, eqV, Blk.deg, oneV, elApp, Nat.reduceAdd, Nat.reduceSub, Nat.reduceMul, Nat.reduceLT, Nat.reduceLeDiff, Nat.reduceEqDiff, Int.reduceToNat, Int.reduceGT, Int.reduceGE, Int.reduceMul, Int.reduceLT, Int.reduceLE, Int.reduceAdd, Int.reduceSub, Int.reduceNeg, reduceCtorEq, Sf.T3, Sf.T4, Sf.T24, Sf.T5, Sf.T22, Sf.T26, Sf.T83, Sf.T27, Sf.T89, Sf.T29, Sf.T31, nmC, nmV, rBE, rw, yrd, nmAt, wrC, recC, zr, rk]
    refine ⟨fun h => ?_, fun h => ?_⟩
    · exact ⟨_, _, Le.off [some 0, none] (by rfl) (by rfl) (by simp only [rX2, bd, bdL, bdB, bdH, bdT, front, VLe, VLeL, BLe, Phan, TLe, HLe, ro, Blk.owned, CLe, rr, given, mrg, exct, shr, ren, renL, renB, Nat.reduceAdd, Nat.reduceSub, Nat.reduceLT, Nat.reduceLeDiff, Nat.reduceEqDiff, Nat.reduceBEq, Nat.reduceBNe, reduceCtorEq, nmC, nmV, rBE, rw, yrd, nmAt, wrC, recC, zr, rk]), _, false, _, zr, 40, 0, hg, .inr ⟨fun hh => (by have := hh.2.1; omega), rfl, rfl⟩, rfl, rfl⟩
    · have hle : R.length ≤ 10 + 9 * m + 2 := by
        by_cases c : R.length + 1 ≤ 11 + 9 * m + 1 + 1
        · omega
        · rw [Nat.min_eq_left (by omega)] at h; omega
      by_cases hM : MayR { rk 2 (nmAt R 0) with n := m, w := fun j => wrAt R (10 + 9 * j), give := R.getD (10 + 9 * m) 0, take := R.getD (11 + 9 * m) 0 }
      · rw [decide_eq_true hM] at hr
        unfold recC at hr
        refine vframe (hr) [4] (by rfl) (by simp only [rX2, bd, bdL, bdB, bdH, bdT, front, VLe, VLeL, BLe, Phan, TLe, HLe, ro, Blk.owned, CLe, rr, given, mrg, exct, shr, ren, renL, renB, Nat.reduceAdd, Nat.reduceSub, Nat.reduceLT, Nat.reduceLeDiff, Nat.reduceEqDiff, Nat.reduceBEq, Nat.reduceBNe, reduceCtorEq, nmC, nmV, rBE, rw, yrd, nmAt, wrC, recC, zr, rk]) ?_
        rintro v h ⟨rfl, rfl⟩ -
        simp (implicitDefEqProofs := false) only [rX2, bd, bdL, bdB, bdH, bdT, front, VLe, VLeL, BLe, Phan, TLe, HLe, ro, Blk.owned, CLe, rr, given, mrg, exct, shr, ren, renL, renB, Nat.reduceAdd, Nat.reduceSub, Nat.reduceLT, Nat.reduceLeDiff, Nat.reduceEqDiff, Nat.reduceBEq, Nat.reduceBNe, reduceCtorEq, nmC, nmV, rBE, rw, yrd, nmAt, wrC, recC, zr, rk, rX0, ofVal, ofVals, cellsV, vStore.isTup, eqL, eqV, Blk.deg, oneV, elApp, Nat.reduceAdd, Nat.reduceSub, Nat.reduceMul, Nat.reduceLT, Nat.reduceLeDiff, Nat.reduceEqDiff, Int.reduceToNat, Int.reduceGT, Int.reduceGE, Int.reduceMul, Int.reduceLT, Int.reduceLE, Int.reduceAdd, Int.reduceSub, Int.reduceNeg, reduceCtorEq, Sf.T3, Sf.T4, Sf.T24, Sf.T5, Sf.T22, Sf.T26, Sf.T83, Sf.T27, Sf.T89, Sf.T29, Sf.T31, nmC, nmV, rBE, rw, yrd, nmAt, wrC, recC, zr, rk]
        exact ⟨_, _, Le.off [some 0, some 4] (by rfl) (by rfl) (by simp only [rX2, bd, bdL, bdB, bdH, bdT, front, VLe, VLeL, BLe, Phan, TLe, HLe, ro, Blk.owned, CLe, rr, given, mrg, exct, shr, ren, renL, renB, Nat.reduceAdd, Nat.reduceSub, Nat.reduceLT, Nat.reduceLeDiff, Nat.reduceEqDiff, Nat.reduceBEq, Nat.reduceBNe, reduceCtorEq, nmC, nmV, rBE, rw, yrd, nmAt, wrC, recC, zr, rk]), _, false, _, _, 0, co, hg, .inl ⟨rfl, hle, hM, rfl, rfl⟩, rfl, rfl⟩
      · rw [decide_eq_false hM] at hr
        unfold recC at hr
        refine vframe (hr) [4] (by rfl) (by simp only [rX2, bd, bdL, bdB, bdH, bdT, front, VLe, VLeL, BLe, Phan, TLe, HLe, ro, Blk.owned, CLe, rr, given, mrg, exct, shr, ren, renL, renB, Nat.reduceAdd, Nat.reduceSub, Nat.reduceLT, Nat.reduceLeDiff, Nat.reduceEqDiff, Nat.reduceBEq, Nat.reduceBNe, reduceCtorEq, nmC, nmV, rBE, rw, yrd, nmAt, wrC, recC, zr, rk]) ?_
        rintro v h ⟨rfl, rfl⟩ -
        simp (implicitDefEqProofs := false) only [rX2, bd, bdL, bdB, bdH, bdT, front, VLe, VLeL, BLe, Phan, TLe, HLe, ro, Blk.owned, CLe, rr, given, mrg, exct, shr, ren, renL, renB, Nat.reduceAdd, Nat.reduceSub, Nat.reduceLT, Nat.reduceLeDiff, Nat.reduceEqDiff, Nat.reduceBEq, Nat.reduceBNe, reduceCtorEq, nmC, nmV, rBE, rw, yrd, nmAt, wrC, recC, zr, rk, rX0, ofVal, ofVals, cellsV, vStore.isTup, eqL, eqV, Blk.deg, oneV, elApp, Nat.reduceAdd, Nat.reduceSub, Nat.reduceMul, Nat.reduceLT, Nat.reduceLeDiff, Nat.reduceEqDiff, Int.reduceToNat, Int.reduceGT, Int.reduceGE, Int.reduceMul, Int.reduceLT, Int.reduceLE, Int.reduceAdd, Int.reduceSub, Int.reduceNeg, reduceCtorEq, Sf.T3, Sf.T4, Sf.T24, Sf.T5, Sf.T22, Sf.T26, Sf.T83, Sf.T27, Sf.T89, Sf.T29, Sf.T31, nmC, nmV, rBE, rw, yrd, nmAt, wrC, recC, zr, rk]
        exact ⟨_, _, Le.off [some 0, none] (by rfl) (by rfl) (by simp only [rX2, bd, bdL, bdB, bdH, bdT, front, VLe, VLeL, BLe, Phan, TLe, HLe, ro, Blk.owned, CLe, rr, given, mrg, exct, shr, ren, renL, renB, Nat.reduceAdd, Nat.reduceSub, Nat.reduceLT, Nat.reduceLeDiff, Nat.reduceEqDiff, Nat.reduceBEq, Nat.reduceBNe, reduceCtorEq, nmC, nmV, rBE, rw, yrd, nmAt, wrC, recC, zr, rk]), _, false, _, zr, 40, 0, hg, .inr ⟨fun hh => hM hh.2.2, rfl, rfl⟩, rfl, rfl⟩
end Go.Proofs.Ytnlammgemaapnaa
