/- Layer 15: the reader. -/
import Derived.Test.YtnlammgemaapnaaRC
import Derived.Test.YtnlammgemaapnaaTA
set_option linter.unusedSimpArgs false
set_option linter.unusedVariables false
set_option maxRecDepth 100000
namespace Go.Proofs.Ytnlammgemaapnaa
open Go Go.Sx
def wR (b n cap : Nat) (bad : Bool) : Blk := .cells true 120 [.slice b n cap, .bool bad]
/-- The next n bytes; zeros, if there are fewer. -/
def tk (R : List Int) (n : Nat) : List Int := if n ≤ R.length then R.take n else List.replicate n 0
/-- What is behind them. -/
def rst (R : List Int) (n : Nat) : List Int := if n ≤ R.length then R.drop n else []
theorem tk_length (R : List Int) (n : Nat) : (tk R n).length = n := by
  unfold tk; split
  · rw [List.length_take]; omega
  · simp
theorem bE_zero (n j : Nat) : bE (List.replicate n 0) j = [.int .u8 0] := by
  unfold bE
  rw [List.getD_eq_getElem?_getD, List.getElem?_replicate]
  split <;> rfl
theorem bE_tk (R : List Int) (n j : Nat) (h : j < n) : bE (R.take n) j = bE R j := by
  unfold bE
  rw [List.getD_eq_getElem?_getD, List.getD_eq_getElem?_getD, List.getElem?_take_of_lt h]
theorem bE_dp (R : List Int) (n j : Nat) : bE (R.drop n) j = bE R (n + j) := by
  unfold bE
  rw [List.getD_eq_getElem?_getD, List.getD_eq_getElem?_getD, List.getElem?_drop]
theorem first_ok (R : List Int) (cap n : Nat) (hc : R.length ≤ cap) (hn : n ≤ 1000) :
    VCall Try.prog 147 [.slice 0 R.length cap, .int .i64 n] [rw R] fun v h => ∃ c1 c2, (rst R n).length ≤ c2 ∧ v = .tup [.slice 1 n c1, .slice 2 (rst R n).length c2, .bool (decide (n ≤ R.length))] ∧
      h = [rw R, .row 1 n (bE (tk R n)), rw (rst R n)] := by
  unfold rw
  rcases Nat.lt_or_ge R.length n with c | c
  · have e1 : tk R n = List.replicate n 0 := if_neg (by omega)
    have e2 : rst R n = [] := if_neg (by omega)
    rw [e1, e2, decide_eq_false (by omega)]
    have c1 : (R.length : Int) < (n : Int) := by omega
    refine VC.out ?_
    refine wbody Try.func147 rfl (by kernel_rfl) ?_
    rw [Try.ntmps147, Try.results147]
    simp (implicitDefEqProofs := false) (maxSteps := 1000000) only [rX1, bd, bdL, bdB, bdH, bdT, front, VLe, VLeL, BLe, Phan, TLe, HLe, ro, Blk.owned, CLe, rr, given, mrg, exct, shr, ren, renL, renB, Nat.reduceBEq, Nat.reduceBNe, rX0, ofVal, ofVals, cellsV, vStore.isTup, eqL, eqV, Blk.deg, oneV, elApp, Nat.reduceAdd, Nat.reduceSub, Nat.reduceMul, Nat.reduceLT, Nat.reduceLeDiff, Nat.reduceEqDiff, Int.reduceToNat, Int.reduceGT, Int.reduceGE, Int.reduceMul, Int.reduceLT, Int.reduceLE, Int.reduceAdd, Int.reduceSub, Int.reduceNeg, reduceCtorEq, Sf.T3, Sf.T4, Sf.T5, Sf.T22, Sf.T120, rBE, wR, rw]
    refine ⟨fun _ => ⟨⟨by omega, by simp only [maxI]; omega⟩, ?_⟩, fun h => absurd c h⟩
    exact ⟨_, _, Le.off [some 0, some 1, none] (by rfl) (by rfl) (by simp only [rX2, bd, bdL, bdB, bdH, bdT, front, VLe, VLeL, BLe, Phan, TLe, HLe, ro, Blk.owned, CLe, rr, given, mrg, exct, shr, ren, renL, renB, Nat.reduceAdd, Nat.reduceSub, Nat.reduceLT, Nat.reduceLeDiff, Nat.reduceEqDiff, Nat.reduceBEq, Nat.reduceBNe, reduceCtorEq, rBE, wR, rw]; intro j hj; rw [bE_zero]; simp only [rX2, bd, bdL, bdB, bdH, bdT, front, VLe, VLeL, BLe, Phan, TLe, HLe, ro, Blk.owned, CLe, rr, given, mrg, exct, shr, ren, renL, renB, Nat.reduceAdd, Nat.reduceSub, Nat.reduceLT, Nat.reduceLeDiff, Nat.reduceEqDiff, Nat.reduceBEq, Nat.reduceBNe, reduceCtorEq, rBE, wR, rw]), n, 0, rfl, rfl⟩
  · have e1 : tk R n = R.take n := if_pos c
    have e2 : rst R n = R.drop n := if_pos c
    have hdl : (R.drop n).length = R.length - n := List.length_drop
    rw [e1, e2, decide_eq_true c]
    have c1 : ¬ (R.length : Int) < (n : Int) := by omega
    refine VC.out ?_
    refine wbody Try.func147 rfl (by kernel_rfl) ?_
    rw [Try.ntmps147, Try.results147]
    simp (implicitDefEqProofs := false) (maxSteps := 1000000) only [rX1, bd, bdL, bdB, bdH, bdT, front, VLe, VLeL, BLe, Phan, TLe, HLe, ro, Blk.owned, CLe, rr, given, mrg, exct, shr, ren, renL, renB, Nat.reduceBEq, Nat.reduceBNe, rX0, ofVal, ofVals, cellsV, vStore.isTup, eqL, eqV, Blk.deg, oneV, elApp, Nat.reduceAdd, Nat.reduceSub, Nat.reduceMul, Nat.reduceLT, Nat.reduceLeDiff, Nat.reduceEqDiff, Int.reduceToNat, Int.reduceGT, Int.reduceGE, Int.reduceMul, Int.reduceLT, Int.reduceLE, Int.reduceAdd, Int.reduceSub, Int.reduceNeg, reduceCtorEq, Sf.T3, Sf.T4, Sf.T5, Sf.T22, Sf.T120, rBE, wR, rw]
    refine ⟨fun h => absurd h (by omega), fun _ => ?_⟩
    refine wdraw (.take 0 (.take 1 (.take 3 (.take 4 (.view 2 (.take 6 (.view 5 (.take 7 (.take 8 (.done)))))))))) [.row 1 R.length (bE R)] (by kernel_rfl) (by kernel_rfl) (by simp only [rX2, bd, bdL, bdB, bdH, bdT, front, VLe, VLeL, BLe, Phan, TLe, HLe, ro, Blk.owned, CLe, rr, given, mrg, exct, shr, ren, renL, renB, Nat.reduceAdd, Nat.reduceSub, Nat.reduceLT, Nat.reduceLeDiff, Nat.reduceEqDiff, Nat.reduceBEq, Nat.reduceBNe, reduceCtorEq, rBE, wR, rw, m7y, m7z, m80, m81, m83, m82]) (by simp only [rX2, bd, bdL, bdB, bdH, bdT, front, VLe, VLeL, BLe, Phan, TLe, HLe, ro, Blk.owned, CLe, rr, given, mrg, exct, shr, ren, renL, renB, Nat.reduceAdd, Nat.reduceSub, Nat.reduceLT, Nat.reduceLeDiff, Nat.reduceEqDiff, Nat.reduceBEq, Nat.reduceBNe, reduceCtorEq, rBE, wR, rw]) ?_
    simp (implicitDefEqProofs := false) (maxSteps := 1000000) only [rX2, bd, bdL, bdB, bdH, bdT, front, VLe, VLeL, BLe, Phan, TLe, HLe, ro, Blk.owned, CLe, rr, given, mrg, exct, shr, ren, renL, renB, Nat.reduceAdd, Nat.reduceSub, Nat.reduceLT, Nat.reduceLeDiff, Nat.reduceEqDiff, Nat.reduceBEq, Nat.reduceBNe, reduceCtorEq, rBE, wR, rw, rX0, ofVal, ofVals, cellsV, vStore.isTup, eqL, eqV, Blk.deg, oneV, elApp, Nat.reduceAdd, Nat.reduceSub, Nat.reduceMul, Nat.reduceLT, Nat.reduceLeDiff, Nat.reduceEqDiff, Int.reduceToNat, Int.reduceGT, Int.reduceGE, Int.reduceMul, Int.reduceLT, Int.reduceLE, Int.reduceAdd, Int.reduceSub, Int.reduceNeg, reduceCtorEq, Sf.T3, Sf.T4, Sf.T5, Sf.T22, Sf.T120, rBE, wR, rw]
    refine ⟨by omega, c, ⟨c, hc⟩, ?_⟩
    rw [hdl]
    exact ⟨_, _, Le.off [some 0, some 1, some 2] (by rfl) (by rfl) (by simp only [rX2, bd, bdL, bdB, bdH, bdT, front, VLe, VLeL, BLe, Phan, TLe, HLe, ro, Blk.owned, CLe, rr, given, mrg, exct, shr, ren, renL, renB, Nat.reduceAdd, Nat.reduceSub, Nat.reduceLT, Nat.reduceLeDiff, Nat.reduceEqDiff, Nat.reduceBEq, Nat.reduceBNe, reduceCtorEq, rBE, wR, rw]; exact ⟨fun j hj => by rw [bE_tk R n j hj]; simp only [rX2, bd, bdL, bdB, bdH, bdT, front, VLe, VLeL, BLe, Phan, TLe, HLe, ro, Blk.owned, CLe, rr, given, mrg, exct, shr, ren, renL, renB, Nat.reduceAdd, Nat.reduceSub, Nat.reduceLT, Nat.reduceLeDiff, Nat.reduceEqDiff, Nat.reduceBEq, Nat.reduceBNe, reduceCtorEq, rBE, wR, rw], fun j hj => by rw [bE_dp]; simp only [rX2, bd, bdL, bdB, bdH, bdT, front, VLe, VLeL, BLe, Phan, TLe, HLe, ro, Blk.owned, CLe, rr, given, mrg, exct, shr, ren, renL, renB, Nat.reduceAdd, Nat.reduceSub, Nat.reduceLT, Nat.reduceLeDiff, Nat.reduceEqDiff, Nat.reduceBEq, Nat.reduceBNe, reduceCtorEq, rBE, wR, rw]⟩), cap, cap - n, by omega, rfl, rfl⟩
/-- Were there too few? -/
def sh (bad : Bool) (R : List Int) (n : Nat) : Bool := bad || decide (R.length < n)
theorem take_ok (R : List Int) (cap n : Nat) (bad : Bool) (hc : R.length ≤ cap) (hn : n ≤ 1000) :
    VCall Try.prog 92 [.ptr 0 0 0 0, .int .i64 n] [wR 1 R.length cap bad, rw R] fun v h => ∃ c1 c2, (rst R n).length ≤ c2 ∧ v = .slice 2 n c1 ∧
      h = [wR 3 (rst R n).length c2 (sh bad R n), rw R, .row 1 n (bE (tk R n)), rw (rst R n)] := by
  have h1 := first_ok R cap n hc hn
  unfold sh
  rcases Nat.lt_or_ge R.length n with c | c
  · rw [decide_eq_false (by omega : ¬ n ≤ R.length)] at h1
    rw [decide_eq_true c]
    unfold rw at h1
    unfold wR rw
    cases bad
    · refine VC.out ?_
      refine wbody Try.func92 rfl (by kernel_rfl) ?_
      rw [Try.ntmps92, Try.results92]
      simp (implicitDefEqProofs := false) (maxSteps := 1000000) only [rX1, bd, bdL, bdB, bdH, bdT, front, VLe, VLeL, BLe, Phan, TLe, HLe, ro, Blk.owned, CLe, rr, given, mrg, exct, shr, ren, renL, renB, Nat.reduceBEq, Nat.reduceBNe, rX0, ofVal, ofVals, cellsV, vStore.isTup, eqL, eqV, Blk.deg, oneV, elApp, Nat.reduceAdd, Nat.reduceSub, Nat.reduceMul, Nat.reduceLT, Nat.reduceLeDiff, Nat.reduceEqDiff, Int.reduceToNat, Int.reduceGT, Int.reduceGE, Int.reduceMul, Int.reduceLT, Int.reduceLE, Int.reduceAdd, Int.reduceSub, Int.reduceNeg, reduceCtorEq, Sf.T3, Sf.T4, Sf.T5, Sf.T22, Sf.T120, rBE, wR, rw]
      refine vframe (h1) [1] (by rfl) (by simp only [rX2, bd, bdL, bdB, bdH, bdT, front, VLe, VLeL, BLe, Phan, TLe, HLe, ro, Blk.owned, CLe, rr, given, mrg, exct, shr, ren, renL, renB, Nat.reduceAdd, Nat.reduceSub, Nat.reduceLT, Nat.reduceLeDiff, Nat.reduceEqDiff, Nat.reduceBEq, Nat.reduceBNe, reduceCtorEq, rBE, wR, rw]) ?_
      rintro v h ⟨c1, c2, hc1, rfl, rfl⟩ -
      simp (implicitDefEqProofs := false) (maxSteps := 1000000) only [rX2, bd, bdL, bdB, bdH, bdT, front, VLe, VLeL, BLe, Phan, TLe, HLe, ro, Blk.owned, CLe, rr, given, mrg, exct, shr, ren, renL, renB, Nat.reduceAdd, Nat.reduceSub, Nat.reduceLT, Nat.reduceLeDiff, Nat.reduceEqDiff, Nat.reduceBEq, Nat.reduceBNe, reduceCtorEq, rBE, wR, rw, rX0, ofVal, ofVals, cellsV, vStore.isTup, eqL, eqV, Blk.deg, oneV, elApp, Nat.reduceAdd, Nat.reduceSub, Nat.reduceMul, Nat.reduceLT, Nat.reduceLeDiff, Nat.reduceEqDiff, Int.reduceToNat, Int.reduceGT, Int.reduceGE, Int.reduceMul, Int.reduceLT, Int.reduceLE, Int.reduceAdd, Int.reduceSub, Int.reduceNeg, reduceCtorEq, Sf.T3, Sf.T4, Sf.T5, Sf.T22, Sf.T120, rBE, wR, rw]
      exact ⟨_, _, Le.off [some 0, some 1, some 2, some 3] (by rfl) (by rfl) (by simp only [rX2, bd, bdL, bdB, bdH, bdT, front, VLe, VLeL, BLe, Phan, TLe, HLe, ro, Blk.owned, CLe, rr, given, mrg, exct, shr, ren, renL, renB, Nat.reduceAdd, Nat.reduceSub, Nat.reduceLT, Nat.reduceLeDiff, Nat.reduceEqDiff, Nat.reduceBEq, Nat.reduceBNe, reduceCtorEq, rBE, wR, rw]), c1, c2, hc1, rfl, rfl⟩
    · refine VC.out ?_
      refine wbody Try.func92 rfl (by kernel_rfl) ?_
      rw [Try.ntmps92, Try.results92]
      simp (implicitDefEqProofs := false) (maxSteps := 1000000) only [rX1, bd, bdL, bdB, bdH, bdT, front, VLe, VLeL, BLe, Phan, TLe, HLe, ro, Blk.owned, CLe, rr, given, mrg, exct, shr, ren, renL, renB, Nat.reduceBEq, Nat.reduceBNe, rX0, ofVal, ofVals, cellsV, vStore.isTup, eqL, eqV, Blk.deg, oneV, elApp, Nat.reduceAdd, Nat.reduceSub, Nat.reduceMul, Nat.reduceLT, Nat.reduceLeDiff, Nat.reduceEqDiff, Int.reduceToNat, Int.reduceGT, Int.reduceGE, Int.reduceMul, Int.reduceLT, Int.reduceLE, Int.reduceAdd, Int.reduceSub, Int.reduceNeg, reduceCtorEq, Sf.T3, Sf.T4, Sf.T5, Sf.T22, Sf.T120, rBE, wR, rw]
      refine vframe (h1) [1] (by rfl) (by simp only [rX2, bd, bdL, bdB, bdH, bdT, front, VLe, VLeL, BLe, Phan, TLe, HLe, ro, Blk.owned, CLe, rr, given, mrg, exct, shr, ren, renL, renB, Nat.reduceAdd, Nat.reduceSub, Nat.reduceLT, Nat.reduceLeDiff, Nat.reduceEqDiff, Nat.reduceBEq, Nat.reduceBNe, reduceCtorEq, rBE, wR, rw]) ?_
      rintro v h ⟨c1, c2, hc1, rfl, rfl⟩ -
      simp (implicitDefEqProofs := false) (maxSteps := 1000000) only [rX2, bd, bdL, bdB, bdH, bdT, front, VLe, VLeL, BLe, Phan, TLe, HLe, ro, Blk.owned, CLe, rr, given, mrg, exct, shr, ren, renL, renB, Nat.reduceAdd, Nat.reduceSub, Nat.reduceLT, Nat.reduceLeDiff, Nat.reduceEqDiff, Nat.reduceBEq, Nat.reduceBNe, reduceCtorEq, rBE, wR, rw, rX0, ofVal, ofVals, cellsV, vStore.isTup, eqL, eqV, Blk.deg, oneV, elApp, Nat.reduceAdd, Nat.reduceSub, Nat.reduceMul, Nat.reduceLT, Nat.reduceLeDiff, Nat.reduceEqDiff, Int.reduceToNat, Int.reduceGT, Int.reduceGE, Int.reduceMul, Int.reduceLT, Int.reduceLE, Int.reduceAdd, Int.reduceSub, Int.reduceNeg, reduceCtorEq, Sf.T3, Sf.T4, Sf.T5, Sf.T22, Sf.T120, rBE, wR, rw]
      exact ⟨_, _, Le.off [some 0, some 1, some 2, some 3] (by rfl) (by rfl) (by simp only [rX2, bd, bdL, bdB, bdH, bdT, front, VLe, VLeL, BLe, Phan, TLe, HLe, ro, Blk.owned, CLe, rr, given, mrg, exct, shr, ren, renL, renB, Nat.reduceAdd, Nat.reduceSub, Nat.reduceLT, Nat.reduceLeDiff, Nat.reduceEqDiff, Nat.reduceBEq, Nat.reduceBNe, reduceCtorEq, rBE, wR, rw]), c1, c2, hc1, rfl, rfl⟩
  · rw [decide_eq_true c] at h1
    rw [decide_eq_false (by omega : ¬ R.length < n)]
    unfold rw at h1
    unfold wR rw
    cases bad
    · refine VC.out ?_
      refine wbody Try.func92 rfl (by kernel_rfl) ?_
      rw [Try.ntmps92, Try.results92]
      simp (implicitDefEqProofs := false) (maxSteps := 1000000) only [rX1, bd, bdL, bdB, bdH, bdT, front, VLe, VLeL, BLe, Phan, TLe, HLe, ro, Blk.owned, CLe, rr, given, mrg, exct, shr, ren, renL, renB, Nat.reduceBEq, Nat.reduceBNe, rX0, ofVal, ofVals, cellsV, vStore.isTup, eqL, eqV, Blk.deg, oneV, elApp, Nat.reduceAdd, Nat.reduceSub, Nat.reduceMul, Nat.reduceLT, Nat.reduceLeDiff, Nat.reduceEqDiff, Int.reduceToNat, Int.reduceGT, Int.reduceGE, Int.reduceMul, Int.reduceLT, Int.reduceLE, Int.reduceAdd, Int.reduceSub, Int.reduceNeg, reduceCtorEq, Sf.T3, Sf.T4, Sf.T5, Sf.T22, Sf.T120, rBE, wR, rw]
      refine vframe (h1) [1] (by rfl) (by simp only [rX2, bd, bdL, bdB, bdH, bdT, front, VLe, VLeL, BLe, Phan, TLe, HLe, ro, Blk.owned, CLe, rr, given, mrg, exct, shr, ren, renL, renB, Nat.reduceAdd, Nat.reduceSub, Nat.reduceLT, Nat.reduceLeDiff, Nat.reduceEqDiff, Nat.reduceBEq, Nat.reduceBNe, reduceCtorEq, rBE, wR, rw]) ?_
      rintro v h ⟨c1, c2, hc1, rfl, rfl⟩ -
      simp (implicitDefEqProofs := false) (maxSteps := 1000000) only [rX2, bd, bdL, bdB, bdH, bdT, front, VLe, VLeL, BLe, Phan, TLe, HLe, ro, Blk.owned, CLe, rr, given, mrg, exct, shr, ren, renL, renB, Nat.reduceAdd, Nat.reduceSub, Nat.reduceLT, Nat.reduceLeDiff, Nat.reduceEqDiff, Nat.reduceBEq, Nat.reduceBNe, reduceCtorEq, rBE, wR, rw, rX0, ofVal, ofVals, cellsV, vStore.isTup, eqL, eqV, Blk.deg, oneV, elApp, Nat.reduceAdd, Nat.reduceSub, Nat.reduceMul, Nat.reduceLT, Nat.reduceLeDiff, Nat.reduceEqDiff, Int.reduceToNat, Int.reduceGT, Int.reduceGE, Int.reduceMul, Int.reduceLT, Int.reduceLE, Int.reduceAdd, Int.reduceSub, Int.reduceNeg, reduceCtorEq, Sf.T3, Sf.T4, Sf.T5, Sf.T22, Sf.T120, rBE, wR, rw]
      exact ⟨_, _, Le.off [some 0, some 1, some 2, some 3] (by rfl) (by rfl) (by simp only [rX2, bd, bdL, bdB, bdH, bdT, front, VLe, VLeL, BLe, Phan, TLe, HLe, ro, Blk.owned, CLe, rr, given, mrg, exct, shr, ren, renL, renB, Nat.reduceAdd, Nat.reduceSub, Nat.reduceLT, Nat.reduceLeDiff, Nat.reduceEqDiff, Nat.reduceBEq, Nat.reduceBNe, reduceCtorEq, rBE, wR, rw]), c1, c2, hc1, rfl, rfl⟩
    · refine VC.out ?_
      refine wbody Try.func92 rfl (by kernel_rfl) ?_
      rw [Try.ntmps92, Try.results92]
      simp (implicitDefEqProofs := false) (maxSteps := 1000000) only [rX1, bd, bdL, bdB, bdH, bdT, front, VLe, VLeL, BLe, Phan, TLe, HLe, ro, Blk.owned, CLe, rr, given, mrg, exct, shr, ren, renL, renB, Nat.reduceBEq, Nat.reduceBNe, rX0, ofVal, ofVals, cellsV, vStore.isTup, eqL, eqV, Blk.deg, oneV, elApp, Nat.reduceAdd, Nat.reduceSub, Nat.reduceMul, Nat.reduceLT, Nat.reduceLeDiff, Nat.reduceEqDiff, Int.reduceToNat, Int.reduceGT, Int.reduceGE, Int.reduceMul, Int.reduceLT, Int.reduceLE, Int.reduceAdd, Int.reduceSub, Int.reduceNeg, reduceCtorEq, Sf.T3, Sf.T4, Sf.T5, Sf.T22, Sf.T120, rBE, wR, rw]
      refine vframe (h1) [1] (by rfl) (by simp only [rX2, bd, bdL, bdB, bdH, bdT, front, VLe, VLeL, BLe, Phan, TLe, HLe, ro, Blk.owned, CLe, rr, given, mrg, exct, shr, ren, renL, renB, Nat.reduceAdd, Nat.reduceSub, Nat.reduceLT, Nat.reduceLeDiff, Nat.reduceEqDiff, Nat.reduceBEq, Nat.reduceBNe, reduceCtorEq, rBE, wR, rw]) ?_
      rintro v h ⟨c1, c2, hc1, rfl, rfl⟩ -
      simp (implicitDefEqProofs := false) (maxSteps := 1000000) only [rX2, bd, bdL, bdB, bdH, bdT, front, VLe, VLeL, BLe, Phan, TLe, HLe, ro, Blk.owned, CLe, rr, given, mrg, exct, shr, ren, renL, renB, Nat.reduceAdd, Nat.reduceSub, Nat.reduceLT, Nat.reduceLeDiff, Nat.reduceEqDiff, Nat.reduceBEq, Nat.reduceBNe, reduceCtorEq, rBE, wR, rw, rX0, ofVal, ofVals, cellsV, vStore.isTup, eqL, eqV, Blk.deg, oneV, elApp, Nat.reduceAdd, Nat.reduceSub, Nat.reduceMul, Nat.reduceLT, Nat.reduceLeDiff, Nat.reduceEqDiff, Int.reduceToNat, Int.reduceGT, Int.reduceGE, Int.reduceMul, Int.reduceLT, Int.reduceLE, Int.reduceAdd, Int.reduceSub, Int.reduceNeg, reduceCtorEq, Sf.T3, Sf.T4, Sf.T5, Sf.T22, Sf.T120, rBE, wR, rw]
      exact ⟨_, _, Le.off [some 0, some 1, some 2, some 3] (by rfl) (by rfl) (by simp only [rX2, bd, bdL, bdB, bdH, bdT, front, VLe, VLeL, BLe, Phan, TLe, HLe, ro, Blk.owned, CLe, rr, given, mrg, exct, shr, ren, renL, renB, Nat.reduceAdd, Nat.reduceSub, Nat.reduceLT, Nat.reduceLeDiff, Nat.reduceEqDiff, Nat.reduceBEq, Nat.reduceBNe, reduceCtorEq, rBE, wR, rw]), c1, c2, hc1, rfl, rfl⟩
theorem Bys.tk {R : List Int} (h : Bys R) (n : Nat) : Bys (tk R n) := by
  unfold Go.Proofs.Ytnlammgemaapnaa.tk
  split
  · exact fun x hx => h x (List.mem_of_mem_take hx)
  · intro x hx
    rw [List.mem_replicate] at hx
    omega
theorem Bys.rst {R : List Int} (h : Bys R) (n : Nat) : Bys (rst R n) := by
  unfold Go.Proofs.Ytnlammgemaapnaa.rst
  split
  · exact h.drop n
  · intro x hx; cases hx
/-- The number that the next n bytes are. -/
def n1 (T : List Int) : Int := T.getD 0 0
def n2 (T : List Int) : Int := T.getD 0 0 + 256 * T.getD 1 0
theorem or1_bytes (a : Int) (ha : 0 ≤ a ∧ a ≤ 255) : bitsI .or .i64 0 (shlI .i64 a 0) = a := by
  obtain ⟨a, rfl⟩ := Int.eq_ofNat_of_zero_le ha.1
  have e0 := shl_nat a 0 (by omega) (by omega)
  simp only [Int.natCast_zero, Nat.shiftLeft_zero] at e0
  rw [e0]
  have z := or_nat 0 a (by omega) (by omega)
  simpa only [Int.natCast_zero, Nat.zero_or] using z
theorem or2_bytes (a b : Int) (ha : 0 ≤ a ∧ a ≤ 255) (hb : 0 ≤ b ∧ b ≤ 255) : bitsI .or .i64 (bitsI .or .i64 0 (shlI .i64 a 0)) (shlI .i64 b 8) = a + 256 * b := by
  rw [or1_bytes a ha]
  obtain ⟨a, rfl⟩ := Int.eq_ofNat_of_zero_le ha.1
  obtain ⟨b, rfl⟩ := Int.eq_ofNat_of_zero_le hb.1
  have e1 := shl_nat b 8 (by omega) (by omega)
  rw [show ((8 : Nat) : Int) = 8 from rfl] at e1
  rw [e1]
  have hb' : b <<< 8 = b * 256 := by rw [Nat.shiftLeft_eq]
  rw [or_nat a (b <<< 8) (by omega) (by omega)]
  have s1 : a ||| (b <<< 8) = b * 256 + a := by
    rw [Nat.or_comm, ← Nat.shiftLeft_add_eq_or_of_lt (by omega) b, hb']
  rw [s1]; omega
theorem num1_ok (R : List Int) (cap : Nat) (bad : Bool) (hR : Bys R) (hc : R.length ≤ cap) :
    VCall Try.prog 77 [.ptr 0 0 0 0, .int .i64 1] [wR 1 R.length cap bad, rw R] fun v h => ∃ c2, (rst R 1).length ≤ c2 ∧ v = .int .i64 (n1 (tk R 1)) ∧
      h = [wR 2 (rst R 1).length c2 (sh bad R 1), rw R, rw (rst R 1)] := by
  have h1 := take_ok R cap 1 bad hc (by omega)
  have hx : ∀ i, 0 ≤ (tk R 1).getD i 0 ∧ (tk R 1).getD i 0 ≤ 255 := fun i => (hR.tk 1).getD i
  have hw : ∀ i, IntKind.i64.wrap ((tk R 1).getD i 0) = (tk R 1).getD i 0 := fun i => IntWalk.i64_in _ (by have := hx i; omega)
  have w0 : IntKind.i64.wrap 0 = 0 := by decide
  have w8 : IntKind.i64.wrap 8 = 8 := by decide
  have w16 : IntKind.i64.wrap 16 = 16 := by decide
  have fin : bitsI .or .i64 0 (shlI .i64 ((tk R 1).getD 0 0) 0) = n1 (tk R 1) := or1_bytes _ (hx 0)
  unfold wR rw at h1
  unfold wR rw
  refine VC.out ?_
  refine wbody Try.func77 rfl (by kernel_rfl) ?_
  rw [Try.ntmps77, Try.results77]
  simp (implicitDefEqProofs := false) (maxSteps := 1000000) only [rX1, bd, bdL, bdB, bdH, bdT, front, VLe, VLeL, BLe, Phan, TLe, HLe, ro, Blk.owned, CLe, rr, given, mrg, exct, shr, ren, renL, renB, Nat.reduceBEq, Nat.reduceBNe, rX0, ofVal, ofVals, cellsV, vStore.isTup, eqL, eqV, Blk.deg, oneV, elApp, Nat.reduceAdd, Nat.reduceSub, Nat.reduceMul, Nat.reduceLT, Nat.reduceLeDiff, Nat.reduceEqDiff, Int.reduceToNat, Int.reduceGT, Int.reduceGE, Int.reduceMul, Int.reduceLT, Int.reduceLE, Int.reduceAdd, Int.reduceSub, Int.reduceNeg, reduceCtorEq, Sf.T3, Sf.T4, Sf.T5, Sf.T22, Sf.T120, rBE, wR, rw]
  refine vframe (h1) [0, 1] (by rfl) (by simp only [rX2, bd, bdL, bdB, bdH, bdT, front, VLe, VLeL, BLe, Phan, TLe, HLe, ro, Blk.owned, CLe, rr, given, mrg, exct, shr, ren, renL, renB, Nat.reduceAdd, Nat.reduceSub, Nat.reduceLT, Nat.reduceLeDiff, Nat.reduceEqDiff, Nat.reduceBEq, Nat.reduceBNe, reduceCtorEq, rBE, wR, rw]) ?_
  rintro v h ⟨c1, c2, hc1, rfl, rfl⟩ -
  simp (implicitDefEqProofs := false) (maxSteps := 1000000) only [rX2, bd, bdL, bdB, bdH, bdT, front, VLe, VLeL, BLe, Phan, TLe, HLe, ro, Blk.owned, CLe, rr, given, mrg, exct, shr, ren, renL, renB, Nat.reduceAdd, Nat.reduceSub, Nat.reduceLT, Nat.reduceLeDiff, Nat.reduceEqDiff, Nat.reduceBEq, Nat.reduceBNe, reduceCtorEq, rBE, wR, rw, rX0, ofVal, ofVals, cellsV, vStore.isTup, eqL, eqV, Blk.deg, oneV, elApp, Nat.reduceAdd, Nat.reduceSub, Nat.reduceMul, Nat.reduceLT, Nat.reduceLeDiff, Nat.reduceEqDiff, Int.reduceToNat, Int.reduceGT, Int.reduceGE, Int.reduceMul, Int.reduceLT, Int.reduceLE, Int.reduceAdd, Int.reduceSub, Int.reduceNeg, reduceCtorEq, Sf.T3, Sf.T4, Sf.T5, Sf.T22, Sf.T120, rBE, wR, rw]
  refine vrounds 2 ?_
  simp (implicitDefEqProofs := false) (maxSteps := 1000000) only [hw, w0, w8, w16, rX2, bd, bdL, bdB, bdH, bdT, front, VLe, VLeL, BLe, Phan, TLe, HLe, ro, Blk.owned, CLe, rr, given, mrg, exct, shr, ren, renL, renB, Nat.reduceAdd, Nat.reduceSub, Nat.reduceLT, Nat.reduceLeDiff, Nat.reduceEqDiff, Nat.reduceBEq, Nat.reduceBNe, reduceCtorEq, rBE, wR, rw, rX0, ofVal, ofVals, cellsV, vStore.isTup, eqL, eqV, Blk.deg, oneV, elApp, Nat.reduceAdd, Nat.reduceSub, Nat.reduceMul, Nat.reduceLT, Nat.reduceLeDiff, Nat.reduceEqDiff, Int.reduceToNat, Int.reduceGT, Int.reduceGE, Int.reduceMul, Int.reduceLT, Int.reduceLE, Int.reduceAdd, Int.reduceSub, Int.reduceNeg, reduceCtorEq, Sf.T3, Sf.T4, Sf.T5, Sf.T22, Sf.T120, rBE, wR, rw]
  rw [fin]
  exact ⟨_, _, Le.off [some 0, some 1, some 3] (by rfl) (by rfl) (by simp only [rX2, bd, bdL, bdB, bdH, bdT, front, VLe, VLeL, BLe, Phan, TLe, HLe, ro, Blk.owned, CLe, rr, given, mrg, exct, shr, ren, renL, renB, Nat.reduceAdd, Nat.reduceSub, Nat.reduceLT, Nat.reduceLeDiff, Nat.reduceEqDiff, Nat.reduceBEq, Nat.reduceBNe, reduceCtorEq, rBE, wR, rw]), c2, hc1, rfl, rfl⟩
theorem num2_ok (R : List Int) (cap : Nat) (bad : Bool) (hR : Bys R) (hc : R.length ≤ cap) :
    VCall Try.prog 77 [.ptr 0 0 0 0, .int .i64 2] [wR 1 R.length cap bad, rw R] fun v h => ∃ c2, (rst R 2).length ≤ c2 ∧ v = .int .i64 (n2 (tk R 2)) ∧
      h = [wR 2 (rst R 2).length c2 (sh bad R 2), rw R, rw (rst R 2)] := by
  have h1 := take_ok R cap 2 bad hc (by omega)
  have hx : ∀ i, 0 ≤ (tk R 2).getD i 0 ∧ (tk R 2).getD i 0 ≤ 255 := fun i => (hR.tk 2).getD i
  have hw : ∀ i, IntKind.i64.wrap ((tk R 2).getD i 0) = (tk R 2).getD i 0 := fun i => IntWalk.i64_in _ (by have := hx i; omega)
  have w0 : IntKind.i64.wrap 0 = 0 := by decide
  have w8 : IntKind.i64.wrap 8 = 8 := by decide
  have w16 : IntKind.i64.wrap 16 = 16 := by decide
  have fin : bitsI .or .i64 (bitsI .or .i64 0 (shlI .i64 ((tk R 2).getD 0 0) 0)) (shlI .i64 ((tk R 2).getD 1 0) 8) = n2 (tk R 2) := or2_bytes _ _ (hx 0) (hx 1)
  unfold wR rw at h1
  unfold wR rw
  refine VC.out ?_
  refine wbody Try.func77 rfl (by kernel_rfl) ?_
  rw [Try.ntmps77, Try.results77]
  simp (implicitDefEqProofs := false) (maxSteps := 1000000) only [rX1, bd, bdL, bdB, bdH, bdT, front, VLe, VLeL, BLe, Phan, TLe, HLe, ro, Blk.owned, CLe, rr, given, mrg, exct, shr, ren, renL, renB, Nat.reduceBEq, Nat.reduceBNe, rX0, ofVal, ofVals, cellsV, vStore.isTup, eqL, eqV, Blk.deg, oneV, elApp, Nat.reduceAdd, Nat.reduceSub, Nat.reduceMul, Nat.reduceLT, Nat.reduceLeDiff, Nat.reduceEqDiff, Int.reduceToNat, Int.reduceGT, Int.reduceGE, Int.reduceMul, Int.reduceLT, Int.reduceLE, Int.reduceAdd, Int.reduceSub, Int.reduceNeg, reduceCtorEq, Sf.T3, Sf.T4, Sf.T5, Sf.T22, Sf.T120, rBE, wR, rw]
  refine vframe (h1) [0, 1] (by rfl) (by simp only [rX2, bd, bdL, bdB, bdH, bdT, front, VLe, VLeL, BLe, Phan, TLe, HLe, ro, Blk.owned, CLe, rr, given, mrg, exct, shr, ren, renL, renB, Nat.reduceAdd, Nat.reduceSub, Nat.reduceLT, Nat.reduceLeDiff, Nat.reduceEqDiff, Nat.reduceBEq, Nat.reduceBNe, reduceCtorEq, rBE, wR, rw]) ?_
  rintro v h ⟨c1, c2, hc1, rfl, rfl⟩ -
  simp (implicitDefEqProofs := false) (maxSteps := 1000000) only [rX2, bd, bdL, bdB, bdH, bdT, front, VLe, VLeL, BLe, Phan, TLe, HLe, ro, Blk.owned, CLe, rr, given, mrg, exct, shr, ren, renL, renB, Nat.reduceAdd, Nat.reduceSub, Nat.reduceLT, Nat.reduceLeDiff, Nat.reduceEqDiff, Nat.reduceBEq, Nat.reduceBNe, reduceCtorEq, rBE, wR, rw, rX0, ofVal, ofVals, cellsV, vStore.isTup, eqL, eqV, Blk.deg, oneV, elApp, Nat.reduceAdd, Nat.reduceSub, Nat.reduceMul, Nat.reduceLT, Nat.reduceLeDiff, Nat.reduceEqDiff, Int.reduceToNat, Int.reduceGT, Int.reduceGE, Int.reduceMul, Int.reduceLT, Int.reduceLE, Int.reduceAdd, Int.reduceSub, Int.reduceNeg, reduceCtorEq, Sf.T3, Sf.T4, Sf.T5, Sf.T22, Sf.T120, rBE, wR, rw]
  refine vrounds 3 ?_
  simp (implicitDefEqProofs := false) (maxSteps := 1000000) only [hw, w0, w8, w16, rX2, bd, bdL, bdB, bdH, bdT, front, VLe, VLeL, BLe, Phan, TLe, HLe, ro, Blk.owned, CLe, rr, given, mrg, exct, shr, ren, renL, renB, Nat.reduceAdd, Nat.reduceSub, Nat.reduceLT, Nat.reduceLeDiff, Nat.reduceEqDiff, Nat.reduceBEq, Nat.reduceBNe, reduceCtorEq, rBE, wR, rw, rX0, ofVal, ofVals, cellsV, vStore.isTup, eqL, eqV, Blk.deg, oneV, elApp, Nat.reduceAdd, Nat.reduceSub, Nat.reduceMul, Nat.reduceLT, Nat.reduceLeDiff, Nat.reduceEqDiff, Int.reduceToNat, Int.reduceGT, Int.reduceGE, Int.reduceMul, Int.reduceLT, Int.reduceLE, Int.reduceAdd, Int.reduceSub, Int.reduceNeg, reduceCtorEq, Sf.T3, Sf.T4, Sf.T5, Sf.T22, Sf.T120, rBE, wR, rw]
  rw [fin]
  exact ⟨_, _, Le.off [some 0, some 1, some 3] (by rfl) (by rfl) (by simp only [rX2, bd, bdL, bdB, bdH, bdT, front, VLe, VLeL, BLe, Phan, TLe, HLe, ro, Blk.owned, CLe, rr, given, mrg, exct, shr, ren, renL, renB, Nat.reduceAdd, Nat.reduceSub, Nat.reduceLT, Nat.reduceLeDiff, Nat.reduceEqDiff, Nat.reduceBEq, Nat.reduceBNe, reduceCtorEq, rBE, wR, rw]), c2, hc1, rfl, rfl⟩
theorem num3_ok (R : List Int) (cap : Nat) (bad : Bool) (hR : Bys R) (hc : R.length ≤ cap) :
    VCall Try.prog 77 [.ptr 0 0 0 0, .int .i64 3] [wR 1 R.length cap bad, rw R] fun v h => ∃ c2, (rst R 3).length ≤ c2 ∧ v = .int .i64 (n3 (tk R 3) 0) ∧
      h = [wR 2 (rst R 3).length c2 (sh bad R 3), rw R, rw (rst R 3)] := by
  have h1 := take_ok R cap 3 bad hc (by omega)
  have hx : ∀ i, 0 ≤ (tk R 3).getD i 0 ∧ (tk R 3).getD i 0 ≤ 255 := fun i => (hR.tk 3).getD i
  have hw : ∀ i, IntKind.i64.wrap ((tk R 3).getD i 0) = (tk R 3).getD i 0 := fun i => IntWalk.i64_in _ (by have := hx i; omega)
  have w0 : IntKind.i64.wrap 0 = 0 := by decide
  have w8 : IntKind.i64.wrap 8 = 8 := by decide
  have w16 : IntKind.i64.wrap 16 = 16 := by decide
  have fin : bitsI .or .i64 (bitsI .or .i64 (bitsI .or .i64 0 (shlI .i64 ((tk R 3).getD 0 0) 0)) (shlI .i64 ((tk R 3).getD 1 0) 8)) (shlI .i64 ((tk R 3).getD 2 0) 16) = n3 (tk R 3) 0 := or3_bytes _ _ _ (hx 0) (hx 1) (hx 2)
  unfold wR rw at h1
  unfold wR rw
  refine VC.out ?_
  refine wbody Try.func77 rfl (by kernel_rfl) ?_
  rw [Try.ntmps77, Try.results77]
  simp (implicitDefEqProofs := false) (maxSteps := 1000000) only [rX1, bd, bdL, bdB, bdH, bdT, front, VLe, VLeL, BLe, Phan, TLe, HLe, ro, Blk.owned, CLe, rr, given, mrg, exct, shr, ren, renL, renB, Nat.reduceBEq, Nat.reduceBNe, rX0, ofVal, ofVals, cellsV, vStore.isTup, eqL, eqV, Blk.deg, oneV, elApp, Nat.reduceAdd, Nat.reduceSub, Nat.reduceMul, Nat.reduceLT, Nat.reduceLeDiff, Nat.reduceEqDiff, Int.reduceToNat, Int.reduceGT, Int.reduceGE, Int.reduceMul, Int.reduceLT, Int.reduceLE, Int.reduceAdd, Int.reduceSub, Int.reduceNeg, reduceCtorEq, Sf.T3, Sf.T4, Sf.T5, Sf.T22, Sf.T120, rBE, wR, rw]
  refine vframe (h1) [0, 1] (by rfl) (by simp only [rX2, bd, bdL, bdB, bdH, bdT, front, VLe, VLeL, BLe, Phan, TLe, HLe, ro, Blk.owned, CLe, rr, given, mrg, exct, shr, ren, renL, renB, Nat.reduceAdd, Nat.reduceSub, Nat.reduceLT, Nat.reduceLeDiff, Nat.reduceEqDiff, Nat.reduceBEq, Nat.reduceBNe, reduceCtorEq, rBE, wR, rw]) ?_
  rintro v h ⟨c1, c2, hc1, rfl, rfl⟩ -
  simp (implicitDefEqProofs := false) (maxSteps := 1000000) only [rX2, bd, bdL, bdB, bdH, bdT, front, VLe, VLeL, BLe, Phan, TLe, HLe, ro, Blk.owned, CLe, rr, given, mrg, exct, shr, ren, renL, renB, Nat.reduceAdd, Nat.reduceSub, Nat.reduceLT, Nat.reduceLeDiff, Nat.reduceEqDiff, Nat.reduceBEq, Nat.reduceBNe, reduceCtorEq, rBE, wR, rw, rX0, ofVal, ofVals, cellsV, vStore.isTup, eqL, eqV, Blk.deg, oneV, elApp, Nat.reduceAdd, Nat.reduceSub, Nat.reduceMul, Nat.reduceLT, Nat.reduceLeDiff, Nat.reduceEqDiff, Int.reduceToNat, Int.reduceGT, Int.reduceGE, Int.reduceMul, Int.reduceLT, Int.reduceLE, Int.reduceAdd, Int.reduceSub, Int.reduceNeg, reduceCtorEq, Sf.T3, Sf.T4, Sf.T5, Sf.T22, Sf.T120, rBE, wR, rw]
  refine vrounds 4 ?_
  simp (implicitDefEqProofs := false) (maxSteps := 1000000) only [hw, w0, w8, w16, rX2, bd, bdL, bdB, bdH, bdT, front, VLe, VLeL, BLe, Phan, TLe, HLe, ro, Blk.owned, CLe, rr, given, mrg, exct, shr, ren, renL, renB, Nat.reduceAdd, Nat.reduceSub, Nat.reduceLT, Nat.reduceLeDiff, Nat.reduceEqDiff, Nat.reduceBEq, Nat.reduceBNe, reduceCtorEq, rBE, wR, rw, rX0, ofVal, ofVals, cellsV, vStore.isTup, eqL, eqV, Blk.deg, oneV, elApp, Nat.reduceAdd, Nat.reduceSub, Nat.reduceMul, Nat.reduceLT, Nat.reduceLeDiff, Nat.reduceEqDiff, Int.reduceToNat, Int.reduceGT, Int.reduceGE, Int.reduceMul, Int.reduceLT, Int.reduceLE, Int.reduceAdd, Int.reduceSub, Int.reduceNeg, reduceCtorEq, Sf.T3, Sf.T4, Sf.T5, Sf.T22, Sf.T120, rBE, wR, rw]
  rw [fin]
  exact ⟨_, _, Le.off [some 0, some 1, some 3] (by rfl) (by rfl) (by simp only [rX2, bd, bdL, bdB, bdH, bdT, front, VLe, VLeL, BLe, Phan, TLe, HLe, ro, Blk.owned, CLe, rr, given, mrg, exct, shr, ren, renL, renB, Nat.reduceAdd, Nat.reduceSub, Nat.reduceLT, Nat.reduceLeDiff, Nat.reduceEqDiff, Nat.reduceBEq, Nat.reduceBNe, reduceCtorEq, rBE, wR, rw]), c2, hc1, rfl, rfl⟩
end Go.Proofs.Ytnlammgemaapnaa
