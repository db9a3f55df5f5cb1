/- Layer 7: the document's own answers, the small ones. -/
import Derived.Test.YtnlammgemaapnaaRP
import Derived.Test.YtnlammgemaapnaaRQ
set_option linter.unusedSimpArgs false
set_option linter.unusedVariables false
set_option maxRecDepth 100000
namespace Go.Proofs.Ytnlammgemaapnaa
open Go Go.Sx
theorem rnamed_ok (x : Nm) : VCall Try.prog 27 [nmV x] [] fun v h => v = .bool (decide (Named x)) ∧ h = [] := by
  refine VCall.trim 0 (Nat.le_of_ble_eq_true rfl) ?_
  refine wbody Try.func27 rfl (by kernel_rfl) ?_
  rw [Try.ntmps27, Try.results27]
  simp (implicitDefEqProofs := false) (maxSteps := 1000000) only [rX1, bd, bdL, bdB, bdH, bdT, front, VLe, VLeL, BLe, Phan, TLe, HLe, ro, Blk.owned, CLe, rr, given, mrg, exct, shr, ren, renL, renB, Nat.reduceBEq, Nat.reduceBNe, rX0, ofVal, ofVals, cellsV, vStore.isTup, Blk.deg, oneV, elApp, Nat.reduceAdd, Nat.reduceSub, Nat.reduceMul, Nat.reduceLT, Nat.reduceLeDiff, Nat.reduceEqDiff, Int.reduceToNat, Int.reduceGT, Int.reduceGE, Int.reduceMul, Int.reduceLT, Int.reduceLE, Int.reduceAdd, Int.reduceSub, Int.reduceNeg, reduceCtorEq, Sf.T3, Sf.T4, Sf.T5, Sf.T26, Sf.T27, Sf.T89, Sf.T29, nmC, nmV, wrC]
  repeat' (first | (refine And.intro ?_ ?_) | intro _)
  all_goals refine congrArg VV.bool ?_
  all_goals first
    | (refine (decide_eq_false ?_).symm; unfold Named; omega)
    | (refine decide_eq_decide.2 ?_; unfold Named; omega)
    | (show decide (_ = _) = _; refine decide_eq_decide.2 ?_; unfold Named; omega)
theorem rless_ok (x y : Nm) : VCall Try.prog 31 [nmV x, nmV y] [] fun v h => v = .bool (decide (ltN x y)) ∧ h = [] := by
  refine VCall.trim 0 (Nat.le_of_ble_eq_true rfl) ?_
  refine wbody Try.func31 rfl (by kernel_rfl) ?_
  rw [Try.ntmps31, Try.results31]
  simp (implicitDefEqProofs := false) (maxSteps := 1000000) only [rX1, bd, bdL, bdB, bdH, bdT, front, VLe, VLeL, BLe, Phan, TLe, HLe, ro, Blk.owned, CLe, rr, given, mrg, exct, shr, ren, renL, renB, Nat.reduceBEq, Nat.reduceBNe, rX0, ofVal, ofVals, cellsV, vStore.isTup, Blk.deg, oneV, elApp, Nat.reduceAdd, Nat.reduceSub, Nat.reduceMul, Nat.reduceLT, Nat.reduceLeDiff, Nat.reduceEqDiff, Int.reduceToNat, Int.reduceGT, Int.reduceGE, Int.reduceMul, Int.reduceLT, Int.reduceLE, Int.reduceAdd, Int.reduceSub, Int.reduceNeg, reduceCtorEq, Sf.T3, Sf.T4, Sf.T5, Sf.T26, Sf.T27, Sf.T89, Sf.T29, nmC, nmV, wrC]
  repeat' (first | (refine And.intro ?_ ?_) | intro _)
  all_goals refine congrArg VV.bool ?_
  all_goals first
    | (refine (decide_eq_false ?_).symm; unfold ltN; omega)
    | (refine decide_eq_decide.2 ?_; unfold ltN; omega)
    | (show decide (_ = _) = _; refine decide_eq_decide.2 ?_; unfold ltN; omega)
theorem rgiven_ok (g t : Int) : VCall Try.prog 61 [.int .i64 g, .int .i64 t] [] fun v h => v = .bool (decide ((0 ≤ g ∧ g ≤ 255) ∧ (0 ≤ t ∧ t ≤ 255) ∧ bitsI .and .i64 g t = 0)) ∧ h = [] := by
  refine VCall.trim 0 (Nat.le_of_ble_eq_true rfl) ?_
  refine wbody Try.func61 rfl (by kernel_rfl) ?_
  rw [Try.ntmps61, Try.results61]
  simp (implicitDefEqProofs := false) (maxSteps := 1000000) only [rX1, bd, bdL, bdB, bdH, bdT, front, VLe, VLeL, BLe, Phan, TLe, HLe, ro, Blk.owned, CLe, rr, given, mrg, exct, shr, ren, renL, renB, Nat.reduceBEq, Nat.reduceBNe, rX0, ofVal, ofVals, cellsV, vStore.isTup, Blk.deg, oneV, elApp, Nat.reduceAdd, Nat.reduceSub, Nat.reduceMul, Nat.reduceLT, Nat.reduceLeDiff, Nat.reduceEqDiff, Int.reduceToNat, Int.reduceGT, Int.reduceGE, Int.reduceMul, Int.reduceLT, Int.reduceLE, Int.reduceAdd, Int.reduceSub, Int.reduceNeg, reduceCtorEq, Sf.T3, Sf.T4, Sf.T5, Sf.T26, Sf.T27, Sf.T89, Sf.T29, nmC, nmV, wrC]
  repeat' (first | (refine And.intro ?_ ?_) | intro _)
  all_goals refine congrArg VV.bool ?_
  all_goals first
    | (refine (decide_eq_false ?_).symm; omega)
    | (refine decide_eq_decide.2 ?_; omega)
    | (show decide (_ = _) = _; refine decide_eq_decide.2 ?_; omega)
theorem rshards_ok (g : Int) : VCall Try.prog 62 [.int .i64 g] [] fun v h => v = .bool (decide (0 < g ∧ bitsI .and .i64 g 1 = 0 ∧ g < 32)) ∧ h = [] := by
  refine VCall.trim 0 (Nat.le_of_ble_eq_true rfl) ?_
  refine wbody Try.func62 rfl (by kernel_rfl) ?_
  rw [Try.ntmps62, Try.results62]
  simp (implicitDefEqProofs := false) (maxSteps := 1000000) only [rX1, bd, bdL, bdB, bdH, bdT, front, VLe, VLeL, BLe, Phan, TLe, HLe, ro, Blk.owned, CLe, rr, given, mrg, exct, shr, ren, renL, renB, Nat.reduceBEq, Nat.reduceBNe, rX0, ofVal, ofVals, cellsV, vStore.isTup, Blk.deg, oneV, elApp, Nat.reduceAdd, Nat.reduceSub, Nat.reduceMul, Nat.reduceLT, Nat.reduceLeDiff, Nat.reduceEqDiff, Int.reduceToNat, Int.reduceGT, Int.reduceGE, Int.reduceMul, Int.reduceLT, Int.reduceLE, Int.reduceAdd, Int.reduceSub, Int.reduceNeg, reduceCtorEq, Sf.T3, Sf.T4, Sf.T5, Sf.T26, Sf.T27, Sf.T89, Sf.T29, nmC, nmV, wrC]
  repeat' (first | (refine And.intro ?_ ?_) | intro _)
  all_goals refine congrArg VV.bool ?_
  all_goals first
    | (refine (decide_eq_false ?_).symm; omega)
    | (refine decide_eq_decide.2 ?_; omega)
    | (show decide (_ = _) = _; refine decide_eq_decide.2 ?_; omega)
theorem rchanged_ok (s t : Int) : VCall Try.prog 63 [.agg [.int .i64 s, .int .i64 t]] [] fun v h => v = .bool (decide ((s = -1 ∧ t = 0) ∨ ((0 ≤ s ∧ s ≤ 7) ∧ (1 ≤ t ∧ t ≤ 4)))) ∧ h = [] := by
  refine VCall.trim 0 (Nat.le_of_ble_eq_true rfl) ?_
  refine wbody Try.func63 rfl (by kernel_rfl) ?_
  rw [Try.ntmps63, Try.results63]
  simp (implicitDefEqProofs := false) (maxSteps := 1000000) only [rX1, bd, bdL, bdB, bdH, bdT, front, VLe, VLeL, BLe, Phan, TLe, HLe, ro, Blk.owned, CLe, rr, given, mrg, exct, shr, ren, renL, renB, Nat.reduceBEq, Nat.reduceBNe, rX0, ofVal, ofVals, cellsV, vStore.isTup, Blk.deg, oneV, elApp, Nat.reduceAdd, Nat.reduceSub, Nat.reduceMul, Nat.reduceLT, Nat.reduceLeDiff, Nat.reduceEqDiff, Int.reduceToNat, Int.reduceGT, Int.reduceGE, Int.reduceMul, Int.reduceLT, Int.reduceLE, Int.reduceAdd, Int.reduceSub, Int.reduceNeg, reduceCtorEq, Sf.T3, Sf.T4, Sf.T5, Sf.T26, Sf.T27, Sf.T89, Sf.T29, nmC, nmV, wrC]
  repeat' (first | (refine And.intro ?_ ?_) | intro _)
  all_goals refine congrArg VV.bool ?_
  all_goals first
    | (refine (decide_eq_false ?_).symm; omega)
    | (refine decide_eq_decide.2 ?_; omega)
    | (show decide (_ = _) = _; refine decide_eq_decide.2 ?_; omega)
theorem rflag_ok' (b : Bool) : VCall Try.prog 59 [.bool b] [] fun v h => v = .int .u8 (fB b) ∧ h = [] := by
  cases b
  · refine VCall.trim 0 (Nat.le_of_ble_eq_true rfl) ?_
    refine wbody Try.func59 rfl (by kernel_rfl) ?_
    rw [Try.ntmps59, Try.results59]
    simp (implicitDefEqProofs := false) (maxSteps := 1000000) only [rX1, bd, bdL, bdB, bdH, bdT, front, VLe, VLeL, BLe, Phan, TLe, HLe, ro, Blk.owned, CLe, rr, given, mrg, exct, shr, ren, renL, renB, Nat.reduceBEq, Nat.reduceBNe, rX0, ofVal, ofVals, cellsV, vStore.isTup, Blk.deg, oneV, elApp, Nat.reduceAdd, Nat.reduceSub, Nat.reduceMul, Nat.reduceLT, Nat.reduceLeDiff, Nat.reduceEqDiff, Int.reduceToNat, Int.reduceGT, Int.reduceGE, Int.reduceMul, Int.reduceLT, Int.reduceLE, Int.reduceAdd, Int.reduceSub, Int.reduceNeg, reduceCtorEq, Sf.T3, Sf.T4, Sf.T5, Sf.T26, Sf.T27, Sf.T89, Sf.T29, nmC, nmV, wrC]
    rfl
  · refine VCall.trim 0 (Nat.le_of_ble_eq_true rfl) ?_
    refine wbody Try.func59 rfl (by kernel_rfl) ?_
    rw [Try.ntmps59, Try.results59]
    simp (implicitDefEqProofs := false) (maxSteps := 1000000) only [rX1, bd, bdL, bdB, bdH, bdT, front, VLe, VLeL, BLe, Phan, TLe, HLe, ro, Blk.owned, CLe, rr, given, mrg, exct, shr, ren, renL, renB, Nat.reduceBEq, Nat.reduceBNe, rX0, ofVal, ofVals, cellsV, vStore.isTup, Blk.deg, oneV, elApp, Nat.reduceAdd, Nat.reduceSub, Nat.reduceMul, Nat.reduceLT, Nat.reduceLeDiff, Nat.reduceEqDiff, Int.reduceToNat, Int.reduceGT, Int.reduceGE, Int.reduceMul, Int.reduceLT, Int.reduceLE, Int.reduceAdd, Int.reduceSub, Int.reduceNeg, reduceCtorEq, Sf.T3, Sf.T4, Sf.T5, Sf.T26, Sf.T27, Sf.T89, Sf.T29, nmC, nmV, wrC]
    rfl
theorem rsamew_ok (n m cw cu : Nat) (w u : Nat → Wr) (hn : n ≤ 1000) : VCall Try.prog 65 [.slice 0 n cw, .slice 1 m cu] [.row 9 n fun j => wrC (w j), .row 9 m fun j => wrC (u j)] fun v h => v = .bool (decide (SameW n w m u)) ∧ h = [.row 9 n fun j => wrC (w j), .row 9 m fun j => wrC (u j)] := by
  refine VCall.trim 2 (Nat.le_of_ble_eq_true rfl) ?_
  refine wbody Try.func65 rfl (by kernel_rfl) ?_
  rw [Try.ntmps65, Try.results65]
  simp (implicitDefEqProofs := false) (maxSteps := 1000000) only [rX1, bd, bdL, bdB, bdH, bdT, front, VLe, VLeL, BLe, Phan, TLe, HLe, ro, Blk.owned, CLe, rr, given, mrg, exct, shr, ren, renL, renB, Nat.reduceBEq, Nat.reduceBNe, rX0, ofVal, ofVals, cellsV, vStore.isTup, Blk.deg, oneV, elApp, Nat.reduceAdd, Nat.reduceSub, Nat.reduceMul, Nat.reduceLT, Nat.reduceLeDiff, Nat.reduceEqDiff, Int.reduceToNat, Int.reduceGT, Int.reduceGE, Int.reduceMul, Int.reduceLT, Int.reduceLE, Int.reduceAdd, Int.reduceSub, Int.reduceNeg, reduceCtorEq, Sf.T3, Sf.T4, Sf.T5, Sf.T26, Sf.T27, Sf.T89, Sf.T29, nmC, nmV, wrC]
  refine ⟨fun hne => ?_, fun heq => ?_⟩
  · exact congrArg VV.bool (decide_eq_false fun h => hne (by rw [h.1])).symm
  have e : n = m := by omega
  subst e
  refine wloop (fun k : Nat => ⟨[some (.slice 0 n cw), some (.slice 1 n cu), none, none, none, some (.int .i64 k), none, none, none, none, none, none, none, none, none, none, none, none, none, none, none, none, none, none, none, none], [.row 9 n fun j => wrC (w j), .row 9 n fun j => wrC (u j)]⟩) (fun k => k ≤ n ∧ ∀ j, j < k → wEq (w j) (u j) = true) (fun k => n - k) 0 ⟨Nat.zero_le _, fun j hj => by omega⟩ ?_ ?_
  · refine Le.off [some 0, some 1] (by rfl) (by rfl) (by simp only [rX2, bd, bdL, bdB, bdH, bdT, front, VLe, VLeL, BLe, Phan, TLe, HLe, ro, Blk.owned, CLe, rr, given, mrg, exct, shr, ren, renL, renB, Nat.reduceAdd, Nat.reduceSub, Nat.reduceLT, Nat.reduceLeDiff, Nat.reduceEqDiff, Nat.reduceBEq, Nat.reduceBNe, reduceCtorEq, nmC, nmV, wrC])
  rintro k ⟨hk, hall⟩
  have hw := wrapS k (by omega)
  have hq : eqL (wrC (w k)) (wrC (u k)) = wEq (w k) (u k) := by simp [wrC, eqL, eqV, wEq]
  simp only [wrC] at hq
  simp (implicitDefEqProofs := false) (maxSteps := 1000000) only [rX2, bd, bdL, bdB, bdH, bdT, front, VLe, VLeL, BLe, Phan, TLe, HLe, ro, Blk.owned, CLe, rr, given, mrg, exct, shr, ren, renL, renB, Nat.reduceAdd, Nat.reduceSub, Nat.reduceLT, Nat.reduceLeDiff, Nat.reduceEqDiff, Nat.reduceBEq, Nat.reduceBNe, reduceCtorEq, nmC, nmV, wrC, rX0, ofVal, ofVals, cellsV, vStore.isTup, Blk.deg, oneV, elApp, Nat.reduceAdd, Nat.reduceSub, Nat.reduceMul, Nat.reduceLT, Nat.reduceLeDiff, Nat.reduceEqDiff, Int.reduceToNat, Int.reduceGT, Int.reduceGE, Int.reduceMul, Int.reduceLT, Int.reduceLE, Int.reduceAdd, Int.reduceSub, Int.reduceNeg, reduceCtorEq, Sf.T3, Sf.T4, Sf.T5, Sf.T26, Sf.T27, Sf.T89, Sf.T29, nmC, nmV, wrC]
  refine ⟨fun hlt => ?_, fun hge => ?_⟩
  · refine wdraw (.take 0 (.take 1 (.take 4 (.take 5 (.view 2 (.view 6 (.take 3 (.one 7 (.take 8 (.done)))))))))) [.row 9 n fun j => wrC (w j), .row 9 n fun j => wrC (u j)] (by kernel_rfl) (by kernel_rfl) (by simp only [rX2, bd, bdL, bdB, bdH, bdT, front, VLe, VLeL, BLe, Phan, TLe, HLe, ro, Blk.owned, CLe, rr, given, mrg, exct, shr, ren, renL, renB, Nat.reduceAdd, Nat.reduceSub, Nat.reduceLT, Nat.reduceLeDiff, Nat.reduceEqDiff, Nat.reduceBEq, Nat.reduceBNe, reduceCtorEq, nmC, nmV, wrC, m7y, m7z, m80, m81, m83, m82]) (by simp only [rX2, bd, bdL, bdB, bdH, bdT, front, VLe, VLeL, BLe, Phan, TLe, HLe, ro, Blk.owned, CLe, rr, given, mrg, exct, shr, ren, renL, renB, Nat.reduceAdd, Nat.reduceSub, Nat.reduceLT, Nat.reduceLeDiff, Nat.reduceEqDiff, Nat.reduceBEq, Nat.reduceBNe, reduceCtorEq, nmC, nmV, wrC]) ?_
    simp (implicitDefEqProofs := false) (maxSteps := 1000000) only [hlt, hq, rX2, bd, bdL, bdB, bdH, bdT, front, VLe, VLeL, BLe, Phan, TLe, HLe, ro, Blk.owned, CLe, rr, given, mrg, exct, shr, ren, renL, renB, Nat.reduceAdd, Nat.reduceSub, Nat.reduceLT, Nat.reduceLeDiff, Nat.reduceEqDiff, Nat.reduceBEq, Nat.reduceBNe, reduceCtorEq, nmC, nmV, wrC, rX0, ofVal, ofVals, cellsV, vStore.isTup, Blk.deg, oneV, elApp, Nat.reduceAdd, Nat.reduceSub, Nat.reduceMul, Nat.reduceLT, Nat.reduceLeDiff, Nat.reduceEqDiff, Int.reduceToNat, Int.reduceGT, Int.reduceGE, Int.reduceMul, Int.reduceLT, Int.reduceLE, Int.reduceAdd, Int.reduceSub, Int.reduceNeg, reduceCtorEq, Sf.T3, Sf.T4, Sf.T5, Sf.T26, Sf.T27, Sf.T89, Sf.T29, nmC, nmV, wrC]
    refine ⟨fun h => ?_, fun h => ?_⟩
    · simp (implicitDefEqProofs := false) (maxSteps := 1000000) only [hw, rX2, bd, bdL, bdB, bdH, bdT, front, VLe, VLeL, BLe, Phan, TLe, HLe, ro, Blk.owned, CLe, rr, given, mrg, exct, shr, ren, renL, renB, Nat.reduceAdd, Nat.reduceSub, Nat.reduceLT, Nat.reduceLeDiff, Nat.reduceEqDiff, Nat.reduceBEq, Nat.reduceBNe, reduceCtorEq, nmC, nmV, wrC, rX0, ofVal, ofVals, cellsV, vStore.isTup, Blk.deg, oneV, elApp, Nat.reduceAdd, Nat.reduceSub, Nat.reduceMul, Nat.reduceLT, Nat.reduceLeDiff, Nat.reduceEqDiff, Int.reduceToNat, Int.reduceGT, Int.reduceGE, Int.reduceMul, Int.reduceLT, Int.reduceLE, Int.reduceAdd, Int.reduceSub, Int.reduceNeg, reduceCtorEq, Sf.T3, Sf.T4, Sf.T5, Sf.T26, Sf.T27, Sf.T89, Sf.T29, nmC, nmV, wrC]
      refine ⟨k + 1, ⟨by omega, fun j hj => ?_⟩, by omega, ?_⟩
      · rcases Nat.lt_or_ge j k with c | c
        · exact hall j c
        · rw [show j = k by omega]; exact h
      · refine Le.off [some 0, some 1] (by rfl) (by rfl) (by simp only [rX2, bd, bdL, bdB, bdH, bdT, front, VLe, VLeL, BLe, Phan, TLe, HLe, ro, Blk.owned, CLe, rr, given, mrg, exct, shr, ren, renL, renB, Nat.reduceAdd, Nat.reduceSub, Nat.reduceLT, Nat.reduceLeDiff, Nat.reduceEqDiff, Nat.reduceBEq, Nat.reduceBNe, reduceCtorEq, nmC, nmV, wrC])
    · simp (implicitDefEqProofs := false) (maxSteps := 1000000) only [rX2, bd, bdL, bdB, bdH, bdT, front, VLe, VLeL, BLe, Phan, TLe, HLe, ro, Blk.owned, CLe, rr, given, mrg, exct, shr, ren, renL, renB, Nat.reduceAdd, Nat.reduceSub, Nat.reduceLT, Nat.reduceLeDiff, Nat.reduceEqDiff, Nat.reduceBEq, Nat.reduceBNe, reduceCtorEq, nmC, nmV, wrC, rX0, ofVal, ofVals, cellsV, vStore.isTup, Blk.deg, oneV, elApp, Nat.reduceAdd, Nat.reduceSub, Nat.reduceMul, Nat.reduceLT, Nat.reduceLeDiff, Nat.reduceEqDiff, Int.reduceToNat, Int.reduceGT, Int.reduceGE, Int.reduceMul, Int.reduceLT, Int.reduceLE, Int.reduceAdd, Int.reduceSub, Int.reduceNeg, reduceCtorEq, Sf.T3, Sf.T4, Sf.T5, Sf.T26, Sf.T27, Sf.T89, Sf.T29, nmC, nmV, wrC]
      congr 1
      refine (decide_eq_false fun hh => ?_).symm
      have := hh.2 k hlt
      rw [h] at this; cases this
  · congr 1
    exact (decide_eq_true ⟨rfl, fun j hj => hall j (by omega)⟩).symm
end Go.Proofs.Ytnlammgemaapnaa
