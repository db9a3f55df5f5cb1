/- Layer 7: the document's own answers, Written. -/
import Derived.Test.YtnlammgemaapnaaSC
set_option linter.unusedSimpArgs false
set_option linter.unusedVariables false
set_option maxRecDepth 100000
namespace Go.Proofs.Ytnlammgemaapnaa
open Go Go.Sx
theorem rwritten_ok (n cw : Nat) (w : Nat → Wr) (hn : n ≤ 1000) : VCall Try.prog 29 [.slice 0 n cw] [.row 9 n fun j => wrC (w j)] fun v h => v = .bool (decide (Written n w)) ∧ h = [.row 9 n fun j => wrC (w j)] := by
  refine VCall.trim 1 (Nat.le_of_ble_eq_true rfl) ?_
  refine wbody Try.func29 rfl (by kernel_rfl) ?_
  rw [Try.ntmps29, Try.results29]
  simp (implicitDefEqProofs := false) (maxSteps := 1000000) only [rX1, bd, bdL, bdB, bdH, bdT, front, VLe, VLeL, BLe, Phan, TLe, HLe, ro, Blk.owned, CLe, rr, given, mrg, exct, shr, ren, renL, renB, Nat.reduceBEq, Nat.reduceBNe, rX0, ofVal, ofVals, cellsV, vStore.isTup, Blk.deg, oneV, elApp, Nat.reduceAdd, Nat.reduceSub, Nat.reduceMul, Nat.reduceLT, Nat.reduceLeDiff, Nat.reduceEqDiff, Int.reduceToNat, Int.reduceGT, Int.reduceGE, Int.reduceMul, Int.reduceLT, Int.reduceLE, Int.reduceAdd, Int.reduceSub, Int.reduceNeg, reduceCtorEq, Sf.T3, Sf.T4, Sf.T5, Sf.T26, Sf.T27, Sf.T89, Sf.T29, nmC, nmV, wrC]
  refine ⟨fun h8 => ?_, fun h8 => ?_⟩
  · exact congrArg VV.bool (decide_eq_false fun h => by have := h.2; omega).symm
  refine wloop (fun k : Nat => ⟨[some (.slice 0 n cw), none, none, some (.int .i64 k), none, none, none, none, none, none, none, none, none, none, none, none, none, none, none, none, none, none, none, none, none, none, none, none, none, none, none, none, none, none, none, none, none, none, none, none, none, none, none, none, none], [.row 9 n fun j => wrC (w j)]⟩) (fun k => k ≤ n ∧ ∀ j, j < k → prev w j < (w j).b ∧ (w j).b < 32) (fun k => n - k) 0 ⟨Nat.zero_le _, fun j hj => by omega⟩ ?_ ?_
  · refine Le.off [some 0] (by rfl) (by rfl) (by simp only [rX2, bd, bdL, bdB, bdH, bdT, front, VLe, VLeL, BLe, Phan, TLe, HLe, ro, Blk.owned, CLe, rr, given, mrg, exct, shr, ren, renL, renB, Nat.reduceAdd, Nat.reduceSub, Nat.reduceLT, Nat.reduceLeDiff, Nat.reduceEqDiff, Nat.reduceBEq, Nat.reduceBNe, reduceCtorEq, nmC, nmV, wrC])
  rintro k ⟨hk, hall⟩
  have hw := wrapS k (by omega)
  simp (implicitDefEqProofs := false) (maxSteps := 1000000) only [rX2, bd, bdL, bdB, bdH, bdT, front, VLe, VLeL, BLe, Phan, TLe, HLe, ro, Blk.owned, CLe, rr, given, mrg, exct, shr, ren, renL, renB, Nat.reduceAdd, Nat.reduceSub, Nat.reduceLT, Nat.reduceLeDiff, Nat.reduceEqDiff, Nat.reduceBEq, Nat.reduceBNe, reduceCtorEq, nmC, nmV, wrC, rX0, ofVal, ofVals, cellsV, vStore.isTup, Blk.deg, oneV, elApp, Nat.reduceAdd, Nat.reduceSub, Nat.reduceMul, Nat.reduceLT, Nat.reduceLeDiff, Nat.reduceEqDiff, Int.reduceToNat, Int.reduceGT, Int.reduceGE, Int.reduceMul, Int.reduceLT, Int.reduceLE, Int.reduceAdd, Int.reduceSub, Int.reduceNeg, reduceCtorEq, Sf.T3, Sf.T4, Sf.T5, Sf.T26, Sf.T27, Sf.T89, Sf.T29, nmC, nmV, wrC]
  refine ⟨fun hlt => ?_, fun hge => ?_⟩
  · have no : ¬ (prev w k < (w k).b ∧ (w k).b < 32) → VV.bool false = VV.bool (decide (Written n w)) := fun h => congrArg VV.bool (decide_eq_false fun hh => h (hh.1 k hlt)).symm
    rcases Nat.eq_zero_or_pos k with h0 | h0
    · subst h0
      refine wdraw (.take 0 (.take 1 (.view 2 (.view 3 (.one 4 (.take 5 (.take 6 (.take 7 (.take 8 (.view 9 (.view 10 (.one 11 (.take 12 (.take 13 (.take 14 (.take 15 (.take 16 (.take 17 (.take 18 (.take 19 (.take 23 (.take 24 (.take 25 (.view 20 (.view 21 (.view 26 (.view 27 (.take 22 (.one 28 (.take 29 (.take 30 (.take 31 (.done))))))))))))))))))))))))))))))))) [.row 9 n fun j => wrC (w j)] (by kernel_rfl) (by kernel_rfl) (by simp only [rX2, bd, bdL, bdB, bdH, bdT, front, VLe, VLeL, BLe, Phan, TLe, HLe, ro, Blk.owned, CLe, rr, given, mrg, exct, shr, ren, renL, renB, Nat.reduceAdd, Nat.reduceSub, Nat.reduceLT, Nat.reduceLeDiff, Nat.reduceEqDiff, Nat.reduceBEq, Nat.reduceBNe, reduceCtorEq, nmC, nmV, wrC, m7y, m7z, m80, m81, m83, m82]) (by simp only [rX2, bd, bdL, bdB, bdH, bdT, front, VLe, VLeL, BLe, Phan, TLe, HLe, ro, Blk.owned, CLe, rr, given, mrg, exct, shr, ren, renL, renB, Nat.reduceAdd, Nat.reduceSub, Nat.reduceLT, Nat.reduceLeDiff, Nat.reduceEqDiff, Nat.reduceBEq, Nat.reduceBNe, reduceCtorEq, nmC, nmV, wrC]) ?_
      simp (implicitDefEqProofs := false) (maxSteps := 1000000) only [hlt, Int.natCast_zero, rX2, bd, bdL, bdB, bdH, bdT, front, VLe, VLeL, BLe, Phan, TLe, HLe, ro, Blk.owned, CLe, rr, given, mrg, exct, shr, ren, renL, renB, Nat.reduceAdd, Nat.reduceSub, Nat.reduceLT, Nat.reduceLeDiff, Nat.reduceEqDiff, Nat.reduceBEq, Nat.reduceBNe, reduceCtorEq, nmC, nmV, wrC, rX0, ofVal, ofVals, cellsV, vStore.isTup, Blk.deg, oneV, elApp, Nat.reduceAdd, Nat.reduceSub, Nat.reduceMul, Nat.reduceLT, Nat.reduceLeDiff, Nat.reduceEqDiff, Int.reduceToNat, Int.reduceGT, Int.reduceGE, Int.reduceMul, Int.reduceLT, Int.reduceLE, Int.reduceAdd, Int.reduceSub, Int.reduceNeg, reduceCtorEq, Sf.T3, Sf.T4, Sf.T5, Sf.T26, Sf.T27, Sf.T89, Sf.T29, nmC, nmV, wrC]
      refine ⟨by omega, fun h => no (fun hh => by have := hh.1; simp only [prev] at this; omega), fun h1 => ⟨by omega, fun h => no (fun hh => by have := hh.2; omega), fun h2 => ⟨1, ⟨by omega, fun j hj => ?_⟩, by omega, ?_⟩⟩⟩
      · have : j = 0 := by omega
        subst this; simp only [prev]; omega
      · refine Le.off [some 0] (by rfl) (by rfl) (by simp only [show ((1 : Nat) : Int) = 1 from rfl, rX2, bd, bdL, bdB, bdH, bdT, front, VLe, VLeL, BLe, Phan, TLe, HLe, ro, Blk.owned, CLe, rr, given, mrg, exct, shr, ren, renL, renB, Nat.reduceAdd, Nat.reduceSub, Nat.reduceLT, Nat.reduceLeDiff, Nat.reduceEqDiff, Nat.reduceBEq, Nat.reduceBNe, reduceCtorEq, nmC, nmV, wrC]; skip)
    · have hp := wrapP k (by omega) h0
      have hlt1 : k - 1 < n := by omega
      have hpos : (k : Int) > 0 := by omega
      refine wdraw (.take 0 (.take 1 (.view 2 (.view 3 (.one 4 (.take 5 (.take 6 (.take 7 (.take 8 (.view 9 (.view 10 (.one 11 (.take 12 (.take 13 (.take 14 (.take 15 (.take 16 (.take 17 (.take 18 (.take 19 (.take 23 (.take 24 (.take 25 (.view 20 (.view 21 (.view 26 (.view 27 (.take 22 (.one 28 (.take 29 (.take 30 (.take 31 (.done))))))))))))))))))))))))))))))))) [.row 9 n fun j => wrC (w j)] (by kernel_rfl) (by kernel_rfl) (by simp only [rX2, bd, bdL, bdB, bdH, bdT, front, VLe, VLeL, BLe, Phan, TLe, HLe, ro, Blk.owned, CLe, rr, given, mrg, exct, shr, ren, renL, renB, Nat.reduceAdd, Nat.reduceSub, Nat.reduceLT, Nat.reduceLeDiff, Nat.reduceEqDiff, Nat.reduceBEq, Nat.reduceBNe, reduceCtorEq, nmC, nmV, wrC, m7y, m7z, m80, m81, m83, m82]) (by simp only [rX2, bd, bdL, bdB, bdH, bdT, front, VLe, VLeL, BLe, Phan, TLe, HLe, ro, Blk.owned, CLe, rr, given, mrg, exct, shr, ren, renL, renB, Nat.reduceAdd, Nat.reduceSub, Nat.reduceLT, Nat.reduceLeDiff, Nat.reduceEqDiff, Nat.reduceBEq, Nat.reduceBNe, reduceCtorEq, nmC, nmV, wrC]) ?_
      simp (implicitDefEqProofs := false) (maxSteps := 1000000) only [hlt, hp, hlt1, hpos, rX2, bd, bdL, bdB, bdH, bdT, front, VLe, VLeL, BLe, Phan, TLe, HLe, ro, Blk.owned, CLe, rr, given, mrg, exct, shr, ren, renL, renB, Nat.reduceAdd, Nat.reduceSub, Nat.reduceLT, Nat.reduceLeDiff, Nat.reduceEqDiff, Nat.reduceBEq, Nat.reduceBNe, reduceCtorEq, nmC, nmV, wrC, rX0, ofVal, ofVals, cellsV, vStore.isTup, Blk.deg, oneV, elApp, Nat.reduceAdd, Nat.reduceSub, Nat.reduceMul, Nat.reduceLT, Nat.reduceLeDiff, Nat.reduceEqDiff, Int.reduceToNat, Int.reduceGT, Int.reduceGE, Int.reduceMul, Int.reduceLT, Int.reduceLE, Int.reduceAdd, Int.reduceSub, Int.reduceNeg, reduceCtorEq, Sf.T3, Sf.T4, Sf.T5, Sf.T26, Sf.T27, Sf.T89, Sf.T29, nmC, nmV, wrC]
      have hpv : prev w k = (w (k - 1)).b := by
        obtain ⟨i, rfl⟩ : ∃ i, k = i + 1 := ⟨k - 1, by omega⟩
        rfl
      have hb := (written_b (n := k) (w := w) ⟨hall, by omega⟩ (k - 1) (by omega)).1
      refine ⟨fun h => no (fun hh => by have := hh.1; omega), fun h1 => ⟨fun h => no (fun hh => by have := hh.2; omega), fun h2 => ⟨fun h => no (fun hh => by have := hh.1; omega), fun h3 => ⟨k + 1, ⟨by omega, fun j hj => ?_⟩, by omega, ?_⟩⟩⟩⟩
      · rcases Nat.lt_or_ge j k with c | c
        · exact hall j c
        · rw [show j = k by omega]; omega
      · simp only [hw]
        refine Le.off [some 0] (by rfl) (by rfl) (by simp only [rX2, bd, bdL, bdB, bdH, bdT, front, VLe, VLeL, BLe, Phan, TLe, HLe, ro, Blk.owned, CLe, rr, given, mrg, exct, shr, ren, renL, renB, Nat.reduceAdd, Nat.reduceSub, Nat.reduceLT, Nat.reduceLeDiff, Nat.reduceEqDiff, Nat.reduceBEq, Nat.reduceBNe, reduceCtorEq, nmC, nmV, wrC])
  · exact congrArg VV.bool (decide_eq_true (show Written n w from ⟨fun j hj => hall j (by omega), by omega⟩)).symm
end Go.Proofs.Ytnlammgemaapnaa
