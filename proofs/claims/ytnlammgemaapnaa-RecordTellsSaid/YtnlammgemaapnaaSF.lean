/- Layer 7: the document's own answers, May. -/
import Derived.Test.YtnlammgemaapnaaSE
set_option linter.unusedSimpArgs false
set_option linter.unusedVariables false
set_option maxRecDepth 100000
namespace Go.Proofs.Ytnlammgemaapnaa
open Go Go.Sx
theorem rsame_self (a b : Rec) (ca cb : Nat) (hn : a.n ≤ 1000) (x : Bool) (h : decide (SameR a b) = x) : VCall Try.prog 30 [.agg (recC a (.slice 0 a.n ca)), .agg (recC b (.slice 1 b.n cb))] [.row 9 a.n fun j => wrC (a.w j), .row 9 b.n fun j => wrC (b.w j)] fun v h => v = .bool x ∧ h = [.row 9 a.n fun j => wrC (a.w j), .row 9 b.n fun j => wrC (b.w j)] := by
  have := rsame_ok a b ca cb hn
  rw [h] at this; exact this
/-- A kind without writes. -/
theorem rmay_w (r F : Rec) (cw : Nat) (hn : r.n ≤ 1000) (hk : 3 ≤ r.k ∧ r.k ≤ 7) (hFl : flds r = F) (hF : F.n = 0) (hF2 : F.give = 0 ∧ F.take = 0)
    (hf : VCall Try.prog 60 [.agg (recC r (.slice 0 r.n cw))] [.row 9 r.n fun j => wrC (r.w j)] fun v h => v = .agg (recC F .nilSlice) ∧ h = [.row 9 r.n fun j => wrC (r.w j)]) :
    VCall Try.prog 25 [.agg (recC r (.slice 0 r.n cw))] [.row 9 r.n fun j => wrC (r.w j)] fun v h => v = .bool (decide (MayR r)) ∧ h = [.row 9 r.n fun j => wrC (r.w j)] := by
  have hs := rsame_ok r F cw 0 hn
  rw [hF] at hs
  unfold recC at hf hs ⊢
  refine VCall.trim 1 (Nat.le_of_ble_eq_true rfl) ?_
  refine wbody Try.func25 rfl (by kernel_rfl) ?_
  rw [Try.ntmps25, Try.results25]
  simp (implicitDefEqProofs := false) (maxSteps := 1000000) only [rX1, bd, bdL, bdB, bdH, bdT, front, VLe, VLeL, BLe, Phan, TLe, HLe, ro, Blk.owned, CLe, rr, given, mrg, exct, shr, ren, renL, renB, Nat.reduceBEq, Nat.reduceBNe, rX0, ofVal, ofVals, cellsV, vStore.isTup, Blk.deg, oneV, elApp, Nat.reduceAdd, Nat.reduceSub, Nat.reduceMul, Nat.reduceLT, Nat.reduceLeDiff, Nat.reduceEqDiff, Int.reduceToNat, Int.reduceGT, Int.reduceGE, Int.reduceMul, Int.reduceLT, Int.reduceLE, Int.reduceAdd, Int.reduceSub, Int.reduceNeg, reduceCtorEq, Sf.T3, Sf.T4, Sf.T5, Sf.T26, Sf.T27, Sf.T89, Sf.T29, Sf.T31, Sf.T24, nmC, nmV, wrC, recC, rk]
  have k1 : ¬ r.k < 1 := by omega
  have k2 : ¬ r.k > 7 := by omega
  refine wdraw (.view 0 (.one 1 (.take 2 (.take 3 (.view 4 (.one 5 (.take 6 (.take 7 (.take 8 (.take 9 (.one 10 (.one 11 (.one 12 (.take 13 (.take 14 (.done)))))))))))))))) [.gone, .cells true 31 (recC r (.slice 0 r.n cw))] (by kernel_rfl) (by kernel_rfl) (by simp only [rX2, bd, bdL, bdB, bdH, bdT, front, VLe, VLeL, BLe, Phan, TLe, HLe, ro, Blk.owned, CLe, rr, given, mrg, exct, shr, ren, renL, renB, Nat.reduceAdd, Nat.reduceSub, Nat.reduceLT, Nat.reduceLeDiff, Nat.reduceEqDiff, Nat.reduceBEq, Nat.reduceBNe, reduceCtorEq, nmC, nmV, wrC, recC, rk, m7y, m7z, m80, m81, m83, m82]) (by simp only [rX2, bd, bdL, bdB, bdH, bdT, front, VLe, VLeL, BLe, Phan, TLe, HLe, ro, Blk.owned, CLe, rr, given, mrg, exct, shr, ren, renL, renB, Nat.reduceAdd, Nat.reduceSub, Nat.reduceLT, Nat.reduceLeDiff, Nat.reduceEqDiff, Nat.reduceBEq, Nat.reduceBNe, reduceCtorEq, nmC, nmV, wrC, recC, rk]) ?_
  simp (implicitDefEqProofs := false) (maxSteps := 1000000) only [k1, k2, rX2, bd, bdL, bdB, bdH, bdT, front, VLe, VLeL, BLe, Phan, TLe, HLe, ro, Blk.owned, CLe, rr, given, mrg, exct, shr, ren, renL, renB, Nat.reduceAdd, Nat.reduceSub, Nat.reduceLT, Nat.reduceLeDiff, Nat.reduceEqDiff, Nat.reduceBEq, Nat.reduceBNe, reduceCtorEq, nmC, nmV, wrC, recC, rk, rX0, ofVal, ofVals, cellsV, vStore.isTup, Blk.deg, oneV, elApp, Nat.reduceAdd, Nat.reduceSub, Nat.reduceMul, Nat.reduceLT, Nat.reduceLeDiff, Nat.reduceEqDiff, Int.reduceToNat, Int.reduceGT, Int.reduceGE, Int.reduceMul, Int.reduceLT, Int.reduceLE, Int.reduceAdd, Int.reduceSub, Int.reduceNeg, reduceCtorEq, Sf.T3, Sf.T4, Sf.T5, Sf.T26, Sf.T27, Sf.T89, Sf.T29, Sf.T31, Sf.T24, nmC, nmV, wrC, recC, rk]
  refine vframe (hf) [0] (by rfl) (by simp only [rX2, bd, bdL, bdB, bdH, bdT, front, VLe, VLeL, BLe, Phan, TLe, HLe, ro, Blk.owned, CLe, rr, given, mrg, exct, shr, ren, renL, renB, Nat.reduceAdd, Nat.reduceSub, Nat.reduceLT, Nat.reduceLeDiff, Nat.reduceEqDiff, Nat.reduceBEq, Nat.reduceBNe, reduceCtorEq, nmC, nmV, wrC, recC, rk]) ?_
  rintro v h ⟨rfl, rfl⟩ -
  simp (implicitDefEqProofs := false) (maxSteps := 1000000) only [rX2, bd, bdL, bdB, bdH, bdT, front, VLe, VLeL, BLe, Phan, TLe, HLe, ro, Blk.owned, CLe, rr, given, mrg, exct, shr, ren, renL, renB, Nat.reduceAdd, Nat.reduceSub, Nat.reduceLT, Nat.reduceLeDiff, Nat.reduceEqDiff, Nat.reduceBEq, Nat.reduceBNe, reduceCtorEq, nmC, nmV, wrC, recC, rk, rX0, ofVal, ofVals, cellsV, vStore.isTup, Blk.deg, oneV, elApp, Nat.reduceAdd, Nat.reduceSub, Nat.reduceMul, Nat.reduceLT, Nat.reduceLeDiff, Nat.reduceEqDiff, Int.reduceToNat, Int.reduceGT, Int.reduceGE, Int.reduceMul, Int.reduceLT, Int.reduceLE, Int.reduceAdd, Int.reduceSub, Int.reduceNeg, reduceCtorEq, Sf.T3, Sf.T4, Sf.T5, Sf.T26, Sf.T27, Sf.T89, Sf.T29, Sf.T31, Sf.T24, nmC, nmV, wrC, recC, rk]
  refine VC.le [.agg (recC r (.slice 0 r.n cw)), .agg (recC F (.slice 2 0 0))] [.row 9 r.n fun j => wrC (r.w j), .cells true 31 (recC r (.slice 0 r.n cw)), .row 9 0 fun j => wrC (F.w j)] (Le.off [some 0, some 1, none] (by rfl) (by rfl) (by simp only [rX2, bd, bdL, bdB, bdH, bdT, front, VLe, VLeL, BLe, Phan, TLe, HLe, ro, Blk.owned, CLe, rr, given, mrg, exct, shr, ren, renL, renB, Nat.reduceAdd, Nat.reduceSub, Nat.reduceLT, Nat.reduceLeDiff, Nat.reduceEqDiff, Nat.reduceBEq, Nat.reduceBNe, reduceCtorEq, nmC, nmV, wrC, recC, rk])) ?_
  refine vframe (hs) [0, 2] (by rfl) (by simp only [rX2, bd, bdL, bdB, bdH, bdT, front, VLe, VLeL, BLe, Phan, TLe, HLe, ro, Blk.owned, CLe, rr, given, mrg, exct, shr, ren, renL, renB, Nat.reduceAdd, Nat.reduceSub, Nat.reduceLT, Nat.reduceLeDiff, Nat.reduceEqDiff, Nat.reduceBEq, Nat.reduceBNe, reduceCtorEq, nmC, nmV, wrC, recC, rk]) ?_
  rintro v h ⟨rfl, rfl⟩ -
  simp (implicitDefEqProofs := false) (maxSteps := 1000000) only [rX2, bd, bdL, bdB, bdH, bdT, front, VLe, VLeL, BLe, Phan, TLe, HLe, ro, Blk.owned, CLe, rr, given, mrg, exct, shr, ren, renL, renB, Nat.reduceAdd, Nat.reduceSub, Nat.reduceLT, Nat.reduceLeDiff, Nat.reduceEqDiff, Nat.reduceBEq, Nat.reduceBNe, reduceCtorEq, nmC, nmV, wrC, recC, rk, rX0, ofVal, ofVals, cellsV, vStore.isTup, Blk.deg, oneV, elApp, Nat.reduceAdd, Nat.reduceSub, Nat.reduceMul, Nat.reduceLT, Nat.reduceLeDiff, Nat.reduceEqDiff, Int.reduceToNat, Int.reduceGT, Int.reduceGE, Int.reduceMul, Int.reduceLT, Int.reduceLE, Int.reduceAdd, Int.reduceSub, Int.reduceNeg, reduceCtorEq, Sf.T3, Sf.T4, Sf.T5, Sf.T26, Sf.T27, Sf.T89, Sf.T29, Sf.T31, Sf.T24, nmC, nmV, wrC, recC, rk]
  have yes : ∀ {b : Bool} {Q : Prop} [Decidable Q], SameR r F → (Such r ↔ Q) → VV.bool (decide Q) = VV.bool (decide (MayR r)) := fun {b} {Q} _ hS hq => congrArg VV.bool (decide_eq_decide.2 (by unfold MayR; rw [hFl]; exact ⟨fun h => ⟨hq.2 h, hS⟩, fun h => hq.1 h.1⟩))
  have no : ¬ Such r → VV.bool false = VV.bool (decide (MayR r)) := fun h => congrArg VV.bool (decide_eq_false fun hm => h hm.1).symm
  refine ⟨fun hS => ⟨fun h6 => ⟨fun h1 => ?_, fun h1 => no ?_⟩, fun h6 => ⟨fun h7 => ⟨fun h1 => ?_, fun h1 => no ?_⟩, fun h7 => ?_⟩⟩, fun hS => ?_⟩
  · exact yes (b := true) hS (by rw [such_6 r h6]; omega)
  · rw [such_6 r h6]; omega
  · exact yes (b := true) hS (by rw [such_7 r h7]; omega)
  · rw [such_7 r h7]; omega
  · have hn0 : r.n = 0 := hS.1.1.trans hF
    have hwr : decide (Written r.n r.w) = true := decide_eq_true ⟨fun j hj => by omega, by omega⟩
    have hg0 : r.give = 0 := hS.2.2.2.2.1.trans hF2.1
    have ht0 : r.take = 0 := hS.2.2.2.2.2.1.trans hF2.2
    have hgv : decide ((0 ≤ r.give ∧ r.give ≤ 255) ∧ (0 ≤ r.take ∧ r.take ≤ 255) ∧ bitsI .and .i64 r.give r.take = 0) = true := decide_eq_true (by rw [hg0, ht0]; exact ⟨by omega, by omega, by decide⟩)
    have c1 := rwritten_ok r.n cw r.w hn
    rw [hwr] at c1
    have c2 := rgiven_ok r.give r.take
    rw [hgv] at c2
    refine vframe (rnamed_ok r.nm) [] (by rfl) (by simp only [rX2, bd, bdL, bdB, bdH, bdT, front, VLe, VLeL, BLe, Phan, TLe, HLe, ro, Blk.owned, CLe, rr, given, mrg, exct, shr, ren, renL, renB, Nat.reduceAdd, Nat.reduceSub, Nat.reduceLT, Nat.reduceLeDiff, Nat.reduceEqDiff, Nat.reduceBEq, Nat.reduceBNe, reduceCtorEq, nmC, nmV, wrC, recC, rk]) ?_
    rintro v h ⟨rfl, rfl⟩ -
    simp (implicitDefEqProofs := false) (maxSteps := 1000000) only [rX2, bd, bdL, bdB, bdH, bdT, front, VLe, VLeL, BLe, Phan, TLe, HLe, ro, Blk.owned, CLe, rr, given, mrg, exct, shr, ren, renL, renB, Nat.reduceAdd, Nat.reduceSub, Nat.reduceLT, Nat.reduceLeDiff, Nat.reduceEqDiff, Nat.reduceBEq, Nat.reduceBNe, reduceCtorEq, nmC, nmV, wrC, recC, rk, rX0, ofVal, ofVals, cellsV, vStore.isTup, Blk.deg, oneV, elApp, Nat.reduceAdd, Nat.reduceSub, Nat.reduceMul, Nat.reduceLT, Nat.reduceLeDiff, Nat.reduceEqDiff, Int.reduceToNat, Int.reduceGT, Int.reduceGE, Int.reduceMul, Int.reduceLT, Int.reduceLE, Int.reduceAdd, Int.reduceSub, Int.reduceNeg, reduceCtorEq, Sf.T3, Sf.T4, Sf.T5, Sf.T26, Sf.T27, Sf.T89, Sf.T29, Sf.T31, Sf.T24, nmC, nmV, wrC, recC, rk]
    refine ⟨fun hN => ?_, fun hN => no ?_⟩
    · refine vframe (c1) [0] (by rfl) (by simp only [rX2, bd, bdL, bdB, bdH, bdT, front, VLe, VLeL, BLe, Phan, TLe, HLe, ro, Blk.owned, CLe, rr, given, mrg, exct, shr, ren, renL, renB, Nat.reduceAdd, Nat.reduceSub, Nat.reduceLT, Nat.reduceLeDiff, Nat.reduceEqDiff, Nat.reduceBEq, Nat.reduceBNe, reduceCtorEq, nmC, nmV, wrC, recC, rk]) ?_
      rintro v h ⟨rfl, rfl⟩ -
      simp (implicitDefEqProofs := false) (maxSteps := 1000000) only [rX2, bd, bdL, bdB, bdH, bdT, front, VLe, VLeL, BLe, Phan, TLe, HLe, ro, Blk.owned, CLe, rr, given, mrg, exct, shr, ren, renL, renB, Nat.reduceAdd, Nat.reduceSub, Nat.reduceLT, Nat.reduceLeDiff, Nat.reduceEqDiff, Nat.reduceBEq, Nat.reduceBNe, reduceCtorEq, nmC, nmV, wrC, recC, rk, rX0, ofVal, ofVals, cellsV, vStore.isTup, Blk.deg, oneV, elApp, Nat.reduceAdd, Nat.reduceSub, Nat.reduceMul, Nat.reduceLT, Nat.reduceLeDiff, Nat.reduceEqDiff, Int.reduceToNat, Int.reduceGT, Int.reduceGE, Int.reduceMul, Int.reduceLT, Int.reduceLE, Int.reduceAdd, Int.reduceSub, Int.reduceNeg, reduceCtorEq, Sf.T3, Sf.T4, Sf.T5, Sf.T26, Sf.T27, Sf.T89, Sf.T29, Sf.T31, Sf.T24, nmC, nmV, wrC, recC, rk]
      refine vframe (c2) [] (by rfl) (by simp only [rX2, bd, bdL, bdB, bdH, bdT, front, VLe, VLeL, BLe, Phan, TLe, HLe, ro, Blk.owned, CLe, rr, given, mrg, exct, shr, ren, renL, renB, Nat.reduceAdd, Nat.reduceSub, Nat.reduceLT, Nat.reduceLeDiff, Nat.reduceEqDiff, Nat.reduceBEq, Nat.reduceBNe, reduceCtorEq, nmC, nmV, wrC, recC, rk]) ?_
      rintro v h ⟨rfl, rfl⟩ -
      simp (implicitDefEqProofs := false) (maxSteps := 1000000) only [rX2, bd, bdL, bdB, bdH, bdT, front, VLe, VLeL, BLe, Phan, TLe, HLe, ro, Blk.owned, CLe, rr, given, mrg, exct, shr, ren, renL, renB, Nat.reduceAdd, Nat.reduceSub, Nat.reduceLT, Nat.reduceLeDiff, Nat.reduceEqDiff, Nat.reduceBEq, Nat.reduceBNe, reduceCtorEq, nmC, nmV, wrC, recC, rk, rX0, ofVal, ofVals, cellsV, vStore.isTup, Blk.deg, oneV, elApp, Nat.reduceAdd, Nat.reduceSub, Nat.reduceMul, Nat.reduceLT, Nat.reduceLeDiff, Nat.reduceEqDiff, Int.reduceToNat, Int.reduceGT, Int.reduceGE, Int.reduceMul, Int.reduceLT, Int.reduceLE, Int.reduceAdd, Int.reduceSub, Int.reduceNeg, reduceCtorEq, Sf.T3, Sf.T4, Sf.T5, Sf.T26, Sf.T27, Sf.T89, Sf.T29, Sf.T31, Sf.T24, nmC, nmV, wrC, recC, rk]
      refine ⟨fun h4 => ?_, fun h4 => ?_⟩
      · refine (congrArg VV.bool (decide_eq_true trivial).symm).trans (yes (b := true) (Q := True) hS ?_)
        have hc : r.k = 3 ∨ r.k = 5 := by omega
        rcases hc with e | e
        · rw [such_3 r e]; exact ⟨fun _ => trivial, fun _ => ⟨hN, trivial⟩⟩
        · rw [such_5 r e]; exact ⟨fun _ => trivial, fun _ => ⟨hN, trivial⟩⟩
      · refine vframe (rshards_ok r.shards) [] (by rfl) (by simp only [rX2, bd, bdL, bdB, bdH, bdT, front, VLe, VLeL, BLe, Phan, TLe, HLe, ro, Blk.owned, CLe, rr, given, mrg, exct, shr, ren, renL, renB, Nat.reduceAdd, Nat.reduceSub, Nat.reduceLT, Nat.reduceLeDiff, Nat.reduceEqDiff, Nat.reduceBEq, Nat.reduceBNe, reduceCtorEq, nmC, nmV, wrC, recC, rk]) ?_
        rintro v h ⟨rfl, rfl⟩ -
        simp (implicitDefEqProofs := false) (maxSteps := 1000000) only [rX2, bd, bdL, bdB, bdH, bdT, front, VLe, VLeL, BLe, Phan, TLe, HLe, ro, Blk.owned, CLe, rr, given, mrg, exct, shr, ren, renL, renB, Nat.reduceAdd, Nat.reduceSub, Nat.reduceLT, Nat.reduceLeDiff, Nat.reduceEqDiff, Nat.reduceBEq, Nat.reduceBNe, reduceCtorEq, nmC, nmV, wrC, recC, rk, rX0, ofVal, ofVals, cellsV, vStore.isTup, Blk.deg, oneV, elApp, Nat.reduceAdd, Nat.reduceSub, Nat.reduceMul, Nat.reduceLT, Nat.reduceLeDiff, Nat.reduceEqDiff, Int.reduceToNat, Int.reduceGT, Int.reduceGE, Int.reduceMul, Int.reduceLT, Int.reduceLE, Int.reduceAdd, Int.reduceSub, Int.reduceNeg, reduceCtorEq, Sf.T3, Sf.T4, Sf.T5, Sf.T26, Sf.T27, Sf.T89, Sf.T29, Sf.T31, Sf.T24, nmC, nmV, wrC, recC, rk]
        refine ⟨fun hsh => ?_, fun hsh => no fun hs' => ?_⟩
        · refine vframe (rchanged_ok r.st r.to_) [] (by rfl) (by simp only [rX2, bd, bdL, bdB, bdH, bdT, front, VLe, VLeL, BLe, Phan, TLe, HLe, ro, Blk.owned, CLe, rr, given, mrg, exct, shr, ren, renL, renB, Nat.reduceAdd, Nat.reduceSub, Nat.reduceLT, Nat.reduceLeDiff, Nat.reduceEqDiff, Nat.reduceBEq, Nat.reduceBNe, reduceCtorEq, nmC, nmV, wrC, recC, rk]) ?_
          rintro v h ⟨rfl, rfl⟩ -
          simp (implicitDefEqProofs := false) (maxSteps := 1000000) only [rX2, bd, bdL, bdB, bdH, bdT, front, VLe, VLeL, BLe, Phan, TLe, HLe, ro, Blk.owned, CLe, rr, given, mrg, exct, shr, ren, renL, renB, Nat.reduceAdd, Nat.reduceSub, Nat.reduceLT, Nat.reduceLeDiff, Nat.reduceEqDiff, Nat.reduceBEq, Nat.reduceBNe, reduceCtorEq, nmC, nmV, wrC, recC, rk, rX0, ofVal, ofVals, cellsV, vStore.isTup, Blk.deg, oneV, elApp, Nat.reduceAdd, Nat.reduceSub, Nat.reduceMul, Nat.reduceLT, Nat.reduceLeDiff, Nat.reduceEqDiff, Int.reduceToNat, Int.reduceGT, Int.reduceGE, Int.reduceMul, Int.reduceLT, Int.reduceLE, Int.reduceAdd, Int.reduceSub, Int.reduceNeg, reduceCtorEq, Sf.T3, Sf.T4, Sf.T5, Sf.T26, Sf.T27, Sf.T89, Sf.T29, Sf.T31, Sf.T24, nmC, nmV, wrC, recC, rk]
          exact yes (b := true) hS (by rw [such_4 r h4]; exact ⟨fun x => x.2.2, fun x => ⟨hN, hsh, x⟩⟩)
        · rw [such_4 r h4] at hs'; exact hsh hs'.2.1
    · intro hs'
      have hc : r.k = 3 ∨ r.k = 4 ∨ r.k = 5 := by omega
      rcases hc with e | e | e
      · rw [such_3 r e] at hs'; exact hN hs'.1
      · rw [such_4 r e] at hs'; exact hN hs'.1
      · rw [such_5 r e] at hs'; exact hN hs'.1
  · exact congrArg VV.bool (decide_eq_false fun hm => hS (by have := hm.2; rw [hFl] at this; exact this)).symm
/-- A kind with writes. -/
theorem rmay_v (r F : Rec) (cw : Nat) (hn : r.n ≤ 1000) (hk : 1 ≤ r.k ∧ r.k ≤ 2) (hFl : flds r = F) (hF : F.n = r.n ∧ F.w = r.w) (hF2 : r.k = 1 → F.give = 0 ∧ F.take = 0)
    (hf : VCall Try.prog 60 [.agg (recC r (.slice 0 r.n cw))] [.row 9 r.n fun j => wrC (r.w j)] fun v h => v = .agg (recC F (.slice 0 F.n cw)) ∧ h = [.row 9 r.n fun j => wrC (r.w j)]) :
    VCall Try.prog 25 [.agg (recC r (.slice 0 r.n cw))] [.row 9 r.n fun j => wrC (r.w j)] fun v h => v = .bool (decide (MayR r)) ∧ h = [.row 9 r.n fun j => wrC (r.w j)] := by
  have hs := rsame_ok r F cw cw hn
  rw [hF.1, hF.2] at hs
  rw [hF.1] at hf
  unfold recC at hf hs ⊢
  refine VCall.trim 1 (Nat.le_of_ble_eq_true rfl) ?_
  refine wbody Try.func25 rfl (by kernel_rfl) ?_
  rw [Try.ntmps25, Try.results25]
  simp (implicitDefEqProofs := false) (maxSteps := 1000000) only [rX1, bd, bdL, bdB, bdH, bdT, front, VLe, VLeL, BLe, Phan, TLe, HLe, ro, Blk.owned, CLe, rr, given, mrg, exct, shr, ren, renL, renB, Nat.reduceBEq, Nat.reduceBNe, rX0, ofVal, ofVals, cellsV, vStore.isTup, Blk.deg, oneV, elApp, Nat.reduceAdd, Nat.reduceSub, Nat.reduceMul, Nat.reduceLT, Nat.reduceLeDiff, Nat.reduceEqDiff, Int.reduceToNat, Int.reduceGT, Int.reduceGE, Int.reduceMul, Int.reduceLT, Int.reduceLE, Int.reduceAdd, Int.reduceSub, Int.reduceNeg, reduceCtorEq, Sf.T3, Sf.T4, Sf.T5, Sf.T26, Sf.T27, Sf.T89, Sf.T29, Sf.T31, Sf.T24, nmC, nmV, wrC, recC, rk]
  have k1 : ¬ r.k < 1 := by omega
  have k2 : ¬ r.k > 7 := by omega
  refine wdraw (.view 0 (.one 1 (.take 2 (.take 3 (.view 4 (.one 5 (.take 6 (.take 7 (.take 8 (.take 9 (.one 10 (.one 11 (.one 12 (.take 13 (.take 14 (.done)))))))))))))))) [.gone, .cells true 31 (recC r (.slice 0 r.n cw))] (by kernel_rfl) (by kernel_rfl) (by simp only [rX2, bd, bdL, bdB, bdH, bdT, front, VLe, VLeL, BLe, Phan, TLe, HLe, ro, Blk.owned, CLe, rr, given, mrg, exct, shr, ren, renL, renB, Nat.reduceAdd, Nat.reduceSub, Nat.reduceLT, Nat.reduceLeDiff, Nat.reduceEqDiff, Nat.reduceBEq, Nat.reduceBNe, reduceCtorEq, nmC, nmV, wrC, recC, rk, m7y, m7z, m80, m81, m83, m82]) (by simp only [rX2, bd, bdL, bdB, bdH, bdT, front, VLe, VLeL, BLe, Phan, TLe, HLe, ro, Blk.owned, CLe, rr, given, mrg, exct, shr, ren, renL, renB, Nat.reduceAdd, Nat.reduceSub, Nat.reduceLT, Nat.reduceLeDiff, Nat.reduceEqDiff, Nat.reduceBEq, Nat.reduceBNe, reduceCtorEq, nmC, nmV, wrC, recC, rk]) ?_
  simp (implicitDefEqProofs := false) (maxSteps := 1000000) only [k1, k2, rX2, bd, bdL, bdB, bdH, bdT, front, VLe, VLeL, BLe, Phan, TLe, HLe, ro, Blk.owned, CLe, rr, given, mrg, exct, shr, ren, renL, renB, Nat.reduceAdd, Nat.reduceSub, Nat.reduceLT, Nat.reduceLeDiff, Nat.reduceEqDiff, Nat.reduceBEq, Nat.reduceBNe, reduceCtorEq, nmC, nmV, wrC, recC, rk, rX0, ofVal, ofVals, cellsV, vStore.isTup, Blk.deg, oneV, elApp, Nat.reduceAdd, Nat.reduceSub, Nat.reduceMul, Nat.reduceLT, Nat.reduceLeDiff, Nat.reduceEqDiff, Int.reduceToNat, Int.reduceGT, Int.reduceGE, Int.reduceMul, Int.reduceLT, Int.reduceLE, Int.reduceAdd, Int.reduceSub, Int.reduceNeg, reduceCtorEq, Sf.T3, Sf.T4, Sf.T5, Sf.T26, Sf.T27, Sf.T89, Sf.T29, Sf.T31, Sf.T24, nmC, nmV, wrC, recC, rk]
  refine vframe (hf) [0] (by rfl) (by simp only [rX2, bd, bdL, bdB, bdH, bdT, front, VLe, VLeL, BLe, Phan, TLe, HLe, ro, Blk.owned, CLe, rr, given, mrg, exct, shr, ren, renL, renB, Nat.reduceAdd, Nat.reduceSub, Nat.reduceLT, Nat.reduceLeDiff, Nat.reduceEqDiff, Nat.reduceBEq, Nat.reduceBNe, reduceCtorEq, nmC, nmV, wrC, recC, rk]) ?_
  rintro v h ⟨rfl, rfl⟩ -
  simp (implicitDefEqProofs := false) (maxSteps := 1000000) only [rX2, bd, bdL, bdB, bdH, bdT, front, VLe, VLeL, BLe, Phan, TLe, HLe, ro, Blk.owned, CLe, rr, given, mrg, exct, shr, ren, renL, renB, Nat.reduceAdd, Nat.reduceSub, Nat.reduceLT, Nat.reduceLeDiff, Nat.reduceEqDiff, Nat.reduceBEq, Nat.reduceBNe, reduceCtorEq, nmC, nmV, wrC, recC, rk, rX0, ofVal, ofVals, cellsV, vStore.isTup, Blk.deg, oneV, elApp, Nat.reduceAdd, Nat.reduceSub, Nat.reduceMul, Nat.reduceLT, Nat.reduceLeDiff, Nat.reduceEqDiff, Int.reduceToNat, Int.reduceGT, Int.reduceGE, Int.reduceMul, Int.reduceLT, Int.reduceLE, Int.reduceAdd, Int.reduceSub, Int.reduceNeg, reduceCtorEq, Sf.T3, Sf.T4, Sf.T5, Sf.T26, Sf.T27, Sf.T89, Sf.T29, Sf.T31, Sf.T24, nmC, nmV, wrC, recC, rk]
  refine vframe (hs) [0, 0] (by rfl) (by simp only [rX2, bd, bdL, bdB, bdH, bdT, front, VLe, VLeL, BLe, Phan, TLe, HLe, ro, Blk.owned, CLe, rr, given, mrg, exct, shr, ren, renL, renB, Nat.reduceAdd, Nat.reduceSub, Nat.reduceLT, Nat.reduceLeDiff, Nat.reduceEqDiff, Nat.reduceBEq, Nat.reduceBNe, reduceCtorEq, nmC, nmV, wrC, recC, rk]) ?_
  rintro v h ⟨rfl, rfl⟩ -
  simp (implicitDefEqProofs := false) (maxSteps := 1000000) only [rX2, bd, bdL, bdB, bdH, bdT, front, VLe, VLeL, BLe, Phan, TLe, HLe, ro, Blk.owned, CLe, rr, given, mrg, exct, shr, ren, renL, renB, Nat.reduceAdd, Nat.reduceSub, Nat.reduceLT, Nat.reduceLeDiff, Nat.reduceEqDiff, Nat.reduceBEq, Nat.reduceBNe, reduceCtorEq, nmC, nmV, wrC, recC, rk, rX0, ofVal, ofVals, cellsV, vStore.isTup, Blk.deg, oneV, elApp, Nat.reduceAdd, Nat.reduceSub, Nat.reduceMul, Nat.reduceLT, Nat.reduceLeDiff, Nat.reduceEqDiff, Int.reduceToNat, Int.reduceGT, Int.reduceGE, Int.reduceMul, Int.reduceLT, Int.reduceLE, Int.reduceAdd, Int.reduceSub, Int.reduceNeg, reduceCtorEq, Sf.T3, Sf.T4, Sf.T5, Sf.T26, Sf.T27, Sf.T89, Sf.T29, Sf.T31, Sf.T24, nmC, nmV, wrC, recC, rk]
  have yes : ∀ {Q : Prop} [Decidable Q], SameR r F → (Such r ↔ Q) → VV.bool (decide Q) = VV.bool (decide (MayR r)) := fun {Q} _ hS hq => congrArg VV.bool (decide_eq_decide.2 (by unfold MayR; rw [hFl]; exact ⟨fun h => ⟨hq.2 h, hS⟩, fun h => hq.1 h.1⟩))
  have no : ¬ Such r → VV.bool false = VV.bool (decide (MayR r)) := fun h => congrArg VV.bool (decide_eq_false fun hm => h hm.1).symm
  have hc : r.k = 1 ∨ r.k = 2 := by omega
  refine ⟨fun hS => ⟨fun h6 => absurd h6 (by omega), fun h6 => ⟨fun h7 => absurd h7 (by omega), fun h7 => ?_⟩⟩, fun hS => ?_⟩
  · refine vframe (rnamed_ok r.nm) [] (by rfl) (by simp only [rX2, bd, bdL, bdB, bdH, bdT, front, VLe, VLeL, BLe, Phan, TLe, HLe, ro, Blk.owned, CLe, rr, given, mrg, exct, shr, ren, renL, renB, Nat.reduceAdd, Nat.reduceSub, Nat.reduceLT, Nat.reduceLeDiff, Nat.reduceEqDiff, Nat.reduceBEq, Nat.reduceBNe, reduceCtorEq, nmC, nmV, wrC, recC, rk]) ?_
    rintro v h ⟨rfl, rfl⟩ -
    simp (implicitDefEqProofs := false) (maxSteps := 1000000) only [rX2, bd, bdL, bdB, bdH, bdT, front, VLe, VLeL, BLe, Phan, TLe, HLe, ro, Blk.owned, CLe, rr, given, mrg, exct, shr, ren, renL, renB, Nat.reduceAdd, Nat.reduceSub, Nat.reduceLT, Nat.reduceLeDiff, Nat.reduceEqDiff, Nat.reduceBEq, Nat.reduceBNe, reduceCtorEq, nmC, nmV, wrC, recC, rk, rX0, ofVal, ofVals, cellsV, vStore.isTup, Blk.deg, oneV, elApp, Nat.reduceAdd, Nat.reduceSub, Nat.reduceMul, Nat.reduceLT, Nat.reduceLeDiff, Nat.reduceEqDiff, Int.reduceToNat, Int.reduceGT, Int.reduceGE, Int.reduceMul, Int.reduceLT, Int.reduceLE, Int.reduceAdd, Int.reduceSub, Int.reduceNeg, reduceCtorEq, Sf.T3, Sf.T4, Sf.T5, Sf.T26, Sf.T27, Sf.T89, Sf.T29, Sf.T31, Sf.T24, nmC, nmV, wrC, recC, rk]
    refine ⟨fun hN => ?_, fun hN => no fun hs' => ?_⟩
    · refine vframe (rwritten_ok r.n cw r.w hn) [0] (by rfl) (by simp only [rX2, bd, bdL, bdB, bdH, bdT, front, VLe, VLeL, BLe, Phan, TLe, HLe, ro, Blk.owned, CLe, rr, given, mrg, exct, shr, ren, renL, renB, Nat.reduceAdd, Nat.reduceSub, Nat.reduceLT, Nat.reduceLeDiff, Nat.reduceEqDiff, Nat.reduceBEq, Nat.reduceBNe, reduceCtorEq, nmC, nmV, wrC, recC, rk]) ?_
      rintro v h ⟨rfl, rfl⟩ -
      simp (implicitDefEqProofs := false) (maxSteps := 1000000) only [rX2, bd, bdL, bdB, bdH, bdT, front, VLe, VLeL, BLe, Phan, TLe, HLe, ro, Blk.owned, CLe, rr, given, mrg, exct, shr, ren, renL, renB, Nat.reduceAdd, Nat.reduceSub, Nat.reduceLT, Nat.reduceLeDiff, Nat.reduceEqDiff, Nat.reduceBEq, Nat.reduceBNe, reduceCtorEq, nmC, nmV, wrC, recC, rk, rX0, ofVal, ofVals, cellsV, vStore.isTup, Blk.deg, oneV, elApp, Nat.reduceAdd, Nat.reduceSub, Nat.reduceMul, Nat.reduceLT, Nat.reduceLeDiff, Nat.reduceEqDiff, Int.reduceToNat, Int.reduceGT, Int.reduceGE, Int.reduceMul, Int.reduceLT, Int.reduceLE, Int.reduceAdd, Int.reduceSub, Int.reduceNeg, reduceCtorEq, Sf.T3, Sf.T4, Sf.T5, Sf.T26, Sf.T27, Sf.T89, Sf.T29, Sf.T31, Sf.T24, nmC, nmV, wrC, recC, rk]
      refine ⟨fun hW => ?_, fun hW => no fun hs' => ?_⟩
      · refine vframe (rgiven_ok r.give r.take) [] (by rfl) (by simp only [rX2, bd, bdL, bdB, bdH, bdT, front, VLe, VLeL, BLe, Phan, TLe, HLe, ro, Blk.owned, CLe, rr, given, mrg, exct, shr, ren, renL, renB, Nat.reduceAdd, Nat.reduceSub, Nat.reduceLT, Nat.reduceLeDiff, Nat.reduceEqDiff, Nat.reduceBEq, Nat.reduceBNe, reduceCtorEq, nmC, nmV, wrC, recC, rk]) ?_
        rintro v h ⟨rfl, rfl⟩ -
        simp (implicitDefEqProofs := false) (maxSteps := 1000000) only [rX2, bd, bdL, bdB, bdH, bdT, front, VLe, VLeL, BLe, Phan, TLe, HLe, ro, Blk.owned, CLe, rr, given, mrg, exct, shr, ren, renL, renB, Nat.reduceAdd, Nat.reduceSub, Nat.reduceLT, Nat.reduceLeDiff, Nat.reduceEqDiff, Nat.reduceBEq, Nat.reduceBNe, reduceCtorEq, nmC, nmV, wrC, recC, rk, rX0, ofVal, ofVals, cellsV, vStore.isTup, Blk.deg, oneV, elApp, Nat.reduceAdd, Nat.reduceSub, Nat.reduceMul, Nat.reduceLT, Nat.reduceLeDiff, Nat.reduceEqDiff, Int.reduceToNat, Int.reduceGT, Int.reduceGE, Int.reduceMul, Int.reduceLT, Int.reduceLE, Int.reduceAdd, Int.reduceSub, Int.reduceNeg, reduceCtorEq, Sf.T3, Sf.T4, Sf.T5, Sf.T26, Sf.T27, Sf.T89, Sf.T29, Sf.T31, Sf.T24, nmC, nmV, wrC, recC, rk]
        refine ⟨fun hG => ?_, fun hG => no fun hs' => ?_⟩
        · refine ⟨fun h4 => ?_, fun h4 => absurd h4 (by omega)⟩
          refine (congrArg VV.bool (decide_eq_true trivial).symm).trans (yes (Q := True) hS ?_)
          rcases hc with e | e
          · rw [such_1 r e]; exact ⟨fun _ => trivial, fun _ => ⟨hN, hW⟩⟩
          · rw [such_2 r e]; exact ⟨fun _ => trivial, fun _ => ⟨hN, hW, hG⟩⟩
        · rcases hc with e | e
          · have hg0 : r.give = 0 := hS.2.2.2.2.1.trans (hF2 e).1
            have ht0 : r.take = 0 := hS.2.2.2.2.2.1.trans (hF2 e).2
            exact hG (by rw [hg0, ht0]; exact ⟨by omega, by omega, by decide⟩)
          · rw [such_2 r e] at hs'; exact hG hs'.2.2
      · rcases hc with e | e
        · rw [such_1 r e] at hs'; exact hW hs'.2
        · rw [such_2 r e] at hs'; exact hW hs'.2.1
    · rcases hc with e | e
      · rw [such_1 r e] at hs'; exact hN hs'.1
      · rw [such_2 r e] at hs'; exact hN hs'.1
  · exact congrArg VV.bool (decide_eq_false fun hm => hS (by have := hm.2; rw [hFl] at this; exact this)).symm
theorem rmay_none (r : Rec) (cw : Nat) (hk : r.k < 1 ∨ 7 < r.k) :
    VCall Try.prog 25 [.agg (recC r (.slice 0 r.n cw))] [.row 9 r.n fun j => wrC (r.w j)] fun v h => v = .bool (decide (MayR r)) ∧ h = [.row 9 r.n fun j => wrC (r.w j)] := by
  have no : VV.bool false = VV.bool (decide (MayR r)) := congrArg VV.bool (decide_eq_false fun hm => by
    have hs' := hm.1
    unfold Such at hs'
    rw [if_neg (by omega), if_neg (by omega), if_neg (by omega), if_neg (by omega), if_neg (by omega), if_neg (by omega), if_neg (by omega)] at hs'
    exact hs').symm
  unfold recC
  refine VCall.trim 1 (Nat.le_of_ble_eq_true rfl) ?_
  refine wbody Try.func25 rfl (by kernel_rfl) ?_
  rw [Try.ntmps25, Try.results25]
  simp (implicitDefEqProofs := false) (maxSteps := 1000000) only [rX1, bd, bdL, bdB, bdH, bdT, front, VLe, VLeL, BLe, Phan, TLe, HLe, ro, Blk.owned, CLe, rr, given, mrg, exct, shr, ren, renL, renB, Nat.reduceBEq, Nat.reduceBNe, rX0, ofVal, ofVals, cellsV, vStore.isTup, Blk.deg, oneV, elApp, Nat.reduceAdd, Nat.reduceSub, Nat.reduceMul, Nat.reduceLT, Nat.reduceLeDiff, Nat.reduceEqDiff, Int.reduceToNat, Int.reduceGT, Int.reduceGE, Int.reduceMul, Int.reduceLT, Int.reduceLE, Int.reduceAdd, Int.reduceSub, Int.reduceNeg, reduceCtorEq, Sf.T3, Sf.T4, Sf.T5, Sf.T26, Sf.T27, Sf.T89, Sf.T29, Sf.T31, Sf.T24, nmC, nmV, wrC, recC, rk]
  rcases hk with k1 | k2
  · refine wdraw (.view 0 (.one 1 (.take 2 (.take 3 (.view 4 (.one 5 (.take 6 (.take 7 (.take 8 (.take 9 (.one 10 (.one 11 (.one 12 (.take 13 (.take 14 (.done)))))))))))))))) [.gone, .cells true 31 (recC r (.slice 0 r.n cw))] (by kernel_rfl) (by kernel_rfl) (by simp only [rX2, bd, bdL, bdB, bdH, bdT, front, VLe, VLeL, BLe, Phan, TLe, HLe, ro, Blk.owned, CLe, rr, given, mrg, exct, shr, ren, renL, renB, Nat.reduceAdd, Nat.reduceSub, Nat.reduceLT, Nat.reduceLeDiff, Nat.reduceEqDiff, Nat.reduceBEq, Nat.reduceBNe, reduceCtorEq, nmC, nmV, wrC, recC, rk, m7y, m7z, m80, m81, m83, m82]) (by simp only [rX2, bd, bdL, bdB, bdH, bdT, front, VLe, VLeL, BLe, Phan, TLe, HLe, ro, Blk.owned, CLe, rr, given, mrg, exct, shr, ren, renL, renB, Nat.reduceAdd, Nat.reduceSub, Nat.reduceLT, Nat.reduceLeDiff, Nat.reduceEqDiff, Nat.reduceBEq, Nat.reduceBNe, reduceCtorEq, nmC, nmV, wrC, recC, rk]) ?_
    simp (implicitDefEqProofs := false) (maxSteps := 1000000) only [k1, rX2, bd, bdL, bdB, bdH, bdT, front, VLe, VLeL, BLe, Phan, TLe, HLe, ro, Blk.owned, CLe, rr, given, mrg, exct, shr, ren, renL, renB, Nat.reduceAdd, Nat.reduceSub, Nat.reduceLT, Nat.reduceLeDiff, Nat.reduceEqDiff, Nat.reduceBEq, Nat.reduceBNe, reduceCtorEq, nmC, nmV, wrC, recC, rk, rX0, ofVal, ofVals, cellsV, vStore.isTup, Blk.deg, oneV, elApp, Nat.reduceAdd, Nat.reduceSub, Nat.reduceMul, Nat.reduceLT, Nat.reduceLeDiff, Nat.reduceEqDiff, Int.reduceToNat, Int.reduceGT, Int.reduceGE, Int.reduceMul, Int.reduceLT, Int.reduceLE, Int.reduceAdd, Int.reduceSub, Int.reduceNeg, reduceCtorEq, Sf.T3, Sf.T4, Sf.T5, Sf.T26, Sf.T27, Sf.T89, Sf.T29, Sf.T31, Sf.T24, nmC, nmV, wrC, recC, rk]
    exact no
  · have k1 : ¬ r.k < 1 := by omega
    have k3 : r.k > 7 := k2
    refine wdraw (.view 0 (.one 1 (.take 2 (.take 3 (.view 4 (.one 5 (.take 6 (.take 7 (.take 8 (.take 9 (.one 10 (.one 11 (.one 12 (.take 13 (.take 14 (.done)))))))))))))))) [.gone, .cells true 31 (recC r (.slice 0 r.n cw))] (by kernel_rfl) (by kernel_rfl) (by simp only [rX2, bd, bdL, bdB, bdH, bdT, front, VLe, VLeL, BLe, Phan, TLe, HLe, ro, Blk.owned, CLe, rr, given, mrg, exct, shr, ren, renL, renB, Nat.reduceAdd, Nat.reduceSub, Nat.reduceLT, Nat.reduceLeDiff, Nat.reduceEqDiff, Nat.reduceBEq, Nat.reduceBNe, reduceCtorEq, nmC, nmV, wrC, recC, rk, m7y, m7z, m80, m81, m83, m82]) (by simp only [rX2, bd, bdL, bdB, bdH, bdT, front, VLe, VLeL, BLe, Phan, TLe, HLe, ro, Blk.owned, CLe, rr, given, mrg, exct, shr, ren, renL, renB, Nat.reduceAdd, Nat.reduceSub, Nat.reduceLT, Nat.reduceLeDiff, Nat.reduceEqDiff, Nat.reduceBEq, Nat.reduceBNe, reduceCtorEq, nmC, nmV, wrC, recC, rk]) ?_
    simp (implicitDefEqProofs := false) (maxSteps := 1000000) only [k1, k3, rX2, bd, bdL, bdB, bdH, bdT, front, VLe, VLeL, BLe, Phan, TLe, HLe, ro, Blk.owned, CLe, rr, given, mrg, exct, shr, ren, renL, renB, Nat.reduceAdd, Nat.reduceSub, Nat.reduceLT, Nat.reduceLeDiff, Nat.reduceEqDiff, Nat.reduceBEq, Nat.reduceBNe, reduceCtorEq, nmC, nmV, wrC, recC, rk, rX0, ofVal, ofVals, cellsV, vStore.isTup, Blk.deg, oneV, elApp, Nat.reduceAdd, Nat.reduceSub, Nat.reduceMul, Nat.reduceLT, Nat.reduceLeDiff, Nat.reduceEqDiff, Int.reduceToNat, Int.reduceGT, Int.reduceGE, Int.reduceMul, Int.reduceLT, Int.reduceLE, Int.reduceAdd, Int.reduceSub, Int.reduceNeg, reduceCtorEq, Sf.T3, Sf.T4, Sf.T5, Sf.T26, Sf.T27, Sf.T89, Sf.T29, Sf.T31, Sf.T24, nmC, nmV, wrC, recC, rk]
    exact no
theorem rmay_ok (r : Rec) (cw : Nat) (hn : r.n ≤ 1000) :
    VCall Try.prog 25 [.agg (recC r (.slice 0 r.n cw))] [.row 9 r.n fun j => wrC (r.w j)] fun v h => v = .bool (decide (MayR r)) ∧ h = [.row 9 r.n fun j => wrC (r.w j)] := by
  by_cases h0 : r.k < 1 ∨ 7 < r.k
  · exact rmay_none r cw h0
  have hc : r.k = 1 ∨ r.k = 2 ∨ r.k = 3 ∨ r.k = 4 ∨ r.k = 5 ∨ r.k = 6 ∨ r.k = 7 := by omega
  rcases hc with e | e | e | e | e | e | e
  · exact rmay_v r (flds r) cw hn (by omega) rfl (by rw [flds_1 r e]; exact ⟨rfl, rfl⟩) (fun _ => by rw [flds_1 r e]; exact ⟨rfl, rfl⟩) (fields_1 r cw e)
  · exact rmay_v r (flds r) cw hn (by omega) rfl (by rw [flds_2 r e]; exact ⟨rfl, rfl⟩) (fun h => by omega) (fields_2 r cw e)
  · exact rmay_w r (flds r) cw hn (by omega) rfl (by rw [flds_3 r e]; rfl) (by rw [flds_3 r e]; exact ⟨rfl, rfl⟩) (fields_3 r cw e)
  · exact rmay_w r (flds r) cw hn (by omega) rfl (by rw [flds_4 r e]; rfl) (by rw [flds_4 r e]; exact ⟨rfl, rfl⟩) (fields_4 r cw e)
  · exact rmay_w r (flds r) cw hn (by omega) rfl (by rw [flds_5 r e]; rfl) (by rw [flds_5 r e]; exact ⟨rfl, rfl⟩) (fields_5 r cw e)
  · exact rmay_w r (flds r) cw hn (by omega) rfl (by rw [flds_6 r e]; rfl) (by rw [flds_6 r e]; exact ⟨rfl, rfl⟩) (fields_6 r cw e)
  · exact rmay_w r (flds r) cw hn (by omega) rfl (by rw [flds_7 r e]; rfl) (by rw [flds_7 r e]; exact ⟨rfl, rfl⟩) (fields_7 r cw e)
end Go.Proofs.Ytnlammgemaapnaa
