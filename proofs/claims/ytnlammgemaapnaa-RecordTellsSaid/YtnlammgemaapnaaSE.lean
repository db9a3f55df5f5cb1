/- Layer 7: the document's own answers, Same, fields. -/
import Derived.Test.YtnlammgemaapnaaSD
set_option linter.unusedSimpArgs false
set_option linter.unusedVariables false
set_option maxRecDepth 100000
namespace Go.Proofs.Ytnlammgemaapnaa
open Go Go.Sx
theorem rsame_ok (a b : Rec) (ca cb : Nat) (hn : a.n ≤ 1000) : VCall Try.prog 30 [.agg (recC a (.slice 0 a.n ca)), .agg (recC b (.slice 1 b.n cb))] [.row 9 a.n fun j => wrC (a.w j), .row 9 b.n fun j => wrC (b.w j)] fun v h => v = .bool (decide (SameR a b)) ∧ h = [.row 9 a.n fun j => wrC (a.w j), .row 9 b.n fun j => wrC (b.w j)] := by
  unfold recC
  have hq1 : eqL (nmC a.nm) (nmC b.nm) = decide (a.nm = b.nm) := eqL_nm _ _
  have hq2 : eqL [.int .i64 a.st, .int .i64 a.to_] [.int .i64 b.st, .int .i64 b.to_] = decide (a.st = b.st ∧ a.to_ = b.to_) := by simp [eqL, eqV, Bool.decide_and]; rfl
  simp only [nmC] at hq1
  have no : ¬ SameR a b → VV.bool false = VV.bool (decide (SameR a b)) := fun h => by rw [decide_eq_false h]
  refine VCall.trim 2 (Nat.le_of_ble_eq_true rfl) ?_
  refine wbody Try.func30 rfl (by kernel_rfl) ?_
  rw [Try.ntmps30, Try.results30]
  simp (implicitDefEqProofs := false) (maxSteps := 1000000) only [rX1, bd, bdL, bdB, bdH, bdT, front, VLe, VLeL, BLe, Phan, TLe, HLe, ro, Blk.owned, CLe, rr, given, mrg, exct, shr, ren, renL, renB, Nat.reduceBEq, Nat.reduceBNe, rX0, ofVal, ofVals, cellsV, vStore.isTup, Blk.deg, oneV, elApp, Nat.reduceAdd, Nat.reduceSub, Nat.reduceMul, Nat.reduceLT, Nat.reduceLeDiff, Nat.reduceEqDiff, Int.reduceToNat, Int.reduceGT, Int.reduceGE, Int.reduceMul, Int.reduceLT, Int.reduceLE, Int.reduceAdd, Int.reduceSub, Int.reduceNeg, reduceCtorEq, Sf.T3, Sf.T4, Sf.T5, Sf.T26, Sf.T27, Sf.T89, Sf.T29, Sf.T31, Sf.T24, nmC, nmV, wrC, recC, rk]
  refine ⟨fun e1 => ?_, fun e => no fun h => e h.2.1⟩
  simp (implicitDefEqProofs := false) (maxSteps := 1000000) only [hq1, rX2, bd, bdL, bdB, bdH, bdT, front, VLe, VLeL, BLe, Phan, TLe, HLe, ro, Blk.owned, CLe, rr, given, mrg, exct, shr, ren, renL, renB, Nat.reduceAdd, Nat.reduceSub, Nat.reduceLT, Nat.reduceLeDiff, Nat.reduceEqDiff, Nat.reduceBEq, Nat.reduceBNe, reduceCtorEq, nmC, nmV, wrC, recC, rk, rX0, ofVal, ofVals, cellsV, vStore.isTup, Blk.deg, oneV, elApp, Nat.reduceAdd, Nat.reduceSub, Nat.reduceMul, Nat.reduceLT, Nat.reduceLeDiff, Nat.reduceEqDiff, Int.reduceToNat, Int.reduceGT, Int.reduceGE, Int.reduceMul, Int.reduceLT, Int.reduceLE, Int.reduceAdd, Int.reduceSub, Int.reduceNeg, reduceCtorEq, Sf.T3, Sf.T4, Sf.T5, Sf.T26, Sf.T27, Sf.T89, Sf.T29, Sf.T31, Sf.T24, nmC, nmV, wrC, recC, rk]
  refine ⟨fun e2 => ⟨fun e3 => ?_, fun e => no fun h => e h.2.2.2.1⟩, fun e => no fun h => e h.2.2.1⟩
  refine vframe (rsamew_ok a.n b.n ca cb a.w b.w hn) [0, 1] (by rfl) (by simp only [rX2, bd, bdL, bdB, bdH, bdT, front, VLe, VLeL, BLe, Phan, TLe, HLe, ro, Blk.owned, CLe, rr, given, mrg, exct, shr, ren, renL, renB, Nat.reduceAdd, Nat.reduceSub, Nat.reduceLT, Nat.reduceLeDiff, Nat.reduceEqDiff, Nat.reduceBEq, Nat.reduceBNe, reduceCtorEq, nmC, nmV, wrC, recC, rk]) ?_
  rintro v h ⟨rfl, rfl⟩ -
  simp (implicitDefEqProofs := false) (maxSteps := 1000000) only [hq2, rX2, bd, bdL, bdB, bdH, bdT, front, VLe, VLeL, BLe, Phan, TLe, HLe, ro, Blk.owned, CLe, rr, given, mrg, exct, shr, ren, renL, renB, Nat.reduceAdd, Nat.reduceSub, Nat.reduceLT, Nat.reduceLeDiff, Nat.reduceEqDiff, Nat.reduceBEq, Nat.reduceBNe, reduceCtorEq, nmC, nmV, wrC, recC, rk, rX0, ofVal, ofVals, cellsV, vStore.isTup, Blk.deg, oneV, elApp, Nat.reduceAdd, Nat.reduceSub, Nat.reduceMul, Nat.reduceLT, Nat.reduceLeDiff, Nat.reduceEqDiff, Int.reduceToNat, Int.reduceGT, Int.reduceGE, Int.reduceMul, Int.reduceLT, Int.reduceLE, Int.reduceAdd, Int.reduceSub, Int.reduceNeg, reduceCtorEq, Sf.T3, Sf.T4, Sf.T5, Sf.T26, Sf.T27, Sf.T89, Sf.T29, Sf.T31, Sf.T24, nmC, nmV, wrC, recC, rk]
  refine ⟨fun h1 => ⟨fun e4 => ⟨fun e5 => ⟨fun e6 => ⟨fun e7 => ?_, fun e => no fun h => e h.2.2.2.2.2.2.2.1⟩, fun e => no fun h => e h.2.2.2.2.2.2.1⟩, fun e => no fun h => e h.2.2.2.2.2.1⟩, fun e => no fun h => e h.2.2.2.2.1⟩, fun e => no fun h => e h.1⟩
  congr 1
  have : (a.num == b.num) = decide (a.num = b.num) := rfl
  rw [this]
  exact decide_eq_decide.2 ⟨fun h => ⟨h1, e1, e2, e3, e4, e5, e6, e7, h⟩, fun h => h.2.2.2.2.2.2.2.2⟩
theorem fields_1 (r : Rec) (cw : Nat) (e : r.k = 1) : VCall Try.prog 60 [.agg (recC r (.slice 0 r.n cw))] [.row 9 r.n fun j => wrC (r.w j)] fun v h => v = .agg (recC (flds r) (.slice 0 (flds r).n cw)) ∧ h = [.row 9 r.n fun j => wrC (r.w j)] := by
  rw [flds_1 r e]
  obtain ⟨k, nm, yes, n, w, give, take, shards, st, to_, num⟩ := r
  simp only [] at e
  subst e
  refine VCall.trim 1 (Nat.le_of_ble_eq_true rfl) ?_
  refine wbody Try.func60 rfl (by kernel_rfl) ?_
  rw [Try.ntmps60, Try.results60]
  simp (implicitDefEqProofs := false) (maxSteps := 1000000) only [rX1, bd, bdL, bdB, bdH, bdT, front, VLe, VLeL, BLe, Phan, TLe, HLe, ro, Blk.owned, CLe, rr, given, mrg, exct, shr, ren, renL, renB, Nat.reduceBEq, Nat.reduceBNe, rX0, ofVal, ofVals, cellsV, vStore.isTup, Blk.deg, oneV, elApp, Nat.reduceAdd, Nat.reduceSub, Nat.reduceMul, Nat.reduceLT, Nat.reduceLeDiff, Nat.reduceEqDiff, Int.reduceToNat, Int.reduceGT, Int.reduceGE, Int.reduceMul, Int.reduceLT, Int.reduceLE, Int.reduceAdd, Int.reduceSub, Int.reduceNeg, reduceCtorEq, Sf.T3, Sf.T4, Sf.T5, Sf.T26, Sf.T27, Sf.T89, Sf.T29, Sf.T31, Sf.T24, nmC, nmV, wrC, recC, rk]
theorem fields_2 (r : Rec) (cw : Nat) (e : r.k = 2) : VCall Try.prog 60 [.agg (recC r (.slice 0 r.n cw))] [.row 9 r.n fun j => wrC (r.w j)] fun v h => v = .agg (recC (flds r) (.slice 0 (flds r).n cw)) ∧ h = [.row 9 r.n fun j => wrC (r.w j)] := by
  rw [flds_2 r e]
  obtain ⟨k, nm, yes, n, w, give, take, shards, st, to_, num⟩ := r
  simp only [] at e
  subst e
  refine VCall.trim 1 (Nat.le_of_ble_eq_true rfl) ?_
  refine wbody Try.func60 rfl (by kernel_rfl) ?_
  rw [Try.ntmps60, Try.results60]
  simp (implicitDefEqProofs := false) (maxSteps := 1000000) only [rX1, bd, bdL, bdB, bdH, bdT, front, VLe, VLeL, BLe, Phan, TLe, HLe, ro, Blk.owned, CLe, rr, given, mrg, exct, shr, ren, renL, renB, Nat.reduceBEq, Nat.reduceBNe, rX0, ofVal, ofVals, cellsV, vStore.isTup, Blk.deg, oneV, elApp, Nat.reduceAdd, Nat.reduceSub, Nat.reduceMul, Nat.reduceLT, Nat.reduceLeDiff, Nat.reduceEqDiff, Int.reduceToNat, Int.reduceGT, Int.reduceGE, Int.reduceMul, Int.reduceLT, Int.reduceLE, Int.reduceAdd, Int.reduceSub, Int.reduceNeg, reduceCtorEq, Sf.T3, Sf.T4, Sf.T5, Sf.T26, Sf.T27, Sf.T89, Sf.T29, Sf.T31, Sf.T24, nmC, nmV, wrC, recC, rk]
  repeat' (first | (refine And.intro ?_ ?_) | intro _)
  all_goals omega
theorem fields_3 (r : Rec) (cw : Nat) (e : r.k = 3) : VCall Try.prog 60 [.agg (recC r (.slice 0 r.n cw))] [.row 9 r.n fun j => wrC (r.w j)] fun v h => v = .agg (recC (flds r) .nilSlice) ∧ h = [.row 9 r.n fun j => wrC (r.w j)] := by
  rw [flds_3 r e]
  obtain ⟨k, nm, yes, n, w, give, take, shards, st, to_, num⟩ := r
  simp only [] at e
  subst e
  refine VCall.trim 1 (Nat.le_of_ble_eq_true rfl) ?_
  refine wbody Try.func60 rfl (by kernel_rfl) ?_
  rw [Try.ntmps60, Try.results60]
  simp (implicitDefEqProofs := false) (maxSteps := 1000000) only [rX1, bd, bdL, bdB, bdH, bdT, front, VLe, VLeL, BLe, Phan, TLe, HLe, ro, Blk.owned, CLe, rr, given, mrg, exct, shr, ren, renL, renB, Nat.reduceBEq, Nat.reduceBNe, rX0, ofVal, ofVals, cellsV, vStore.isTup, Blk.deg, oneV, elApp, Nat.reduceAdd, Nat.reduceSub, Nat.reduceMul, Nat.reduceLT, Nat.reduceLeDiff, Nat.reduceEqDiff, Int.reduceToNat, Int.reduceGT, Int.reduceGE, Int.reduceMul, Int.reduceLT, Int.reduceLE, Int.reduceAdd, Int.reduceSub, Int.reduceNeg, reduceCtorEq, Sf.T3, Sf.T4, Sf.T5, Sf.T26, Sf.T27, Sf.T89, Sf.T29, Sf.T31, Sf.T24, nmC, nmV, wrC, recC, rk]
  repeat' (first | (refine And.intro ?_ ?_) | intro _)
  all_goals omega
theorem fields_4 (r : Rec) (cw : Nat) (e : r.k = 4) : VCall Try.prog 60 [.agg (recC r (.slice 0 r.n cw))] [.row 9 r.n fun j => wrC (r.w j)] fun v h => v = .agg (recC (flds r) .nilSlice) ∧ h = [.row 9 r.n fun j => wrC (r.w j)] := by
  rw [flds_4 r e]
  obtain ⟨k, nm, yes, n, w, give, take, shards, st, to_, num⟩ := r
  simp only [] at e
  subst e
  refine VCall.trim 1 (Nat.le_of_ble_eq_true rfl) ?_
  refine wbody Try.func60 rfl (by kernel_rfl) ?_
  rw [Try.ntmps60, Try.results60]
  simp (implicitDefEqProofs := false) (maxSteps := 1000000) only [rX1, bd, bdL, bdB, bdH, bdT, front, VLe, VLeL, BLe, Phan, TLe, HLe, ro, Blk.owned, CLe, rr, given, mrg, exct, shr, ren, renL, renB, Nat.reduceBEq, Nat.reduceBNe, rX0, ofVal, ofVals, cellsV, vStore.isTup, Blk.deg, oneV, elApp, Nat.reduceAdd, Nat.reduceSub, Nat.reduceMul, Nat.reduceLT, Nat.reduceLeDiff, Nat.reduceEqDiff, Int.reduceToNat, Int.reduceGT, Int.reduceGE, Int.reduceMul, Int.reduceLT, Int.reduceLE, Int.reduceAdd, Int.reduceSub, Int.reduceNeg, reduceCtorEq, Sf.T3, Sf.T4, Sf.T5, Sf.T26, Sf.T27, Sf.T89, Sf.T29, Sf.T31, Sf.T24, nmC, nmV, wrC, recC, rk]
  repeat' (first | (refine And.intro ?_ ?_) | intro _)
  all_goals omega
theorem fields_5 (r : Rec) (cw : Nat) (e : r.k = 5) : VCall Try.prog 60 [.agg (recC r (.slice 0 r.n cw))] [.row 9 r.n fun j => wrC (r.w j)] fun v h => v = .agg (recC (flds r) .nilSlice) ∧ h = [.row 9 r.n fun j => wrC (r.w j)] := by
  rw [flds_5 r e]
  obtain ⟨k, nm, yes, n, w, give, take, shards, st, to_, num⟩ := r
  simp only [] at e
  subst e
  refine VCall.trim 1 (Nat.le_of_ble_eq_true rfl) ?_
  refine wbody Try.func60 rfl (by kernel_rfl) ?_
  rw [Try.ntmps60, Try.results60]
  simp (implicitDefEqProofs := false) (maxSteps := 1000000) only [rX1, bd, bdL, bdB, bdH, bdT, front, VLe, VLeL, BLe, Phan, TLe, HLe, ro, Blk.owned, CLe, rr, given, mrg, exct, shr, ren, renL, renB, Nat.reduceBEq, Nat.reduceBNe, rX0, ofVal, ofVals, cellsV, vStore.isTup, Blk.deg, oneV, elApp, Nat.reduceAdd, Nat.reduceSub, Nat.reduceMul, Nat.reduceLT, Nat.reduceLeDiff, Nat.reduceEqDiff, Int.reduceToNat, Int.reduceGT, Int.reduceGE, Int.reduceMul, Int.reduceLT, Int.reduceLE, Int.reduceAdd, Int.reduceSub, Int.reduceNeg, reduceCtorEq, Sf.T3, Sf.T4, Sf.T5, Sf.T26, Sf.T27, Sf.T89, Sf.T29, Sf.T31, Sf.T24, nmC, nmV, wrC, recC, rk]
  repeat' (first | (refine And.intro ?_ ?_) | intro _)
  all_goals omega
theorem fields_6 (r : Rec) (cw : Nat) (e : r.k = 6) : VCall Try.prog 60 [.agg (recC r (.slice 0 r.n cw))] [.row 9 r.n fun j => wrC (r.w j)] fun v h => v = .agg (recC (flds r) .nilSlice) ∧ h = [.row 9 r.n fun j => wrC (r.w j)] := by
  rw [flds_6 r e]
  obtain ⟨k, nm, yes, n, w, give, take, shards, st, to_, num⟩ := r
  simp only [] at e
  subst e
  refine VCall.trim 1 (Nat.le_of_ble_eq_true rfl) ?_
  refine wbody Try.func60 rfl (by kernel_rfl) ?_
  rw [Try.ntmps60, Try.results60]
  simp (implicitDefEqProofs := false) (maxSteps := 1000000) only [rX1, bd, bdL, bdB, bdH, bdT, front, VLe, VLeL, BLe, Phan, TLe, HLe, ro, Blk.owned, CLe, rr, given, mrg, exct, shr, ren, renL, renB, Nat.reduceBEq, Nat.reduceBNe, rX0, ofVal, ofVals, cellsV, vStore.isTup, Blk.deg, oneV, elApp, Nat.reduceAdd, Nat.reduceSub, Nat.reduceMul, Nat.reduceLT, Nat.reduceLeDiff, Nat.reduceEqDiff, Int.reduceToNat, Int.reduceGT, Int.reduceGE, Int.reduceMul, Int.reduceLT, Int.reduceLE, Int.reduceAdd, Int.reduceSub, Int.reduceNeg, reduceCtorEq, Sf.T3, Sf.T4, Sf.T5, Sf.T26, Sf.T27, Sf.T89, Sf.T29, Sf.T31, Sf.T24, nmC, nmV, wrC, recC, rk]
  repeat' (first | (refine And.intro ?_ ?_) | intro _)
  all_goals omega
theorem fields_7 (r : Rec) (cw : Nat) (e : r.k = 7) : VCall Try.prog 60 [.agg (recC r (.slice 0 r.n cw))] [.row 9 r.n fun j => wrC (r.w j)] fun v h => v = .agg (recC (flds r) .nilSlice) ∧ h = [.row 9 r.n fun j => wrC (r.w j)] := by
  rw [flds_7 r e]
  obtain ⟨k, nm, yes, n, w, give, take, shards, st, to_, num⟩ := r
  simp only [] at e
  subst e
  refine VCall.trim 1 (Nat.le_of_ble_eq_true rfl) ?_
  refine wbody Try.func60 rfl (by kernel_rfl) ?_
  rw [Try.ntmps60, Try.results60]
  simp (implicitDefEqProofs := false) (maxSteps := 1000000) only [rX1, bd, bdL, bdB, bdH, bdT, front, VLe, VLeL, BLe, Phan, TLe, HLe, ro, Blk.owned, CLe, rr, given, mrg, exct, shr, ren, renL, renB, Nat.reduceBEq, Nat.reduceBNe, rX0, ofVal, ofVals, cellsV, vStore.isTup, Blk.deg, oneV, elApp, Nat.reduceAdd, Nat.reduceSub, Nat.reduceMul, Nat.reduceLT, Nat.reduceLeDiff, Nat.reduceEqDiff, Int.reduceToNat, Int.reduceGT, Int.reduceGE, Int.reduceMul, Int.reduceLT, Int.reduceLE, Int.reduceAdd, Int.reduceSub, Int.reduceNeg, reduceCtorEq, Sf.T3, Sf.T4, Sf.T5, Sf.T26, Sf.T27, Sf.T89, Sf.T29, Sf.T31, Sf.T24, nmC, nmV, wrC, recC, rk]
  repeat' (first | (refine And.intro ?_ ?_) | intro _)
  all_goals omega
end Go.Proofs.Ytnlammgemaapnaa
