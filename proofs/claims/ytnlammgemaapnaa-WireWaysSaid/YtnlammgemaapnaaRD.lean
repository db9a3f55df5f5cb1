/- Layer 7: writes and records held against each other; rising writes. -/
import Derived.Test.YtnlammgemaapnaaRC
set_option linter.unusedSimpArgs false
set_option linter.unusedVariables false
set_option maxRecDepth 100000
namespace Go.Proofs.Ytnlammgemaapnaa
open Go Go.Sx
/-- The same block, with the same bytes. -/
def wEq (x y : Wr) : Bool := x.b == y.b && (x.v 0 == y.v 0 && (x.v 1 == y.v 1 && (x.v 2 == y.v 2 && (x.v 3 == y.v 3 && (x.v 4 == y.v 4 && (x.v 5 == y.v 5 && (x.v 6 == y.v 6 && x.v 7 == y.v 7)))))))
def SameW (n : Nat) (w : Nat → Wr) (m : Nat) (u : Nat → Wr) : Prop := n = m ∧ ∀ j, j < n → wEq (w j) (u j) = true
instance (n : Nat) (w : Nat → Wr) (m : Nat) (u : Nat → Wr) : Decidable (SameW n w m u) := by unfold SameW; infer_instance
theorem equalw_ok (n m cw cu : Nat) (w u : Nat → Wr) (hn : n ≤ 1000) : VCall Try.prog 52 [.slice 0 n cw, .slice 1 m cu] [.row 9 n fun j => wrC (w j), .row 9 m fun j => wrC (u j)] fun v h => v = .bool (decide (SameW n w m u)) ∧ h = [.row 9 n fun j => wrC (w j), .row 9 m fun j => wrC (u j)] := by
  refine VCall.trim 2 (Nat.le_of_ble_eq_true rfl) ?_
  refine wbody Try.func52 rfl (by kernel_rfl) ?_
  rw [Try.ntmps52, Try.results52]
  simp (implicitDefEqProofs := false) (maxSteps := 1000000) only [rX1, bd, bdL, bdB, bdH, bdT, front, VLe, VLeL, BLe, Phan, TLe, HLe, ro, Blk.owned, CLe, rr, given, mrg, exct, shr, ren, renL, renB, Nat.reduceBEq, Nat.reduceBNe, rX0, ofVal, ofVals, cellsV, vStore.isTup, Blk.deg, oneV, elApp, Nat.reduceAdd, Nat.reduceSub, Nat.reduceMul, Nat.reduceLT, Nat.reduceLeDiff, Nat.reduceEqDiff, Int.reduceToNat, Int.reduceGT, Int.reduceGE, Int.reduceMul, Int.reduceLT, Int.reduceLE, Int.reduceAdd, Int.reduceSub, Int.reduceNeg, reduceCtorEq, Sf.T3, Sf.T4, Sf.T24, Sf.T26, Sf.T27, Sf.T89, Sf.T29, Sf.T31, nmC, nmV, wrC]
  refine ⟨fun hne => ?_, fun heq => ?_⟩
  · congr 1; exact (decide_eq_false fun h => hne (by rw [h.1])).symm
  · have e : n = m := by omega
    subst e
    refine wloop (fun k : Nat => ⟨[some (.slice 0 n cw), some (.slice 1 n cu), none, none, none, none, none, none, none, none, none, none, some (.int .i64 n), some (.int .i64 k), none, none, none, none, none, none, none, none, none, none, none, none], [.row 9 n fun j => wrC (w j), .row 9 n fun j => wrC (u j)]⟩) (fun k => k ≤ n ∧ ∀ j, j < k → wEq (w j) (u j) = true) (fun k => n - k) 0 ⟨Nat.zero_le _, fun j hj => by omega⟩ ?_ ?_
    · refine Le.off [some 0, some 1] (by rfl) (by rfl) (by simp only [rX2, bd, bdL, bdB, bdH, bdT, front, VLe, VLeL, BLe, Phan, TLe, HLe, ro, Blk.owned, CLe, rr, given, mrg, exct, shr, ren, renL, renB, Nat.reduceAdd, Nat.reduceSub, Nat.reduceLT, Nat.reduceLeDiff, Nat.reduceEqDiff, Nat.reduceBEq, Nat.reduceBNe, reduceCtorEq, nmC, nmV, wrC])
    rintro k ⟨hk, hall⟩
    have hw := wrapS k (by omega)
    have hq : eqL (wrC (w k)) (wrC (u k)) = wEq (w k) (u k) := by simp [wrC, eqL, eqV, wEq]
    simp only [wrC] at hq
    simp (implicitDefEqProofs := false) (maxSteps := 1000000) only [rX2, bd, bdL, bdB, bdH, bdT, front, VLe, VLeL, BLe, Phan, TLe, HLe, ro, Blk.owned, CLe, rr, given, mrg, exct, shr, ren, renL, renB, Nat.reduceAdd, Nat.reduceSub, Nat.reduceLT, Nat.reduceLeDiff, Nat.reduceEqDiff, Nat.reduceBEq, Nat.reduceBNe, reduceCtorEq, nmC, nmV, wrC, rX0, ofVal, ofVals, cellsV, vStore.isTup, Blk.deg, oneV, elApp, Nat.reduceAdd, Nat.reduceSub, Nat.reduceMul, Nat.reduceLT, Nat.reduceLeDiff, Nat.reduceEqDiff, Int.reduceToNat, Int.reduceGT, Int.reduceGE, Int.reduceMul, Int.reduceLT, Int.reduceLE, Int.reduceAdd, Int.reduceSub, Int.reduceNeg, reduceCtorEq, Sf.T3, Sf.T4, Sf.T24, Sf.T26, Sf.T27, Sf.T89, Sf.T29, Sf.T31, nmC, nmV, wrC]
    refine ⟨fun hlt => ?_, fun hge => ?_⟩
    · refine wdraw (.take 0 (.take 1 (.take 4 (.take 5 (.view 2 (.view 6 (.take 3 (.one 7 (.take 8 (.done)))))))))) [.row 9 n fun j => wrC (w j), .row 9 n fun j => wrC (u j)] (by kernel_rfl) (by kernel_rfl) (by simp only [rX2, bd, bdL, bdB, bdH, bdT, front, VLe, VLeL, BLe, Phan, TLe, HLe, ro, Blk.owned, CLe, rr, given, mrg, exct, shr, ren, renL, renB, Nat.reduceAdd, Nat.reduceSub, Nat.reduceLT, Nat.reduceLeDiff, Nat.reduceEqDiff, Nat.reduceBEq, Nat.reduceBNe, reduceCtorEq, nmC, nmV, wrC, m7y, m7z, m80, m81, m83, m82]) (by simp only [rX2, bd, bdL, bdB, bdH, bdT, front, VLe, VLeL, BLe, Phan, TLe, HLe, ro, Blk.owned, CLe, rr, given, mrg, exct, shr, ren, renL, renB, Nat.reduceAdd, Nat.reduceSub, Nat.reduceLT, Nat.reduceLeDiff, Nat.reduceEqDiff, Nat.reduceBEq, Nat.reduceBNe, reduceCtorEq, nmC, nmV, wrC]) ?_
      simp (implicitDefEqProofs := false) (maxSteps := 1000000) only [hlt, hq, rX2, bd, bdL, bdB, bdH, bdT, front, VLe, VLeL, BLe, Phan, TLe, HLe, ro, Blk.owned, CLe, rr, given, mrg, exct, shr, ren, renL, renB, Nat.reduceAdd, Nat.reduceSub, Nat.reduceLT, Nat.reduceLeDiff, Nat.reduceEqDiff, Nat.reduceBEq, Nat.reduceBNe, reduceCtorEq, nmC, nmV, wrC, rX0, ofVal, ofVals, cellsV, vStore.isTup, Blk.deg, oneV, elApp, Nat.reduceAdd, Nat.reduceSub, Nat.reduceMul, Nat.reduceLT, Nat.reduceLeDiff, Nat.reduceEqDiff, Int.reduceToNat, Int.reduceGT, Int.reduceGE, Int.reduceMul, Int.reduceLT, Int.reduceLE, Int.reduceAdd, Int.reduceSub, Int.reduceNeg, reduceCtorEq, Sf.T3, Sf.T4, Sf.T24, Sf.T26, Sf.T27, Sf.T89, Sf.T29, Sf.T31, nmC, nmV, wrC]
      refine ⟨fun h => ?_, fun h => ?_⟩
      · simp (implicitDefEqProofs := false) (maxSteps := 1000000) only [hw, rX2, bd, bdL, bdB, bdH, bdT, front, VLe, VLeL, BLe, Phan, TLe, HLe, ro, Blk.owned, CLe, rr, given, mrg, exct, shr, ren, renL, renB, Nat.reduceAdd, Nat.reduceSub, Nat.reduceLT, Nat.reduceLeDiff, Nat.reduceEqDiff, Nat.reduceBEq, Nat.reduceBNe, reduceCtorEq, nmC, nmV, wrC, rX0, ofVal, ofVals, cellsV, vStore.isTup, Blk.deg, oneV, elApp, Nat.reduceAdd, Nat.reduceSub, Nat.reduceMul, Nat.reduceLT, Nat.reduceLeDiff, Nat.reduceEqDiff, Int.reduceToNat, Int.reduceGT, Int.reduceGE, Int.reduceMul, Int.reduceLT, Int.reduceLE, Int.reduceAdd, Int.reduceSub, Int.reduceNeg, reduceCtorEq, Sf.T3, Sf.T4, Sf.T24, Sf.T26, Sf.T27, Sf.T89, Sf.T29, Sf.T31, nmC, nmV, wrC]
        refine ⟨k + 1, ⟨by omega, fun j hj => ?_⟩, by omega, ?_⟩
        · rcases Nat.lt_or_ge j k with c | c
          · exact hall j c
          · rw [show j = k by omega]; exact h
        · refine Le.off [some 0, some 1] (by rfl) (by rfl) (by simp only [rX2, bd, bdL, bdB, bdH, bdT, front, VLe, VLeL, BLe, Phan, TLe, HLe, ro, Blk.owned, CLe, rr, given, mrg, exct, shr, ren, renL, renB, Nat.reduceAdd, Nat.reduceSub, Nat.reduceLT, Nat.reduceLeDiff, Nat.reduceEqDiff, Nat.reduceBEq, Nat.reduceBNe, reduceCtorEq, nmC, nmV, wrC])
      · simp (implicitDefEqProofs := false) (maxSteps := 1000000) only [rX2, bd, bdL, bdB, bdH, bdT, front, VLe, VLeL, BLe, Phan, TLe, HLe, ro, Blk.owned, CLe, rr, given, mrg, exct, shr, ren, renL, renB, Nat.reduceAdd, Nat.reduceSub, Nat.reduceLT, Nat.reduceLeDiff, Nat.reduceEqDiff, Nat.reduceBEq, Nat.reduceBNe, reduceCtorEq, nmC, nmV, wrC, rX0, ofVal, ofVals, cellsV, vStore.isTup, Blk.deg, oneV, elApp, Nat.reduceAdd, Nat.reduceSub, Nat.reduceMul, Nat.reduceLT, Nat.reduceLeDiff, Nat.reduceEqDiff, Int.reduceToNat, Int.reduceGT, Int.reduceGE, Int.reduceMul, Int.reduceLT, Int.reduceLE, Int.reduceAdd, Int.reduceSub, Int.reduceNeg, reduceCtorEq, Sf.T3, Sf.T4, Sf.T24, Sf.T26, Sf.T27, Sf.T89, Sf.T29, Sf.T31, nmC, nmV, wrC]
        congr 1
        refine (decide_eq_false fun hh => ?_).symm
        have := hh.2 k hlt
        rw [h] at this; cases this
    · congr 1
      exact (decide_eq_true ⟨rfl, fun j hj => hall j (by omega)⟩).symm
/-- The block ahead of the k-th. -/
def prev (w : Nat → Wr) : Nat → Int
  | 0 => -1
  | k + 1 => (w k).b
/-- Writes may be. -/
def Written (n : Nat) (w : Nat → Wr) : Prop := (∀ j, j < n → prev w j < (w j).b ∧ (w j).b < 32) ∧ n ≤ 8
instance (n : Nat) (w : Nat → Wr) : Decidable (Written n w) := by unfold Written; infer_instance
theorem written_ok (n cw : Nat) (w : Nat → Wr) (hn : n ≤ 1000) : VCall Try.prog 28 [.slice 0 n cw] [.row 9 n fun j => wrC (w j)] fun v h => v = .bool (decide (Written n w)) ∧ h = [.row 9 n fun j => wrC (w j)] := by
  refine VCall.trim 1 (Nat.le_of_ble_eq_true rfl) ?_
  refine wbody Try.func28 rfl (by kernel_rfl) ?_
  rw [Try.ntmps28, Try.results28]
  simp (implicitDefEqProofs := false) (maxSteps := 1000000) only [rX1, bd, bdL, bdB, bdH, bdT, front, VLe, VLeL, BLe, Phan, TLe, HLe, ro, Blk.owned, CLe, rr, given, mrg, exct, shr, ren, renL, renB, Nat.reduceBEq, Nat.reduceBNe, rX0, ofVal, ofVals, cellsV, vStore.isTup, Blk.deg, oneV, elApp, Nat.reduceAdd, Nat.reduceSub, Nat.reduceMul, Nat.reduceLT, Nat.reduceLeDiff, Nat.reduceEqDiff, Int.reduceToNat, Int.reduceGT, Int.reduceGE, Int.reduceMul, Int.reduceLT, Int.reduceLE, Int.reduceAdd, Int.reduceSub, Int.reduceNeg, reduceCtorEq, Sf.T3, Sf.T4, Sf.T24, Sf.T26, Sf.T27, Sf.T89, Sf.T29, Sf.T31, nmC, nmV, wrC]
  refine wloop (fun k : Nat => ⟨[some (.slice 0 n cw), none, none, some (.int .i64 (prev w k)), none, none, some (.slice 0 n cw), some (.int .i64 n), some (.int .i64 k), none, none, none, none, none, none, none, none, none, none, none, none, none, none, none, none, none, none], [.row 9 n fun j => wrC (w j)]⟩) (fun k => k ≤ n ∧ ∀ j, j < k → prev w j < (w j).b ∧ (w j).b < 32) (fun k => n - k) 0 ⟨Nat.zero_le _, fun j hj => by omega⟩ ?_ ?_
  · simp only [prev]
    refine Le.off [some 0] (by rfl) (by rfl) (by simp only [rX2, bd, bdL, bdB, bdH, bdT, front, VLe, VLeL, BLe, Phan, TLe, HLe, ro, Blk.owned, CLe, rr, given, mrg, exct, shr, ren, renL, renB, Nat.reduceAdd, Nat.reduceSub, Nat.reduceLT, Nat.reduceLeDiff, Nat.reduceEqDiff, Nat.reduceBEq, Nat.reduceBNe, reduceCtorEq, nmC, nmV, wrC])
  rintro k ⟨hk, hall⟩
  have hw := wrapS k (by omega)
  have hp : (w k).b = prev w (k + 1) := rfl
  simp (implicitDefEqProofs := false) (maxSteps := 1000000) only [rX2, bd, bdL, bdB, bdH, bdT, front, VLe, VLeL, BLe, Phan, TLe, HLe, ro, Blk.owned, CLe, rr, given, mrg, exct, shr, ren, renL, renB, Nat.reduceAdd, Nat.reduceSub, Nat.reduceLT, Nat.reduceLeDiff, Nat.reduceEqDiff, Nat.reduceBEq, Nat.reduceBNe, reduceCtorEq, nmC, nmV, wrC, rX0, ofVal, ofVals, cellsV, vStore.isTup, Blk.deg, oneV, elApp, Nat.reduceAdd, Nat.reduceSub, Nat.reduceMul, Nat.reduceLT, Nat.reduceLeDiff, Nat.reduceEqDiff, Int.reduceToNat, Int.reduceGT, Int.reduceGE, Int.reduceMul, Int.reduceLT, Int.reduceLE, Int.reduceAdd, Int.reduceSub, Int.reduceNeg, reduceCtorEq, Sf.T3, Sf.T4, Sf.T24, Sf.T26, Sf.T27, Sf.T89, Sf.T29, Sf.T31, nmC, nmV, wrC]
  refine ⟨fun hlt => ⟨hlt, hlt, hlt, fun h1 => ?_, fun h1 => ⟨fun h2 => ?_, fun h2 => ?_⟩⟩, fun hge => ?_⟩
  · congr 1
    refine (decide_eq_false fun hh => ?_).symm
    have := (hh.1 k hlt).1
    omega
  · congr 1
    refine (decide_eq_false fun hh => ?_).symm
    have := (hh.1 k hlt).2
    omega
  · simp only [hw]
    refine ⟨k + 1, ⟨by omega, fun j hj => ?_⟩, by omega, ?_⟩
    · rcases Nat.lt_or_ge j k with c | c
      · exact hall j c
      · rw [show j = k by omega]; omega
    · rw [hp]
      refine Le.off [some 0] (by rfl) (by rfl) (by simp only [rX2, bd, bdL, bdB, bdH, bdT, front, VLe, VLeL, BLe, Phan, TLe, HLe, ro, Blk.owned, CLe, rr, given, mrg, exct, shr, ren, renL, renB, Nat.reduceAdd, Nat.reduceSub, Nat.reduceLT, Nat.reduceLeDiff, Nat.reduceEqDiff, Nat.reduceBEq, Nat.reduceBNe, reduceCtorEq, nmC, nmV, wrC])
  · congr 1
    refine decide_eq_decide.2 ⟨fun h => ⟨fun j hj => hall j (by omega), by omega⟩, fun h => by have := h.2; omega⟩
/-- A record. -/
structure Rec where
  k : Int
  nm : Nm
  yes : Bool
  n : Nat
  w : Nat → Wr
  give : Int
  take : Int
  shards : Int
  st : Int
  to_ : Int
  num : Int
def recC (r : Rec) (ws : VV) : List VV := [.int .i8 r.k, .int .i64 r.nm.a, .int .i64 r.nm.b, .int .i64 r.nm.c, .bool r.yes, ws, .int .i64 r.give, .int .i64 r.take, .int .i64 r.shards, .int .i64 r.st, .int .i64 r.to_, .int .i64 r.num]
/-- The same record. -/
def SameR (a b : Rec) : Prop := SameW a.n a.w b.n b.w ∧ a.k = b.k ∧ a.nm = b.nm ∧ a.yes = b.yes ∧ a.give = b.give ∧ a.take = b.take ∧ a.shards = b.shards ∧ (a.st = b.st ∧ a.to_ = b.to_) ∧ a.num = b.num
instance (a b : Rec) : Decidable (SameR a b) := by unfold SameR; infer_instance
theorem same_ok (a b : Rec) (ca cb : Nat) (hn : a.n ≤ 1000) : VCall Try.prog 17 [.agg (recC a (.slice 0 a.n ca)), .agg (recC b (.slice 1 b.n cb))] [.row 9 a.n fun j => wrC (a.w j), .row 9 b.n fun j => wrC (b.w j)] fun v h => v = .bool (decide (SameR a b)) ∧ h = [.row 9 a.n fun j => wrC (a.w j), .row 9 b.n fun j => wrC (b.w j)] := by
  unfold recC
  have hq1 : eqL (nmC a.nm) (nmC b.nm) = decide (a.nm = b.nm) := eqL_nm _ _
  have hq2 : eqL [.int .i64 a.st, .int .i64 a.to_] [.int .i64 b.st, .int .i64 b.to_] = decide (a.st = b.st ∧ a.to_ = b.to_) := by simp [eqL, eqV, Bool.decide_and]; rfl
  simp only [nmC] at hq1
  refine VCall.trim 2 (Nat.le_of_ble_eq_true rfl) ?_
  refine wbody Try.func17 rfl (by kernel_rfl) ?_
  rw [Try.ntmps17, Try.results17]
  simp (implicitDefEqProofs := false) (maxSteps := 1000000) only [rX1, bd, bdL, bdB, bdH, bdT, front, VLe, VLeL, BLe, Phan, TLe, HLe, ro, Blk.owned, CLe, rr, given, mrg, exct, shr, ren, renL, renB, Nat.reduceBEq, Nat.reduceBNe, rX0, ofVal, ofVals, cellsV, vStore.isTup, Blk.deg, oneV, elApp, Nat.reduceAdd, Nat.reduceSub, Nat.reduceMul, Nat.reduceLT, Nat.reduceLeDiff, Nat.reduceEqDiff, Int.reduceToNat, Int.reduceGT, Int.reduceGE, Int.reduceMul, Int.reduceLT, Int.reduceLE, Int.reduceAdd, Int.reduceSub, Int.reduceNeg, reduceCtorEq, Sf.T3, Sf.T4, Sf.T24, Sf.T26, Sf.T27, Sf.T89, Sf.T29, Sf.T31, nmC, nmV, wrC]
  refine vframe (equalw_ok a.n b.n ca cb a.w b.w hn) [0, 1] (by rfl) (by simp only [rX2, bd, bdL, bdB, bdH, bdT, front, VLe, VLeL, BLe, Phan, TLe, HLe, ro, Blk.owned, CLe, rr, given, mrg, exct, shr, ren, renL, renB, Nat.reduceAdd, Nat.reduceSub, Nat.reduceLT, Nat.reduceLeDiff, Nat.reduceEqDiff, Nat.reduceBEq, Nat.reduceBNe, reduceCtorEq, nmC, nmV, wrC]) ?_
  rintro v h ⟨rfl, rfl⟩ -
  simp (implicitDefEqProofs := false) (maxSteps := 1000000) only [hq1, hq2, rX2, bd, bdL, bdB, bdH, bdT, front, VLe, VLeL, BLe, Phan, TLe, HLe, ro, Blk.owned, CLe, rr, given, mrg, exct, shr, ren, renL, renB, Nat.reduceAdd, Nat.reduceSub, Nat.reduceLT, Nat.reduceLeDiff, Nat.reduceEqDiff, Nat.reduceBEq, Nat.reduceBNe, reduceCtorEq, nmC, nmV, wrC, rX0, ofVal, ofVals, cellsV, vStore.isTup, Blk.deg, oneV, elApp, Nat.reduceAdd, Nat.reduceSub, Nat.reduceMul, Nat.reduceLT, Nat.reduceLeDiff, Nat.reduceEqDiff, Int.reduceToNat, Int.reduceGT, Int.reduceGE, Int.reduceMul, Int.reduceLT, Int.reduceLE, Int.reduceAdd, Int.reduceSub, Int.reduceNeg, reduceCtorEq, Sf.T3, Sf.T4, Sf.T24, Sf.T26, Sf.T27, Sf.T89, Sf.T29, Sf.T31, nmC, nmV, wrC]
  have no : ¬ SameR a b → VV.bool false = VV.bool (decide (SameR a b)) := fun h => by rw [decide_eq_false h]
  refine ⟨fun h1 => ⟨fun e1 => ⟨fun e2 => ⟨fun e3 => ⟨fun e4 => ⟨fun e5 => ⟨fun e6 => ⟨fun e7 => ?_, fun e => no fun h => e h.2.2.2.2.2.2.2.1⟩, fun e => no fun h => e h.2.2.2.2.2.2.1⟩, fun e => no fun h => e h.2.2.2.2.2.1⟩, fun e => no fun h => e h.2.2.2.2.1⟩, fun e => no fun h => e h.2.2.2.1⟩, fun e => no fun h => e h.2.2.1⟩, fun e => no fun h => e h.2.1⟩, fun h1 => no fun h => h1 h.1⟩
  congr 1
  have : (a.num == b.num) = decide (a.num = b.num) := rfl
  rw [this]
  exact decide_eq_decide.2 ⟨fun h => ⟨h1, e1, e2, e3, e4, e5, e6, e7, h⟩, fun h => h.2.2.2.2.2.2.2.2⟩
end Go.Proofs.Ytnlammgemaapnaa
