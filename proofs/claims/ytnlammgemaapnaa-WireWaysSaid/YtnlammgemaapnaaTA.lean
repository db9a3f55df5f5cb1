/- Layer 15: messages; the same message. -/
import Derived.Test.YtnlammgemaapnaaRD
import Derived.Test.YtnlammgemaapnaaSg
set_option linter.unusedSimpArgs false
set_option linter.unusedVariables false
set_option maxRecDepth 100000
namespace Go.Proofs.Ytnlammgemaapnaa
open Go Go.Sx
/-- A message. -/
structure Msg where
  k : Int
  fr : Int
  to_ : Int
  inc : Int
  your : Int
  nm : Nm
  num : Int
  op : Int
  blk : Int
  v : Nat → Int
  e : Int
  yes : Bool
  give : Int
  take : Int
  n : Nat
  w : Nat → Wr
def msC (m : Msg) (ws : VV) : List VV := [.int .i8 m.k, .int .i64 m.fr, .int .i64 m.to_, .int .i64 m.inc, .int .i64 m.your, .int .i64 m.nm.a, .int .i64 m.nm.b, .int .i64 m.nm.c, .int .i64 m.num, .int .i8 m.op, .int .i64 m.blk, .int .u8 (m.v 0), .int .u8 (m.v 1), .int .u8 (m.v 2), .int .u8 (m.v 3), .int .u8 (m.v 4), .int .u8 (m.v 5), .int .u8 (m.v 6), .int .u8 (m.v 7), .int .i64 m.e, .bool m.yes, .int .i64 m.give, .int .i64 m.take, ws]
/-- The same bytes of a block. -/
def VEq (x y : Nat → Int) : Prop := x 0 = y 0 ∧ x 1 = y 1 ∧ x 2 = y 2 ∧ x 3 = y 3 ∧ x 4 = y 4 ∧ x 5 = y 5 ∧ x 6 = y 6 ∧ x 7 = y 7
instance (x y : Nat → Int) : Decidable (VEq x y) := by unfold VEq; infer_instance
theorem eqL_v (x y : Nat → Int) : eqL (vC x) (vC y) = decide (VEq x y) := by
  rw [Bool.eq_iff_iff, decide_eq_true_iff]
  simp [vC, eqL, eqV, VEq]
/-- The same message. -/
def SameM (a b : Msg) : Prop := SameW a.n a.w b.n b.w ∧ a.k = b.k ∧ a.fr = b.fr ∧ a.to_ = b.to_ ∧ a.inc = b.inc ∧ a.your = b.your ∧ a.nm = b.nm ∧ a.num = b.num ∧ a.op = b.op ∧ a.blk = b.blk ∧ VEq a.v b.v ∧ a.e = b.e ∧ a.yes = b.yes ∧ a.give = b.give ∧ a.take = b.take
instance (a b : Msg) : Decidable (SameM a b) := by unfold SameM; infer_instance
set_option maxHeartbeats 2000000 in
theorem msame_ok (a b : Msg) (ca cb : Nat) (hn : a.n ≤ 1000) : VCall Try.prog 45 [.agg (msC a (.slice 0 a.n ca)), .agg (msC b (.slice 1 b.n cb))] [.row 9 a.n fun j => wrC (a.w j), .row 9 b.n fun j => wrC (b.w j)] fun v h => v = .bool (decide (SameM a b)) ∧ h = [.row 9 a.n fun j => wrC (a.w j), .row 9 b.n fun j => wrC (b.w j)] := by
  unfold msC
  have hq1 : eqL (nmC a.nm) (nmC b.nm) = decide (a.nm = b.nm) := eqL_nm _ _
  have hq2 : eqL (vC a.v) (vC b.v) = decide (VEq a.v b.v) := eqL_v _ _
  simp only [nmC] at hq1
  simp only [vC] at hq2
  refine VCall.trim 2 (Nat.le_of_ble_eq_true rfl) ?_
  refine wbody Try.func45 rfl (by kernel_rfl) ?_
  rw [Try.ntmps45, Try.results45]
  simp (implicitDefEqProofs := false) (maxSteps := 1000000) only [rX1, bd, bdL, bdB, bdH, bdT, front, VLe, VLeL, BLe, Phan, TLe, HLe, ro, Blk.owned, CLe, rr, given, mrg, exct, shr, ren, renL, renB, Nat.reduceBEq, Nat.reduceBNe, rX0, ofVal, ofVals, cellsV, vStore.isTup, Blk.deg, oneV, elApp, Nat.reduceAdd, Nat.reduceSub, Nat.reduceMul, Nat.reduceLT, Nat.reduceLeDiff, Nat.reduceEqDiff, Int.reduceToNat, Int.reduceGT, Int.reduceGE, Int.reduceMul, Int.reduceLT, Int.reduceLE, Int.reduceAdd, Int.reduceSub, Int.reduceNeg, reduceCtorEq, Sf.T3, Sf.T4, Sf.T24, Sf.T5, Sf.T26, Sf.T27, Sf.T89, Sf.T54, Sf.T32, Sf.T56, nmC, nmV, wrC]
  refine vframe (equalw_ok a.n b.n ca cb a.w b.w hn) [0, 1] (by rfl) (by simp only [rX2, bd, bdL, bdB, bdH, bdT, front, VLe, VLeL, BLe, Phan, TLe, HLe, ro, Blk.owned, CLe, rr, given, mrg, exct, shr, ren, renL, renB, Nat.reduceAdd, Nat.reduceSub, Nat.reduceLT, Nat.reduceLeDiff, Nat.reduceEqDiff, Nat.reduceBEq, Nat.reduceBNe, reduceCtorEq, nmC, nmV, wrC]) ?_
  rintro v h ⟨rfl, rfl⟩ -
  simp (implicitDefEqProofs := false) (maxSteps := 1000000) only [hq1, hq2, rX2, bd, bdL, bdB, bdH, bdT, front, VLe, VLeL, BLe, Phan, TLe, HLe, ro, Blk.owned, CLe, rr, given, mrg, exct, shr, ren, renL, renB, Nat.reduceAdd, Nat.reduceSub, Nat.reduceLT, Nat.reduceLeDiff, Nat.reduceEqDiff, Nat.reduceBEq, Nat.reduceBNe, reduceCtorEq, nmC, nmV, wrC, rX0, ofVal, ofVals, cellsV, vStore.isTup, Blk.deg, oneV, elApp, Nat.reduceAdd, Nat.reduceSub, Nat.reduceMul, Nat.reduceLT, Nat.reduceLeDiff, Nat.reduceEqDiff, Int.reduceToNat, Int.reduceGT, Int.reduceGE, Int.reduceMul, Int.reduceLT, Int.reduceLE, Int.reduceAdd, Int.reduceSub, Int.reduceNeg, reduceCtorEq, Sf.T3, Sf.T4, Sf.T24, Sf.T5, Sf.T26, Sf.T27, Sf.T89, Sf.T54, Sf.T32, Sf.T56, nmC, nmV, wrC]
  repeat' (first | (refine And.intro ?_ ?_) | intro _)
  all_goals refine congrArg VV.bool ?_
  all_goals first
    | (refine (decide_eq_false ?_).symm; intro hh; unfold SameM at hh; simp_all; done)
    | (show decide (_ = _) = _; refine decide_eq_decide.2 ?_; unfold SameM; simp_all)
end Go.Proofs.Ytnlammgemaapnaa
