/- Layer 7: the document's bytes of records. -/
import Derived.Test.YtnlammgemaapnaaSN
set_option linter.unusedSimpArgs false
set_option linter.unusedVariables false
set_option maxRecDepth 100000
namespace Go.Proofs.Ytnlammgemaapnaa
open Go Go.Sx
theorem rmay_b (cw : Nat) (r : Rec) (hn : r.n ≤ 1000) (b : Bool) (h : decide (MayR r) = b) : VCall Try.prog 25 [.agg (recC r (.slice 0 r.n cw))] [.row 9 r.n fun j => wrC (r.w j)] fun v h => v = .bool b ∧ h = [.row 9 r.n fun j => wrC (r.w j)] := by
  have := rmay_ok r cw hn
  rw [h] at this; exact this
theorem zbytes_no (cw : Nat) (r : Rec) (hn : r.n ≤ 1000) (hM : ¬ MayR r) : VCall Try.prog 23 [.agg (recC r (.slice 0 r.n cw))] [.row 9 r.n fun j => wrC (r.w j)] fun v h => ∃ cap, v = .tup [.slice 1 ([] : List Int).length cap, .int .i64 2] ∧ h = [.row 9 r.n fun j => wrC (r.w j), ow ([]) cap] := by
  have hm := rmay_b cw r hn false (decide_eq_false hM)
  unfold recC at hm ⊢
  unfold ow
  refine VC.out ?_
  refine wbody Try.func23 rfl (by kernel_rfl) ?_
  rw [Try.ntmps23, Try.results23]
  simp (implicitDefEqProofs := false) (maxSteps := 1000000) only [rX1, bd, bdL, bdB, bdH, bdT, front, VLe, VLeL, BLe, Phan, TLe, HLe, ro, Blk.owned, CLe, rr, given, mrg, exct, shr, ren, renL, renB, Nat.reduceBEq, Nat.reduceBNe, rX0, ofVal, ofVals, cellsV, vStore.isTup, eqL, eqV, Blk.deg, oneV, elApp, Nat.reduceAdd, Nat.reduceSub, Nat.reduceMul, Nat.reduceLT, Nat.reduceLeDiff, Nat.reduceEqDiff, Int.reduceToNat, Int.reduceGT, Int.reduceGE, Int.reduceMul, Int.reduceLT, Int.reduceLE, Int.reduceAdd, Int.reduceSub, Int.reduceNeg, reduceCtorEq, Sf.T3, Sf.T4, Sf.T5, Sf.T22, Sf.T24, Sf.T26, Sf.T27, Sf.T89, Sf.T54, Sf.T29, Sf.T31, Sf.T32, nmC, nmV, rBE, ow, wrC, recC]
  refine vframe (hm) [0] (by rfl) (by simp only [rX2, bd, bdL, bdB, bdH, bdT, front, VLe, VLeL, BLe, Phan, TLe, HLe, ro, Blk.owned, CLe, rr, given, mrg, exct, shr, ren, renL, renB, Nat.reduceAdd, Nat.reduceSub, Nat.reduceLT, Nat.reduceLeDiff, Nat.reduceEqDiff, Nat.reduceBEq, Nat.reduceBNe, reduceCtorEq, nmC, nmV, rBE, ow, wrC, recC]) ?_
  rintro v h ⟨rfl, rfl⟩ -
  simp (implicitDefEqProofs := false) (maxSteps := 1000000) only [rX2, bd, bdL, bdB, bdH, bdT, front, VLe, VLeL, BLe, Phan, TLe, HLe, ro, Blk.owned, CLe, rr, given, mrg, exct, shr, ren, renL, renB, Nat.reduceAdd, Nat.reduceSub, Nat.reduceLT, Nat.reduceLeDiff, Nat.reduceEqDiff, Nat.reduceBEq, Nat.reduceBNe, reduceCtorEq, nmC, nmV, rBE, ow, wrC, recC, rX0, ofVal, ofVals, cellsV, vStore.isTup, eqL, eqV, Blk.deg, oneV, elApp, Nat.reduceAdd, Nat.reduceSub, Nat.reduceMul, Nat.reduceLT, Nat.reduceLeDiff, Nat.reduceEqDiff, Int.reduceToNat, Int.reduceGT, Int.reduceGE, Int.reduceMul, Int.reduceLT, Int.reduceLE, Int.reduceAdd, Int.reduceSub, Int.reduceNeg, reduceCtorEq, Sf.T3, Sf.T4, Sf.T5, Sf.T22, Sf.T24, Sf.T26, Sf.T27, Sf.T89, Sf.T54, Sf.T29, Sf.T31, Sf.T32, nmC, nmV, rBE, ow, wrC, recC]
  exact ⟨_, _, Le.off [some 0, none] (by rfl) (by rfl) (by simp only [rX2, bd, bdL, bdB, bdH, bdT, front, VLe, VLeL, BLe, Phan, TLe, HLe, ro, Blk.owned, CLe, rr, given, mrg, exct, shr, ren, renL, renB, Nat.reduceAdd, Nat.reduceSub, Nat.reduceLT, Nat.reduceLeDiff, Nat.reduceEqDiff, Nat.reduceBEq, Nat.reduceBNe, reduceCtorEq, nmC, nmV, rBE, ow, wrC, recC]), 0, rfl, rfl⟩
theorem bE_key (L M : List Int) (n : Nat) (hn : M.length = n) (j : Nat) (hj : j < L.length + n) : elApp L.length (bE L) (chunk 1 (M.map fun x => VV.int .u8 x)) j = bE (L ++ M) j := bE_many L M j (by omega)
theorem one_u8 (x : Int) (j : Nat) (hj : j < 1) : chunk 1 [.int .u8 (IntKind.u8.wrap x)] j = bE [u8 x] j := by
  match j, hj with
  | 0, _ => rfl
theorem zbytes_6 (cw : Nat) (r : Rec) (hn : r.n ≤ 1000) (hM : MayR r) (e : r.k = 6) : VCall Try.prog 23 [.agg (recC r (.slice 0 r.n cw))] [.row 9 r.n fun j => wrC (r.w j)] fun v h => ∃ cap, v = .tup [.slice 1 (u8 r.k :: bX r).length cap, .int .i64 0] ∧ h = [.row 9 r.n fun j => wrC (r.w j), ow (u8 r.k :: bX r) cap] := by
  have hm := rmay_b cw r hn true (decide_eq_true hM)
  have hl := wsB_length r.w r.n
  rw [show bX r = b3 r.num from bX_6 r e]
  have t6 : (r.k = 6) = True := eq_true e
  have t7 : ¬ r.k = 7 := by omega
  have t1 : ¬ r.k = 1 := by omega
  have t2 : ¬ r.k = 2 := by omega
  have t3 : ¬ r.k = 3 := by omega
  have t4 : ¬ r.k = 4 := by omega
  unfold recC at hm ⊢
  unfold ow
  refine VC.out ?_
  refine wbody Try.func23 rfl (by kernel_rfl) ?_
  rw [Try.ntmps23, Try.results23]
  simp (implicitDefEqProofs := false) (maxSteps := 1000000) only [rX1, bd, bdL, bdB, bdH, bdT, front, VLe, VLeL, BLe, Phan, TLe, HLe, ro, Blk.owned, CLe, rr, given, mrg, exct, shr, ren, renL, renB, Nat.reduceBEq, Nat.reduceBNe, rX0, ofVal, ofVals, cellsV, vStore.isTup, eqL, eqV, Blk.deg, oneV, elApp, Nat.reduceAdd, Nat.reduceSub, Nat.reduceMul, Nat.reduceLT, Nat.reduceLeDiff, Nat.reduceEqDiff, Int.reduceToNat, Int.reduceGT, Int.reduceGE, Int.reduceMul, Int.reduceLT, Int.reduceLE, Int.reduceAdd, Int.reduceSub, Int.reduceNeg, reduceCtorEq, Sf.T3, Sf.T4, Sf.T5, Sf.T22, Sf.T24, Sf.T26, Sf.T27, Sf.T89, Sf.T54, Sf.T29, Sf.T31, Sf.T32, nmC, nmV, rBE, ow, wrC, recC]
  refine vframe (hm) [0] (by rfl) (by simp only [rX2, bd, bdL, bdB, bdH, bdT, front, VLe, VLeL, BLe, Phan, TLe, HLe, ro, Blk.owned, CLe, rr, given, mrg, exct, shr, ren, renL, renB, Nat.reduceAdd, Nat.reduceSub, Nat.reduceLT, Nat.reduceLeDiff, Nat.reduceEqDiff, Nat.reduceBEq, Nat.reduceBNe, reduceCtorEq, nmC, nmV, rBE, ow, wrC, recC]) ?_
  rintro v h ⟨rfl, rfl⟩ -
  simp (implicitDefEqProofs := false) (maxSteps := 1000000) only [t6, t7, t1, t2, t3, t4, rX2, bd, bdL, bdB, bdH, bdT, front, VLe, VLeL, BLe, Phan, TLe, HLe, ro, Blk.owned, CLe, rr, given, mrg, exct, shr, ren, renL, renB, Nat.reduceAdd, Nat.reduceSub, Nat.reduceLT, Nat.reduceLeDiff, Nat.reduceEqDiff, Nat.reduceBEq, Nat.reduceBNe, reduceCtorEq, nmC, nmV, rBE, ow, wrC, recC, rX0, ofVal, ofVals, cellsV, vStore.isTup, eqL, eqV, Blk.deg, oneV, elApp, Nat.reduceAdd, Nat.reduceSub, Nat.reduceMul, Nat.reduceLT, Nat.reduceLeDiff, Nat.reduceEqDiff, Int.reduceToNat, Int.reduceGT, Int.reduceGE, Int.reduceMul, Int.reduceLT, Int.reduceLE, Int.reduceAdd, Int.reduceSub, Int.reduceNeg, reduceCtorEq, Sf.T3, Sf.T4, Sf.T5, Sf.T22, Sf.T24, Sf.T26, Sf.T27, Sf.T89, Sf.T54, Sf.T29, Sf.T31, Sf.T32, nmC, nmV, rBE, ow, wrC, recC]
  refine vframe (zthree_ok [u8 r.k] 1 r.num (by simp)) [2] (by rfl) (by simp only [rX2, bd, bdL, bdB, bdH, bdT, front, VLe, VLeL, BLe, Phan, TLe, HLe, ro, Blk.owned, CLe, rr, given, mrg, exct, shr, ren, renL, renB, Nat.reduceAdd, Nat.reduceSub, Nat.reduceLT, Nat.reduceLeDiff, Nat.reduceEqDiff, Nat.reduceBEq, Nat.reduceBNe, reduceCtorEq, nmC, nmV, rBE, ow, wrC, recC]; exact fun j hj => one_u8 _ j hj) ?_
  rintro v h ⟨c1, rfl, rfl⟩ -
  simp (implicitDefEqProofs := false) (maxSteps := 1000000) only [rX2, bd, bdL, bdB, bdH, bdT, front, VLe, VLeL, BLe, Phan, TLe, HLe, ro, Blk.owned, CLe, rr, given, mrg, exct, shr, ren, renL, renB, Nat.reduceAdd, Nat.reduceSub, Nat.reduceLT, Nat.reduceLeDiff, Nat.reduceEqDiff, Nat.reduceBEq, Nat.reduceBNe, reduceCtorEq, nmC, nmV, rBE, ow, wrC, recC, rX0, ofVal, ofVals, cellsV, vStore.isTup, eqL, eqV, Blk.deg, oneV, elApp, Nat.reduceAdd, Nat.reduceSub, Nat.reduceMul, Nat.reduceLT, Nat.reduceLeDiff, Nat.reduceEqDiff, Int.reduceToNat, Int.reduceGT, Int.reduceGE, Int.reduceMul, Int.reduceLT, Int.reduceLE, Int.reduceAdd, Int.reduceSub, Int.reduceNeg, reduceCtorEq, Sf.T3, Sf.T4, Sf.T5, Sf.T22, Sf.T24, Sf.T26, Sf.T27, Sf.T89, Sf.T54, Sf.T29, Sf.T31, Sf.T32, nmC, nmV, rBE, ow, wrC, recC]
  exact ⟨_, _, Le.off [some 0, some 3] (by rfl) (by rfl) (by simp only [rX2, bd, bdL, bdB, bdH, bdT, front, VLe, VLeL, BLe, Phan, TLe, HLe, ro, Blk.owned, CLe, rr, given, mrg, exct, shr, ren, renL, renB, Nat.reduceAdd, Nat.reduceSub, Nat.reduceLT, Nat.reduceLeDiff, Nat.reduceEqDiff, Nat.reduceBEq, Nat.reduceBNe, reduceCtorEq, nmC, nmV, rBE, ow, wrC, recC]), c1, rfl, rfl⟩
theorem zbytes_7 (cw : Nat) (r : Rec) (hn : r.n ≤ 1000) (hM : MayR r) (e : r.k = 7) : VCall Try.prog 23 [.agg (recC r (.slice 0 r.n cw))] [.row 9 r.n fun j => wrC (r.w j)] fun v h => ∃ cap, v = .tup [.slice 1 (u8 r.k :: bX r).length cap, .int .i64 0] ∧ h = [.row 9 r.n fun j => wrC (r.w j), ow (u8 r.k :: bX r) cap] := by
  have hm := rmay_b cw r hn true (decide_eq_true hM)
  have hl := wsB_length r.w r.n
  rw [show bX r = b3 r.num from bX_7 r e]
  have t6 : ¬ r.k = 6 := by omega
  have t7 : (r.k = 7) = True := eq_true e
  have t1 : ¬ r.k = 1 := by omega
  have t2 : ¬ r.k = 2 := by omega
  have t3 : ¬ r.k = 3 := by omega
  have t4 : ¬ r.k = 4 := by omega
  unfold recC at hm ⊢
  unfold ow
  refine VC.out ?_
  refine wbody Try.func23 rfl (by kernel_rfl) ?_
  rw [Try.ntmps23, Try.results23]
  simp (implicitDefEqProofs := false) (maxSteps := 1000000) only [rX1, bd, bdL, bdB, bdH, bdT, front, VLe, VLeL, BLe, Phan, TLe, HLe, ro, Blk.owned, CLe, rr, given, mrg, exct, shr, ren, renL, renB, Nat.reduceBEq, Nat.reduceBNe, rX0, ofVal, ofVals, cellsV, vStore.isTup, eqL, eqV, Blk.deg, oneV, elApp, Nat.reduceAdd, Nat.reduceSub, Nat.reduceMul, Nat.reduceLT, Nat.reduceLeDiff, Nat.reduceEqDiff, Int.reduceToNat, Int.reduceGT, Int.reduceGE, Int.reduceMul, Int.reduceLT, Int.reduceLE, Int.reduceAdd, Int.reduceSub, Int.reduceNeg, reduceCtorEq, Sf.T3, Sf.T4, Sf.T5, Sf.T22, Sf.T24, Sf.T26, Sf.T27, Sf.T89, Sf.T54, Sf.T29, Sf.T31, Sf.T32, nmC, nmV, rBE, ow, wrC, recC]
  refine vframe (hm) [0] (by rfl) (by simp only [rX2, bd, bdL, bdB, bdH, bdT, front, VLe, VLeL, BLe, Phan, TLe, HLe, ro, Blk.owned, CLe, rr, given, mrg, exct, shr, ren, renL, renB, Nat.reduceAdd, Nat.reduceSub, Nat.reduceLT, Nat.reduceLeDiff, Nat.reduceEqDiff, Nat.reduceBEq, Nat.reduceBNe, reduceCtorEq, nmC, nmV, rBE, ow, wrC, recC]) ?_
  rintro v h ⟨rfl, rfl⟩ -
  simp (implicitDefEqProofs := false) (maxSteps := 1000000) only [t6, t7, t1, t2, t3, t4, rX2, bd, bdL, bdB, bdH, bdT, front, VLe, VLeL, BLe, Phan, TLe, HLe, ro, Blk.owned, CLe, rr, given, mrg, exct, shr, ren, renL, renB, Nat.reduceAdd, Nat.reduceSub, Nat.reduceLT, Nat.reduceLeDiff, Nat.reduceEqDiff, Nat.reduceBEq, Nat.reduceBNe, reduceCtorEq, nmC, nmV, rBE, ow, wrC, recC, rX0, ofVal, ofVals, cellsV, vStore.isTup, eqL, eqV, Blk.deg, oneV, elApp, Nat.reduceAdd, Nat.reduceSub, Nat.reduceMul, Nat.reduceLT, Nat.reduceLeDiff, Nat.reduceEqDiff, Int.reduceToNat, Int.reduceGT, Int.reduceGE, Int.reduceMul, Int.reduceLT, Int.reduceLE, Int.reduceAdd, Int.reduceSub, Int.reduceNeg, reduceCtorEq, Sf.T3, Sf.T4, Sf.T5, Sf.T22, Sf.T24, Sf.T26, Sf.T27, Sf.T89, Sf.T54, Sf.T29, Sf.T31, Sf.T32, nmC, nmV, rBE, ow, wrC, recC]
  refine vframe (zthree_ok [u8 r.k] 1 r.num (by simp)) [2] (by rfl) (by simp only [rX2, bd, bdL, bdB, bdH, bdT, front, VLe, VLeL, BLe, Phan, TLe, HLe, ro, Blk.owned, CLe, rr, given, mrg, exct, shr, ren, renL, renB, Nat.reduceAdd, Nat.reduceSub, Nat.reduceLT, Nat.reduceLeDiff, Nat.reduceEqDiff, Nat.reduceBEq, Nat.reduceBNe, reduceCtorEq, nmC, nmV, rBE, ow, wrC, recC]; exact fun j hj => one_u8 _ j hj) ?_
  rintro v h ⟨c1, rfl, rfl⟩ -
  simp (implicitDefEqProofs := false) (maxSteps := 1000000) only [rX2, bd, bdL, bdB, bdH, bdT, front, VLe, VLeL, BLe, Phan, TLe, HLe, ro, Blk.owned, CLe, rr, given, mrg, exct, shr, ren, renL, renB, Nat.reduceAdd, Nat.reduceSub, Nat.reduceLT, Nat.reduceLeDiff, Nat.reduceEqDiff, Nat.reduceBEq, Nat.reduceBNe, reduceCtorEq, nmC, nmV, rBE, ow, wrC, recC, rX0, ofVal, ofVals, cellsV, vStore.isTup, eqL, eqV, Blk.deg, oneV, elApp, Nat.reduceAdd, Nat.reduceSub, Nat.reduceMul, Nat.reduceLT, Nat.reduceLeDiff, Nat.reduceEqDiff, Int.reduceToNat, Int.reduceGT, Int.reduceGE, Int.reduceMul, Int.reduceLT, Int.reduceLE, Int.reduceAdd, Int.reduceSub, Int.reduceNeg, reduceCtorEq, Sf.T3, Sf.T4, Sf.T5, Sf.T22, Sf.T24, Sf.T26, Sf.T27, Sf.T89, Sf.T54, Sf.T29, Sf.T31, Sf.T32, nmC, nmV, rBE, ow, wrC, recC]
  exact ⟨_, _, Le.off [some 0, some 3] (by rfl) (by rfl) (by simp only [rX2, bd, bdL, bdB, bdH, bdT, front, VLe, VLeL, BLe, Phan, TLe, HLe, ro, Blk.owned, CLe, rr, given, mrg, exct, shr, ren, renL, renB, Nat.reduceAdd, Nat.reduceSub, Nat.reduceLT, Nat.reduceLeDiff, Nat.reduceEqDiff, Nat.reduceBEq, Nat.reduceBNe, reduceCtorEq, nmC, nmV, rBE, ow, wrC, recC]), c1, rfl, rfl⟩
theorem zbytes_5 (cw : Nat) (r : Rec) (hn : r.n ≤ 1000) (hM : MayR r) (e : r.k = 5) : VCall Try.prog 23 [.agg (recC r (.slice 0 r.n cw))] [.row 9 r.n fun j => wrC (r.w j)] fun v h => ∃ cap, v = .tup [.slice 1 (u8 r.k :: bX r).length cap, .int .i64 0] ∧ h = [.row 9 r.n fun j => wrC (r.w j), ow (u8 r.k :: bX r) cap] := by
  have hm := rmay_b cw r hn true (decide_eq_true hM)
  have hl := wsB_length r.w r.n
  rw [show bX r = nB r.nm ++ [] from bX_5 r e]
  have t6 : ¬ r.k = 6 := by omega
  have t7 : ¬ r.k = 7 := by omega
  have t1 : ¬ r.k = 1 := by omega
  have t2 : ¬ r.k = 2 := by omega
  have t3 : ¬ r.k = 3 := by omega
  have t4 : ¬ r.k = 4 := by omega
  unfold recC at hm ⊢
  unfold ow
  refine VC.out ?_
  refine wbody Try.func23 rfl (by kernel_rfl) ?_
  rw [Try.ntmps23, Try.results23]
  simp (implicitDefEqProofs := false) (maxSteps := 1000000) only [rX1, bd, bdL, bdB, bdH, bdT, front, VLe, VLeL, BLe, Phan, TLe, HLe, ro, Blk.owned, CLe, rr, given, mrg, exct, shr, ren, renL, renB, Nat.reduceBEq, Nat.reduceBNe, rX0, ofVal, ofVals, cellsV, vStore.isTup, eqL, eqV, Blk.deg, oneV, elApp, Nat.reduceAdd, Nat.reduceSub, Nat.reduceMul, Nat.reduceLT, Nat.reduceLeDiff, Nat.reduceEqDiff, Int.reduceToNat, Int.reduceGT, Int.reduceGE, Int.reduceMul, Int.reduceLT, Int.reduceLE, Int.reduceAdd, Int.reduceSub, Int.reduceNeg, reduceCtorEq, Sf.T3, Sf.T4, Sf.T5, Sf.T22, Sf.T24, Sf.T26, Sf.T27, Sf.T89, Sf.T54, Sf.T29, Sf.T31, Sf.T32, nmC, nmV, rBE, ow, wrC, recC]
  refine vframe (hm) [0] (by rfl) (by simp only [rX2, bd, bdL, bdB, bdH, bdT, front, VLe, VLeL, BLe, Phan, TLe, HLe, ro, Blk.owned, CLe, rr, given, mrg, exct, shr, ren, renL, renB, Nat.reduceAdd, Nat.reduceSub, Nat.reduceLT, Nat.reduceLeDiff, Nat.reduceEqDiff, Nat.reduceBEq, Nat.reduceBNe, reduceCtorEq, nmC, nmV, rBE, ow, wrC, recC]) ?_
  rintro v h ⟨rfl, rfl⟩ -
  simp (implicitDefEqProofs := false) (maxSteps := 1000000) only [t6, t7, t1, t2, t3, t4, rX2, bd, bdL, bdB, bdH, bdT, front, VLe, VLeL, BLe, Phan, TLe, HLe, ro, Blk.owned, CLe, rr, given, mrg, exct, shr, ren, renL, renB, Nat.reduceAdd, Nat.reduceSub, Nat.reduceLT, Nat.reduceLeDiff, Nat.reduceEqDiff, Nat.reduceBEq, Nat.reduceBNe, reduceCtorEq, nmC, nmV, rBE, ow, wrC, recC, rX0, ofVal, ofVals, cellsV, vStore.isTup, eqL, eqV, Blk.deg, oneV, elApp, Nat.reduceAdd, Nat.reduceSub, Nat.reduceMul, Nat.reduceLT, Nat.reduceLeDiff, Nat.reduceEqDiff, Int.reduceToNat, Int.reduceGT, Int.reduceGE, Int.reduceMul, Int.reduceLT, Int.reduceLE, Int.reduceAdd, Int.reduceSub, Int.reduceNeg, reduceCtorEq, Sf.T3, Sf.T4, Sf.T5, Sf.T22, Sf.T24, Sf.T26, Sf.T27, Sf.T89, Sf.T54, Sf.T29, Sf.T31, Sf.T32, nmC, nmV, rBE, ow, wrC, recC]
  refine vframe (znamed_ok [u8 r.k] 1 r.nm (by simp)) [2] (by rfl) (by simp only [rX2, bd, bdL, bdB, bdH, bdT, front, VLe, VLeL, BLe, Phan, TLe, HLe, ro, Blk.owned, CLe, rr, given, mrg, exct, shr, ren, renL, renB, Nat.reduceAdd, Nat.reduceSub, Nat.reduceLT, Nat.reduceLeDiff, Nat.reduceEqDiff, Nat.reduceBEq, Nat.reduceBNe, reduceCtorEq, nmC, nmV, rBE, ow, wrC, recC]; exact fun j hj => one_u8 _ j hj) ?_
  rintro v h ⟨c1, rfl, rfl⟩ -
  simp (implicitDefEqProofs := false) (maxSteps := 1000000) only [t6, t7, t1, t2, t3, t4, rX2, bd, bdL, bdB, bdH, bdT, front, VLe, VLeL, BLe, Phan, TLe, HLe, ro, Blk.owned, CLe, rr, given, mrg, exct, shr, ren, renL, renB, Nat.reduceAdd, Nat.reduceSub, Nat.reduceLT, Nat.reduceLeDiff, Nat.reduceEqDiff, Nat.reduceBEq, Nat.reduceBNe, reduceCtorEq, nmC, nmV, rBE, ow, wrC, recC, rX0, ofVal, ofVals, cellsV, vStore.isTup, eqL, eqV, Blk.deg, oneV, elApp, Nat.reduceAdd, Nat.reduceSub, Nat.reduceMul, Nat.reduceLT, Nat.reduceLeDiff, Nat.reduceEqDiff, Int.reduceToNat, Int.reduceGT, Int.reduceGE, Int.reduceMul, Int.reduceLT, Int.reduceLE, Int.reduceAdd, Int.reduceSub, Int.reduceNeg, reduceCtorEq, Sf.T3, Sf.T4, Sf.T5, Sf.T22, Sf.T24, Sf.T26, Sf.T27, Sf.T89, Sf.T54, Sf.T29, Sf.T31, Sf.T32, nmC, nmV, rBE, ow, wrC, recC]
  exact ⟨_, _, Le.off [some 0, some 3] (by rfl) (by rfl) (by simp only [rX2, bd, bdL, bdB, bdH, bdT, front, VLe, VLeL, BLe, Phan, TLe, HLe, ro, Blk.owned, CLe, rr, given, mrg, exct, shr, ren, renL, renB, Nat.reduceAdd, Nat.reduceSub, Nat.reduceLT, Nat.reduceLeDiff, Nat.reduceEqDiff, Nat.reduceBEq, Nat.reduceBNe, reduceCtorEq, nmC, nmV, rBE, ow, wrC, recC]), c1, rfl, rfl⟩
theorem zbytes_1 (cw : Nat) (r : Rec) (hn : r.n ≤ 1000) (hM : MayR r) (e : r.k = 1) : VCall Try.prog 23 [.agg (recC r (.slice 0 r.n cw))] [.row 9 r.n fun j => wrC (r.w j)] fun v h => ∃ cap, v = .tup [.slice 1 (u8 r.k :: bX r).length cap, .int .i64 0] ∧ h = [.row 9 r.n fun j => wrC (r.w j), ow (u8 r.k :: bX r) cap] := by
  have hm := rmay_b cw r hn true (decide_eq_true hM)
  have hl := wsB_length r.w r.n
  rw [show bX r = nB r.nm ++ (u8 r.n :: wsB r.w r.n) from bX_1 r e]
  have t6 : ¬ r.k = 6 := by omega
  have t7 : ¬ r.k = 7 := by omega
  have t1 : (r.k = 1) = True := eq_true e
  have t2 : ¬ r.k = 2 := by omega
  have t3 : ¬ r.k = 3 := by omega
  have t4 : ¬ r.k = 4 := by omega
  unfold recC at hm ⊢
  unfold ow
  refine VC.out ?_
  refine wbody Try.func23 rfl (by kernel_rfl) ?_
  rw [Try.ntmps23, Try.results23]
  simp (implicitDefEqProofs := false) (maxSteps := 1000000) only [rX1, bd, bdL, bdB, bdH, bdT, front, VLe, VLeL, BLe, Phan, TLe, HLe, ro, Blk.owned, CLe, rr, given, mrg, exct, shr, ren, renL, renB, Nat.reduceBEq, Nat.reduceBNe, rX0, ofVal, ofVals, cellsV, vStore.isTup, eqL, eqV, Blk.deg, oneV, elApp, Nat.reduceAdd, Nat.reduceSub, Nat.reduceMul, Nat.reduceLT, Nat.reduceLeDiff, Nat.reduceEqDiff, Int.reduceToNat, Int.reduceGT, Int.reduceGE, Int.reduceMul, Int.reduceLT, Int.reduceLE, Int.reduceAdd, Int.reduceSub, Int.reduceNeg, reduceCtorEq, Sf.T3, Sf.T4, Sf.T5, Sf.T22, Sf.T24, Sf.T26, Sf.T27, Sf.T89, Sf.T54, Sf.T29, Sf.T31, Sf.T32, nmC, nmV, rBE, ow, wrC, recC]
  refine vframe (hm) [0] (by rfl) (by simp only [rX2, bd, bdL, bdB, bdH, bdT, front, VLe, VLeL, BLe, Phan, TLe, HLe, ro, Blk.owned, CLe, rr, given, mrg, exct, shr, ren, renL, renB, Nat.reduceAdd, Nat.reduceSub, Nat.reduceLT, Nat.reduceLeDiff, Nat.reduceEqDiff, Nat.reduceBEq, Nat.reduceBNe, reduceCtorEq, nmC, nmV, rBE, ow, wrC, recC]) ?_
  rintro v h ⟨rfl, rfl⟩ -
  simp (implicitDefEqProofs := false) (maxSteps := 1000000) only [t6, t7, t1, t2, t3, t4, rX2, bd, bdL, bdB, bdH, bdT, front, VLe, VLeL, BLe, Phan, TLe, HLe, ro, Blk.owned, CLe, rr, given, mrg, exct, shr, ren, renL, renB, Nat.reduceAdd, Nat.reduceSub, Nat.reduceLT, Nat.reduceLeDiff, Nat.reduceEqDiff, Nat.reduceBEq, Nat.reduceBNe, reduceCtorEq, nmC, nmV, rBE, ow, wrC, recC, rX0, ofVal, ofVals, cellsV, vStore.isTup, eqL, eqV, Blk.deg, oneV, elApp, Nat.reduceAdd, Nat.reduceSub, Nat.reduceMul, Nat.reduceLT, Nat.reduceLeDiff, Nat.reduceEqDiff, Int.reduceToNat, Int.reduceGT, Int.reduceGE, Int.reduceMul, Int.reduceLT, Int.reduceLE, Int.reduceAdd, Int.reduceSub, Int.reduceNeg, reduceCtorEq, Sf.T3, Sf.T4, Sf.T5, Sf.T22, Sf.T24, Sf.T26, Sf.T27, Sf.T89, Sf.T54, Sf.T29, Sf.T31, Sf.T32, nmC, nmV, rBE, ow, wrC, recC]
  refine vframe (znamed_ok [u8 r.k] 1 r.nm (by simp)) [2] (by rfl) (by simp only [rX2, bd, bdL, bdB, bdH, bdT, front, VLe, VLeL, BLe, Phan, TLe, HLe, ro, Blk.owned, CLe, rr, given, mrg, exct, shr, ren, renL, renB, Nat.reduceAdd, Nat.reduceSub, Nat.reduceLT, Nat.reduceLeDiff, Nat.reduceEqDiff, Nat.reduceBEq, Nat.reduceBNe, reduceCtorEq, nmC, nmV, rBE, ow, wrC, recC]; exact fun j hj => one_u8 _ j hj) ?_
  rintro v h ⟨c1, rfl, rfl⟩ -
  simp (implicitDefEqProofs := false) (maxSteps := 1000000) only [t6, t7, t1, t2, t3, t4, rX2, bd, bdL, bdB, bdH, bdT, front, VLe, VLeL, BLe, Phan, TLe, HLe, ro, Blk.owned, CLe, rr, given, mrg, exct, shr, ren, renL, renB, Nat.reduceAdd, Nat.reduceSub, Nat.reduceLT, Nat.reduceLeDiff, Nat.reduceEqDiff, Nat.reduceBEq, Nat.reduceBNe, reduceCtorEq, nmC, nmV, rBE, ow, wrC, recC, rX0, ofVal, ofVals, cellsV, vStore.isTup, eqL, eqV, Blk.deg, oneV, elApp, Nat.reduceAdd, Nat.reduceSub, Nat.reduceMul, Nat.reduceLT, Nat.reduceLeDiff, Nat.reduceEqDiff, Int.reduceToNat, Int.reduceGT, Int.reduceGE, Int.reduceMul, Int.reduceLT, Int.reduceLE, Int.reduceAdd, Int.reduceSub, Int.reduceNeg, reduceCtorEq, Sf.T3, Sf.T4, Sf.T5, Sf.T22, Sf.T24, Sf.T26, Sf.T27, Sf.T89, Sf.T54, Sf.T29, Sf.T31, Sf.T32, nmC, nmV, rBE, ow, wrC, recC]
  refine vframe (zwrites_ok ([u8 r.k] ++ nB r.nm) c1 r.n cw r.w hn (by simp [nB_length])) [3, 0] (by rfl) (by simp only [rX2, bd, bdL, bdB, bdH, bdT, front, VLe, VLeL, BLe, Phan, TLe, HLe, ro, Blk.owned, CLe, rr, given, mrg, exct, shr, ren, renL, renB, Nat.reduceAdd, Nat.reduceSub, Nat.reduceLT, Nat.reduceLeDiff, Nat.reduceEqDiff, Nat.reduceBEq, Nat.reduceBNe, reduceCtorEq, nmC, nmV, rBE, ow, wrC, recC]) ?_
  rintro v h ⟨c2, rfl, rfl⟩ -
  simp (implicitDefEqProofs := false) (maxSteps := 1000000) only [rX2, bd, bdL, bdB, bdH, bdT, front, VLe, VLeL, BLe, Phan, TLe, HLe, ro, Blk.owned, CLe, rr, given, mrg, exct, shr, ren, renL, renB, Nat.reduceAdd, Nat.reduceSub, Nat.reduceLT, Nat.reduceLeDiff, Nat.reduceEqDiff, Nat.reduceBEq, Nat.reduceBNe, reduceCtorEq, nmC, nmV, rBE, ow, wrC, recC, rX0, ofVal, ofVals, cellsV, vStore.isTup, eqL, eqV, Blk.deg, oneV, elApp, Nat.reduceAdd, Nat.reduceSub, Nat.reduceMul, Nat.reduceLT, Nat.reduceLeDiff, Nat.reduceEqDiff, Int.reduceToNat, Int.reduceGT, Int.reduceGE, Int.reduceMul, Int.reduceLT, Int.reduceLE, Int.reduceAdd, Int.reduceSub, Int.reduceNeg, reduceCtorEq, Sf.T3, Sf.T4, Sf.T5, Sf.T22, Sf.T24, Sf.T26, Sf.T27, Sf.T89, Sf.T54, Sf.T29, Sf.T31, Sf.T32, nmC, nmV, rBE, ow, wrC, recC]
  exact ⟨_, _, Le.off [some 0, some 4] (by rfl) (by rfl) (by simp only [rX2, bd, bdL, bdB, bdH, bdT, front, VLe, VLeL, BLe, Phan, TLe, HLe, ro, Blk.owned, CLe, rr, given, mrg, exct, shr, ren, renL, renB, Nat.reduceAdd, Nat.reduceSub, Nat.reduceLT, Nat.reduceLeDiff, Nat.reduceEqDiff, Nat.reduceBEq, Nat.reduceBNe, reduceCtorEq, nmC, nmV, rBE, ow, wrC, recC]), c2, rfl, rfl⟩
theorem zbytes_2 (cw : Nat) (r : Rec) (hn : r.n ≤ 1000) (hM : MayR r) (e : r.k = 2) : VCall Try.prog 23 [.agg (recC r (.slice 0 r.n cw))] [.row 9 r.n fun j => wrC (r.w j)] fun v h => ∃ cap, v = .tup [.slice 1 (u8 r.k :: bX r).length cap, .int .i64 0] ∧ h = [.row 9 r.n fun j => wrC (r.w j), ow (u8 r.k :: bX r) cap] := by
  have hm := rmay_b cw r hn true (decide_eq_true hM)
  have hl := wsB_length r.w r.n
  rw [show bX r = nB r.nm ++ ((u8 r.n :: wsB r.w r.n) ++ [u8 r.give, u8 r.take]) from bX_2 r e]
  have t6 : ¬ r.k = 6 := by omega
  have t7 : ¬ r.k = 7 := by omega
  have t1 : ¬ r.k = 1 := by omega
  have t2 : (r.k = 2) = True := eq_true e
  have t3 : ¬ r.k = 3 := by omega
  have t4 : ¬ r.k = 4 := by omega
  unfold recC at hm ⊢
  unfold ow
  refine VC.out ?_
  refine wbody Try.func23 rfl (by kernel_rfl) ?_
  rw [Try.ntmps23, Try.results23]
  simp (implicitDefEqProofs := false) (maxSteps := 1000000) only [rX1, bd, bdL, bdB, bdH, bdT, front, VLe, VLeL, BLe, Phan, TLe, HLe, ro, Blk.owned, CLe, rr, given, mrg, exct, shr, ren, renL, renB, Nat.reduceBEq, Nat.reduceBNe, rX0, ofVal, ofVals, cellsV, vStore.isTup, eqL, eqV, Blk.deg, oneV, elApp, Nat.reduceAdd, Nat.reduceSub, Nat.reduceMul, Nat.reduceLT, Nat.reduceLeDiff, Nat.reduceEqDiff, Int.reduceToNat, Int.reduceGT, Int.reduceGE, Int.reduceMul, Int.reduceLT, Int.reduceLE, Int.reduceAdd, Int.reduceSub, Int.reduceNeg, reduceCtorEq, Sf.T3, Sf.T4, Sf.T5, Sf.T22, Sf.T24, Sf.T26, Sf.T27, Sf.T89, Sf.T54, Sf.T29, Sf.T31, Sf.T32, nmC, nmV, rBE, ow, wrC, recC]
  refine vframe (hm) [0] (by rfl) (by simp only [rX2, bd, bdL, bdB, bdH, bdT, front, VLe, VLeL, BLe, Phan, TLe, HLe, ro, Blk.owned, CLe, rr, given, mrg, exct, shr, ren, renL, renB, Nat.reduceAdd, Nat.reduceSub, Nat.reduceLT, Nat.reduceLeDiff, Nat.reduceEqDiff, Nat.reduceBEq, Nat.reduceBNe, reduceCtorEq, nmC, nmV, rBE, ow, wrC, recC]) ?_
  rintro v h ⟨rfl, rfl⟩ -
  simp (implicitDefEqProofs := false) (maxSteps := 1000000) only [t6, t7, t1, t2, t3, t4, rX2, bd, bdL, bdB, bdH, bdT, front, VLe, VLeL, BLe, Phan, TLe, HLe, ro, Blk.owned, CLe, rr, given, mrg, exct, shr, ren, renL, renB, Nat.reduceAdd, Nat.reduceSub, Nat.reduceLT, Nat.reduceLeDiff, Nat.reduceEqDiff, Nat.reduceBEq, Nat.reduceBNe, reduceCtorEq, nmC, nmV, rBE, ow, wrC, recC, rX0, ofVal, ofVals, cellsV, vStore.isTup, eqL, eqV, Blk.deg, oneV, elApp, Nat.reduceAdd, Nat.reduceSub, Nat.reduceMul, Nat.reduceLT, Nat.reduceLeDiff, Nat.reduceEqDiff, Int.reduceToNat, Int.reduceGT, Int.reduceGE, Int.reduceMul, Int.reduceLT, Int.reduceLE, Int.reduceAdd, Int.reduceSub, Int.reduceNeg, reduceCtorEq, Sf.T3, Sf.T4, Sf.T5, Sf.T22, Sf.T24, Sf.T26, Sf.T27, Sf.T89, Sf.T54, Sf.T29, Sf.T31, Sf.T32, nmC, nmV, rBE, ow, wrC, recC]
  refine vframe (znamed_ok [u8 r.k] 1 r.nm (by simp)) [2] (by rfl) (by simp only [rX2, bd, bdL, bdB, bdH, bdT, front, VLe, VLeL, BLe, Phan, TLe, HLe, ro, Blk.owned, CLe, rr, given, mrg, exct, shr, ren, renL, renB, Nat.reduceAdd, Nat.reduceSub, Nat.reduceLT, Nat.reduceLeDiff, Nat.reduceEqDiff, Nat.reduceBEq, Nat.reduceBNe, reduceCtorEq, nmC, nmV, rBE, ow, wrC, recC]; exact fun j hj => one_u8 _ j hj) ?_
  rintro v h ⟨c1, rfl, rfl⟩ -
  simp (implicitDefEqProofs := false) (maxSteps := 1000000) only [t6, t7, t1, t2, t3, t4, rX2, bd, bdL, bdB, bdH, bdT, front, VLe, VLeL, BLe, Phan, TLe, HLe, ro, Blk.owned, CLe, rr, given, mrg, exct, shr, ren, renL, renB, Nat.reduceAdd, Nat.reduceSub, Nat.reduceLT, Nat.reduceLeDiff, Nat.reduceEqDiff, Nat.reduceBEq, Nat.reduceBNe, reduceCtorEq, nmC, nmV, rBE, ow, wrC, recC, rX0, ofVal, ofVals, cellsV, vStore.isTup, eqL, eqV, Blk.deg, oneV, elApp, Nat.reduceAdd, Nat.reduceSub, Nat.reduceMul, Nat.reduceLT, Nat.reduceLeDiff, Nat.reduceEqDiff, Int.reduceToNat, Int.reduceGT, Int.reduceGE, Int.reduceMul, Int.reduceLT, Int.reduceLE, Int.reduceAdd, Int.reduceSub, Int.reduceNeg, reduceCtorEq, Sf.T3, Sf.T4, Sf.T5, Sf.T22, Sf.T24, Sf.T26, Sf.T27, Sf.T89, Sf.T54, Sf.T29, Sf.T31, Sf.T32, nmC, nmV, rBE, ow, wrC, recC]
  refine vframe (zwrites_ok ([u8 r.k] ++ nB r.nm) c1 r.n cw r.w hn (by simp [nB_length])) [3, 0] (by rfl) (by simp only [rX2, bd, bdL, bdB, bdH, bdT, front, VLe, VLeL, BLe, Phan, TLe, HLe, ro, Blk.owned, CLe, rr, given, mrg, exct, shr, ren, renL, renB, Nat.reduceAdd, Nat.reduceSub, Nat.reduceLT, Nat.reduceLeDiff, Nat.reduceEqDiff, Nat.reduceBEq, Nat.reduceBNe, reduceCtorEq, nmC, nmV, rBE, ow, wrC, recC]) ?_
  rintro v h ⟨c2, rfl, rfl⟩ -
  simp (implicitDefEqProofs := false) (maxSteps := 1000000) only [rX2, bd, bdL, bdB, bdH, bdT, front, VLe, VLeL, BLe, Phan, TLe, HLe, ro, Blk.owned, CLe, rr, given, mrg, exct, shr, ren, renL, renB, Nat.reduceAdd, Nat.reduceSub, Nat.reduceLT, Nat.reduceLeDiff, Nat.reduceEqDiff, Nat.reduceBEq, Nat.reduceBNe, reduceCtorEq, nmC, nmV, rBE, ow, wrC, recC, rX0, ofVal, ofVals, cellsV, vStore.isTup, eqL, eqV, Blk.deg, oneV, elApp, Nat.reduceAdd, Nat.reduceSub, Nat.reduceMul, Nat.reduceLT, Nat.reduceLeDiff, Nat.reduceEqDiff, Int.reduceToNat, Int.reduceGT, Int.reduceGE, Int.reduceMul, Int.reduceLT, Int.reduceLE, Int.reduceAdd, Int.reduceSub, Int.reduceNeg, reduceCtorEq, Sf.T3, Sf.T4, Sf.T5, Sf.T22, Sf.T24, Sf.T26, Sf.T27, Sf.T89, Sf.T54, Sf.T29, Sf.T31, Sf.T32, nmC, nmV, rBE, ow, wrC, recC]
  rw [show (nB r.nm ++ u8 r.n :: (wsB r.w r.n ++ [u8 r.give, u8 r.take]) : List Int) = (nB r.nm ++ u8 r.n :: wsB r.w r.n) ++ [u8 r.give, u8 r.take] by simp]
  generalize hY : (nB r.nm ++ u8 r.n :: wsB r.w r.n : List Int) = Y
  have hYl : Y.length ≤ 20000 := by rw [← hY]; simp [nB_length, hl] <;> omega
  have key : ∀ j, j < Y.length + 1 + 2 → elApp (Y.length + 1) (fun j => bE (u8 r.k :: Y) j) (chunk 1 [.int .u8 (IntKind.u8.wrap r.give), .int .u8 (IntKind.u8.wrap r.take)]) j = bE (u8 r.k :: (Y ++ [u8 r.give, u8 r.take])) j := fun j hj => bE_key (u8 r.k :: Y) [u8 r.give, u8 r.take] 2 rfl j hj
  refine ⟨⟨by omega, by simp only [maxI]; omega⟩, fun cap' _ _ => ?_⟩
  rw [show (Y ++ [u8 r.give, u8 r.take]).length + 1 = Y.length + 1 + 2 by simp <;> omega]
  exact ⟨_, _, Le.off [some 0, some 6] (by rfl) (by rfl) (by simp only [rX2, bd, bdL, bdB, bdH, bdT, front, VLe, VLeL, BLe, Phan, TLe, HLe, ro, Blk.owned, CLe, rr, given, mrg, exct, shr, ren, renL, renB, Nat.reduceAdd, Nat.reduceSub, Nat.reduceLT, Nat.reduceLeDiff, Nat.reduceEqDiff, Nat.reduceBEq, Nat.reduceBNe, reduceCtorEq, nmC, nmV, rBE, ow, wrC, recC]; intro j hj; rw [key j hj]; simp only [rX2, bd, bdL, bdB, bdH, bdT, front, VLe, VLeL, BLe, Phan, TLe, HLe, ro, Blk.owned, CLe, rr, given, mrg, exct, shr, ren, renL, renB, Nat.reduceAdd, Nat.reduceSub, Nat.reduceLT, Nat.reduceLeDiff, Nat.reduceEqDiff, Nat.reduceBEq, Nat.reduceBNe, reduceCtorEq, nmC, nmV, rBE, ow, wrC, recC]), cap', rfl, rfl⟩
theorem zbytes_3 (cw : Nat) (r : Rec) (hn : r.n ≤ 1000) (hM : MayR r) (e : r.k = 3) : VCall Try.prog 23 [.agg (recC r (.slice 0 r.n cw))] [.row 9 r.n fun j => wrC (r.w j)] fun v h => ∃ cap, v = .tup [.slice 1 (u8 r.k :: bX r).length cap, .int .i64 0] ∧ h = [.row 9 r.n fun j => wrC (r.w j), ow (u8 r.k :: bX r) cap] := by
  have hm := rmay_b cw r hn true (decide_eq_true hM)
  have hl := wsB_length r.w r.n
  rw [show bX r = nB r.nm ++ [fB r.yes] from bX_3 r e]
  have t6 : ¬ r.k = 6 := by omega
  have t7 : ¬ r.k = 7 := by omega
  have t1 : ¬ r.k = 1 := by omega
  have t2 : ¬ r.k = 2 := by omega
  have t3 : (r.k = 3) = True := eq_true e
  have t4 : ¬ r.k = 4 := by omega
  unfold recC at hm ⊢
  unfold ow
  refine VC.out ?_
  refine wbody Try.func23 rfl (by kernel_rfl) ?_
  rw [Try.ntmps23, Try.results23]
  simp (implicitDefEqProofs := false) (maxSteps := 1000000) only [rX1, bd, bdL, bdB, bdH, bdT, front, VLe, VLeL, BLe, Phan, TLe, HLe, ro, Blk.owned, CLe, rr, given, mrg, exct, shr, ren, renL, renB, Nat.reduceBEq, Nat.reduceBNe, rX0, ofVal, ofVals, cellsV, vStore.isTup, eqL, eqV, Blk.deg, oneV, elApp, Nat.reduceAdd, Nat.reduceSub, Nat.reduceMul, Nat.reduceLT, Nat.reduceLeDiff, Nat.reduceEqDiff, Int.reduceToNat, Int.reduceGT, Int.reduceGE, Int.reduceMul, Int.reduceLT, Int.reduceLE, Int.reduceAdd, Int.reduceSub, Int.reduceNeg, reduceCtorEq, Sf.T3, Sf.T4, Sf.T5, Sf.T22, Sf.T24, Sf.T26, Sf.T27, Sf.T89, Sf.T54, Sf.T29, Sf.T31, Sf.T32, nmC, nmV, rBE, ow, wrC, recC]
  refine vframe (hm) [0] (by rfl) (by simp only [rX2, bd, bdL, bdB, bdH, bdT, front, VLe, VLeL, BLe, Phan, TLe, HLe, ro, Blk.owned, CLe, rr, given, mrg, exct, shr, ren, renL, renB, Nat.reduceAdd, Nat.reduceSub, Nat.reduceLT, Nat.reduceLeDiff, Nat.reduceEqDiff, Nat.reduceBEq, Nat.reduceBNe, reduceCtorEq, nmC, nmV, rBE, ow, wrC, recC]) ?_
  rintro v h ⟨rfl, rfl⟩ -
  simp (implicitDefEqProofs := false) (maxSteps := 1000000) only [t6, t7, t1, t2, t3, t4, rX2, bd, bdL, bdB, bdH, bdT, front, VLe, VLeL, BLe, Phan, TLe, HLe, ro, Blk.owned, CLe, rr, given, mrg, exct, shr, ren, renL, renB, Nat.reduceAdd, Nat.reduceSub, Nat.reduceLT, Nat.reduceLeDiff, Nat.reduceEqDiff, Nat.reduceBEq, Nat.reduceBNe, reduceCtorEq, nmC, nmV, rBE, ow, wrC, recC, rX0, ofVal, ofVals, cellsV, vStore.isTup, eqL, eqV, Blk.deg, oneV, elApp, Nat.reduceAdd, Nat.reduceSub, Nat.reduceMul, Nat.reduceLT, Nat.reduceLeDiff, Nat.reduceEqDiff, Int.reduceToNat, Int.reduceGT, Int.reduceGE, Int.reduceMul, Int.reduceLT, Int.reduceLE, Int.reduceAdd, Int.reduceSub, Int.reduceNeg, reduceCtorEq, Sf.T3, Sf.T4, Sf.T5, Sf.T22, Sf.T24, Sf.T26, Sf.T27, Sf.T89, Sf.T54, Sf.T29, Sf.T31, Sf.T32, nmC, nmV, rBE, ow, wrC, recC]
  refine vframe (znamed_ok [u8 r.k] 1 r.nm (by simp)) [2] (by rfl) (by simp only [rX2, bd, bdL, bdB, bdH, bdT, front, VLe, VLeL, BLe, Phan, TLe, HLe, ro, Blk.owned, CLe, rr, given, mrg, exct, shr, ren, renL, renB, Nat.reduceAdd, Nat.reduceSub, Nat.reduceLT, Nat.reduceLeDiff, Nat.reduceEqDiff, Nat.reduceBEq, Nat.reduceBNe, reduceCtorEq, nmC, nmV, rBE, ow, wrC, recC]; exact fun j hj => one_u8 _ j hj) ?_
  rintro v h ⟨c1, rfl, rfl⟩ -
  simp (implicitDefEqProofs := false) (maxSteps := 1000000) only [t6, t7, t1, t2, t3, t4, rX2, bd, bdL, bdB, bdH, bdT, front, VLe, VLeL, BLe, Phan, TLe, HLe, ro, Blk.owned, CLe, rr, given, mrg, exct, shr, ren, renL, renB, Nat.reduceAdd, Nat.reduceSub, Nat.reduceLT, Nat.reduceLeDiff, Nat.reduceEqDiff, Nat.reduceBEq, Nat.reduceBNe, reduceCtorEq, nmC, nmV, rBE, ow, wrC, recC, rX0, ofVal, ofVals, cellsV, vStore.isTup, eqL, eqV, Blk.deg, oneV, elApp, Nat.reduceAdd, Nat.reduceSub, Nat.reduceMul, Nat.reduceLT, Nat.reduceLeDiff, Nat.reduceEqDiff, Int.reduceToNat, Int.reduceGT, Int.reduceGE, Int.reduceMul, Int.reduceLT, Int.reduceLE, Int.reduceAdd, Int.reduceSub, Int.reduceNeg, reduceCtorEq, Sf.T3, Sf.T4, Sf.T5, Sf.T22, Sf.T24, Sf.T26, Sf.T27, Sf.T89, Sf.T54, Sf.T29, Sf.T31, Sf.T32, nmC, nmV, rBE, ow, wrC, recC]
  refine vframe (rflag_ok' r.yes) [] (by rfl) (by simp only [rX2, bd, bdL, bdB, bdH, bdT, front, VLe, VLeL, BLe, Phan, TLe, HLe, ro, Blk.owned, CLe, rr, given, mrg, exct, shr, ren, renL, renB, Nat.reduceAdd, Nat.reduceSub, Nat.reduceLT, Nat.reduceLeDiff, Nat.reduceEqDiff, Nat.reduceBEq, Nat.reduceBNe, reduceCtorEq, nmC, nmV, rBE, ow, wrC, recC]) ?_
  rintro v h ⟨rfl, rfl⟩ -
  simp (implicitDefEqProofs := false) (maxSteps := 1000000) only [rX2, bd, bdL, bdB, bdH, bdT, front, VLe, VLeL, BLe, Phan, TLe, HLe, ro, Blk.owned, CLe, rr, given, mrg, exct, shr, ren, renL, renB, Nat.reduceAdd, Nat.reduceSub, Nat.reduceLT, Nat.reduceLeDiff, Nat.reduceEqDiff, Nat.reduceBEq, Nat.reduceBNe, reduceCtorEq, nmC, nmV, rBE, ow, wrC, recC, rX0, ofVal, ofVals, cellsV, vStore.isTup, eqL, eqV, Blk.deg, oneV, elApp, Nat.reduceAdd, Nat.reduceSub, Nat.reduceMul, Nat.reduceLT, Nat.reduceLeDiff, Nat.reduceEqDiff, Int.reduceToNat, Int.reduceGT, Int.reduceGE, Int.reduceMul, Int.reduceLT, Int.reduceLE, Int.reduceAdd, Int.reduceSub, Int.reduceNeg, reduceCtorEq, Sf.T3, Sf.T4, Sf.T5, Sf.T22, Sf.T24, Sf.T26, Sf.T27, Sf.T89, Sf.T54, Sf.T29, Sf.T31, Sf.T32, nmC, nmV, rBE, ow, wrC, recC]
  generalize hY : (nB r.nm : List Int) = Y
  have hYl : Y.length ≤ 20000 := by rw [← hY]; simp [nB_length, hl] <;> omega
  have key : ∀ j, j < Y.length + 1 + 1 → elApp (Y.length + 1) (fun j => bE (u8 r.k :: Y) j) (chunk 1 [.int .u8 (fB r.yes)]) j = bE (u8 r.k :: (Y ++ [fB r.yes])) j := fun j hj => bE_key (u8 r.k :: Y) [fB r.yes] 1 rfl j hj
  refine ⟨⟨by omega, by simp only [maxI]; omega⟩, fun cap' _ _ => ?_⟩
  rw [show (Y ++ [fB r.yes]).length + 1 = Y.length + 1 + 1 by simp <;> omega]
  exact ⟨_, _, Le.off [some 0, some 5] (by rfl) (by rfl) (by simp only [rX2, bd, bdL, bdB, bdH, bdT, front, VLe, VLeL, BLe, Phan, TLe, HLe, ro, Blk.owned, CLe, rr, given, mrg, exct, shr, ren, renL, renB, Nat.reduceAdd, Nat.reduceSub, Nat.reduceLT, Nat.reduceLeDiff, Nat.reduceEqDiff, Nat.reduceBEq, Nat.reduceBNe, reduceCtorEq, nmC, nmV, rBE, ow, wrC, recC]; intro j hj; rw [key j hj]; simp only [rX2, bd, bdL, bdB, bdH, bdT, front, VLe, VLeL, BLe, Phan, TLe, HLe, ro, Blk.owned, CLe, rr, given, mrg, exct, shr, ren, renL, renB, Nat.reduceAdd, Nat.reduceSub, Nat.reduceLT, Nat.reduceLeDiff, Nat.reduceEqDiff, Nat.reduceBEq, Nat.reduceBNe, reduceCtorEq, nmC, nmV, rBE, ow, wrC, recC]), cap', rfl, rfl⟩
theorem zbytes_4 (cw : Nat) (r : Rec) (hn : r.n ≤ 1000) (hM : MayR r) (e : r.k = 4) : VCall Try.prog 23 [.agg (recC r (.slice 0 r.n cw))] [.row 9 r.n fun j => wrC (r.w j)] fun v h => ∃ cap, v = .tup [.slice 1 (u8 r.k :: bX r).length cap, .int .i64 0] ∧ h = [.row 9 r.n fun j => wrC (r.w j), ow (u8 r.k :: bX r) cap] := by
  have hm := rmay_b cw r hn true (decide_eq_true hM)
  have hl := wsB_length r.w r.n
  rw [show bX r = nB r.nm ++ [u8 r.shards, u8 (IntKind.i64.wrap (r.st + 1)), u8 r.to_] from bX_4 r e]
  have t6 : ¬ r.k = 6 := by omega
  have t7 : ¬ r.k = 7 := by omega
  have t1 : ¬ r.k = 1 := by omega
  have t2 : ¬ r.k = 2 := by omega
  have t3 : ¬ r.k = 3 := by omega
  have t4 : (r.k = 4) = True := eq_true e
  unfold recC at hm ⊢
  unfold ow
  refine VC.out ?_
  refine wbody Try.func23 rfl (by kernel_rfl) ?_
  rw [Try.ntmps23, Try.results23]
  simp (implicitDefEqProofs := false) (maxSteps := 1000000) only [rX1, bd, bdL, bdB, bdH, bdT, front, VLe, VLeL, BLe, Phan, TLe, HLe, ro, Blk.owned, CLe, rr, given, mrg, exct, shr, ren, renL, renB, Nat.reduceBEq, Nat.reduceBNe, rX0, ofVal, ofVals, cellsV, vStore.isTup, eqL, eqV, Blk.deg, oneV, elApp, Nat.reduceAdd, Nat.reduceSub, Nat.reduceMul, Nat.reduceLT, Nat.reduceLeDiff, Nat.reduceEqDiff, Int.reduceToNat, Int.reduceGT, Int.reduceGE, Int.reduceMul, Int.reduceLT, Int.reduceLE, Int.reduceAdd, Int.reduceSub, Int.reduceNeg, reduceCtorEq, Sf.T3, Sf.T4, Sf.T5, Sf.T22, Sf.T24, Sf.T26, Sf.T27, Sf.T89, Sf.T54, Sf.T29, Sf.T31, Sf.T32, nmC, nmV, rBE, ow, wrC, recC]
  refine vframe (hm) [0] (by rfl) (by simp only [rX2, bd, bdL, bdB, bdH, bdT, front, VLe, VLeL, BLe, Phan, TLe, HLe, ro, Blk.owned, CLe, rr, given, mrg, exct, shr, ren, renL, renB, Nat.reduceAdd, Nat.reduceSub, Nat.reduceLT, Nat.reduceLeDiff, Nat.reduceEqDiff, Nat.reduceBEq, Nat.reduceBNe, reduceCtorEq, nmC, nmV, rBE, ow, wrC, recC]) ?_
  rintro v h ⟨rfl, rfl⟩ -
  simp (implicitDefEqProofs := false) (maxSteps := 1000000) only [t6, t7, t1, t2, t3, t4, rX2, bd, bdL, bdB, bdH, bdT, front, VLe, VLeL, BLe, Phan, TLe, HLe, ro, Blk.owned, CLe, rr, given, mrg, exct, shr, ren, renL, renB, Nat.reduceAdd, Nat.reduceSub, Nat.reduceLT, Nat.reduceLeDiff, Nat.reduceEqDiff, Nat.reduceBEq, Nat.reduceBNe, reduceCtorEq, nmC, nmV, rBE, ow, wrC, recC, rX0, ofVal, ofVals, cellsV, vStore.isTup, eqL, eqV, Blk.deg, oneV, elApp, Nat.reduceAdd, Nat.reduceSub, Nat.reduceMul, Nat.reduceLT, Nat.reduceLeDiff, Nat.reduceEqDiff, Int.reduceToNat, Int.reduceGT, Int.reduceGE, Int.reduceMul, Int.reduceLT, Int.reduceLE, Int.reduceAdd, Int.reduceSub, Int.reduceNeg, reduceCtorEq, Sf.T3, Sf.T4, Sf.T5, Sf.T22, Sf.T24, Sf.T26, Sf.T27, Sf.T89, Sf.T54, Sf.T29, Sf.T31, Sf.T32, nmC, nmV, rBE, ow, wrC, recC]
  refine vframe (znamed_ok [u8 r.k] 1 r.nm (by simp)) [2] (by rfl) (by simp only [rX2, bd, bdL, bdB, bdH, bdT, front, VLe, VLeL, BLe, Phan, TLe, HLe, ro, Blk.owned, CLe, rr, given, mrg, exct, shr, ren, renL, renB, Nat.reduceAdd, Nat.reduceSub, Nat.reduceLT, Nat.reduceLeDiff, Nat.reduceEqDiff, Nat.reduceBEq, Nat.reduceBNe, reduceCtorEq, nmC, nmV, rBE, ow, wrC, recC]; exact fun j hj => one_u8 _ j hj) ?_
  rintro v h ⟨c1, rfl, rfl⟩ -
  simp (implicitDefEqProofs := false) (maxSteps := 1000000) only [t6, t7, t1, t2, t3, t4, rX2, bd, bdL, bdB, bdH, bdT, front, VLe, VLeL, BLe, Phan, TLe, HLe, ro, Blk.owned, CLe, rr, given, mrg, exct, shr, ren, renL, renB, Nat.reduceAdd, Nat.reduceSub, Nat.reduceLT, Nat.reduceLeDiff, Nat.reduceEqDiff, Nat.reduceBEq, Nat.reduceBNe, reduceCtorEq, nmC, nmV, rBE, ow, wrC, recC, rX0, ofVal, ofVals, cellsV, vStore.isTup, eqL, eqV, Blk.deg, oneV, elApp, Nat.reduceAdd, Nat.reduceSub, Nat.reduceMul, Nat.reduceLT, Nat.reduceLeDiff, Nat.reduceEqDiff, Int.reduceToNat, Int.reduceGT, Int.reduceGE, Int.reduceMul, Int.reduceLT, Int.reduceLE, Int.reduceAdd, Int.reduceSub, Int.reduceNeg, reduceCtorEq, Sf.T3, Sf.T4, Sf.T5, Sf.T22, Sf.T24, Sf.T26, Sf.T27, Sf.T89, Sf.T54, Sf.T29, Sf.T31, Sf.T32, nmC, nmV, rBE, ow, wrC, recC]
  generalize hY : (nB r.nm : List Int) = Y
  have hYl : Y.length ≤ 20000 := by rw [← hY]; simp [nB_length, hl] <;> omega
  have key : ∀ j, j < Y.length + 1 + 3 → elApp (Y.length + 1) (fun j => bE (u8 r.k :: Y) j) (chunk 1 [.int .u8 (IntKind.u8.wrap r.shards), .int .u8 (IntKind.u8.wrap (IntKind.i64.wrap (r.st + 1))), .int .u8 (IntKind.u8.wrap r.to_)]) j = bE (u8 r.k :: (Y ++ [u8 r.shards, u8 (IntKind.i64.wrap (r.st + 1)), u8 r.to_])) j := fun j hj => bE_key (u8 r.k :: Y) [u8 r.shards, u8 (IntKind.i64.wrap (r.st + 1)), u8 r.to_] 3 rfl j hj
  refine ⟨⟨by omega, by simp only [maxI]; omega⟩, fun cap' _ _ => ?_⟩
  rw [show (Y ++ [u8 r.shards, u8 (IntKind.i64.wrap (r.st + 1)), u8 r.to_]).length + 1 = Y.length + 1 + 3 by simp <;> omega]
  exact ⟨_, _, Le.off [some 0, some 5] (by rfl) (by rfl) (by simp only [rX2, bd, bdL, bdB, bdH, bdT, front, VLe, VLeL, BLe, Phan, TLe, HLe, ro, Blk.owned, CLe, rr, given, mrg, exct, shr, ren, renL, renB, Nat.reduceAdd, Nat.reduceSub, Nat.reduceLT, Nat.reduceLeDiff, Nat.reduceEqDiff, Nat.reduceBEq, Nat.reduceBNe, reduceCtorEq, nmC, nmV, rBE, ow, wrC, recC]; intro j hj; rw [key j hj]; simp only [rX2, bd, bdL, bdB, bdH, bdT, front, VLe, VLeL, BLe, Phan, TLe, HLe, ro, Blk.owned, CLe, rr, given, mrg, exct, shr, ren, renL, renB, Nat.reduceAdd, Nat.reduceSub, Nat.reduceLT, Nat.reduceLeDiff, Nat.reduceEqDiff, Nat.reduceBEq, Nat.reduceBNe, reduceCtorEq, nmC, nmV, rBE, ow, wrC, recC]), cap', rfl, rfl⟩
theorem zbytes_ok0 (cw : Nat) (r : Rec) (hn : r.n ≤ 1000) : VCall Try.prog 23 [.agg (recC r (.slice 0 r.n cw))] [.row 9 r.n fun j => wrC (r.w j)] fun v h => ∃ cap, v = .tup [.slice 1 (rB r).length cap, .int .i64 (rE r)] ∧ h = [.row 9 r.n fun j => wrC (r.w j), ow (rB r) cap] := by
  by_cases hM : MayR r
  · rw [show rB r = u8 r.k :: bX r from if_pos hM, show rE r = 0 from if_pos hM]
    have hc : r.k = 1 ∨ r.k = 2 ∨ r.k = 3 ∨ r.k = 4 ∨ r.k = 5 ∨ r.k = 6 ∨ r.k = 7 := by
      by_cases c : r.k = 1 ∨ r.k = 2 ∨ r.k = 3 ∨ r.k = 4 ∨ r.k = 5 ∨ r.k = 6 ∨ r.k = 7
      · exact c
      · have := hM.1
        unfold Such at this
        rw [if_neg (by omega), if_neg (by omega), if_neg (by omega), if_neg (by omega), if_neg (by omega), if_neg (by omega), if_neg (by omega)] at this
        exact this.elim
    rcases hc with e | e | e | e | e | e | e
    · exact zbytes_1 cw r hn hM e
    · exact zbytes_2 cw r hn hM e
    · exact zbytes_3 cw r hn hM e
    · exact zbytes_4 cw r hn hM e
    · exact zbytes_5 cw r hn hM e
    · exact zbytes_6 cw r hn hM e
    · exact zbytes_7 cw r hn hM e
  · rw [show rB r = [] from if_neg hM, show rE r = 2 from if_neg hM]
    exact zbytes_no cw r hn hM
theorem zbytes_ok (cw : Nat) (r : Rec) (hn : r.n ≤ 1000) : VCall Try.prog 23 [.agg (recC r (.slice 0 r.n cw))] [.row 9 r.n fun j => wrC (r.w j)] fun v h =>
      ∃ cap, (rB r).length ≤ cap ∧ v = .tup [.slice 1 (rB r).length cap, .int .i64 (rE r)] ∧ h = [.row 9 r.n fun j => wrC (r.w j), ow (rB r) cap] :=
  (VC.facts (zbytes_ok0 cw r hn)).mono fun v h ⟨⟨cap, hv, hh⟩, hf⟩ => by subst hh; exact ⟨cap, (hf 1 _ _ _ _ _ rfl).1, hv, rfl⟩
theorem zsectors_ok (cw : Nat) (r : Rec) (hn : r.n ≤ 1000) :
    VCall Try.prog 24 [.agg (recC r (.slice 0 r.n cw))] [.row 9 r.n fun j => wrC (r.w j)] fun v h =>
      v = .tup [.int .i64 (((rB r).length + 45 - 1 : Int) / 45), .int .i64 (rE r)] ∧ h = [.row 9 r.n fun j => wrC (r.w j)] := by
  have hb := zbytes_ok cw r hn
  have hl := rB_length r hn
  by_cases hM : MayR r
  · rw [show rE r = 0 from if_pos hM] at hb ⊢
    unfold recC at hb ⊢
    refine VCall.trim 1 (Nat.le_of_ble_eq_true rfl) ?_
    refine wbody Try.func24 rfl (by kernel_rfl) ?_
    rw [Try.ntmps24, Try.results24]
    simp (implicitDefEqProofs := false) (maxSteps := 1000000) only [rX1, bd, bdL, bdB, bdH, bdT, front, VLe, VLeL, BLe, Phan, TLe, HLe, ro, Blk.owned, CLe, rr, given, mrg, exct, shr, ren, renL, renB, Nat.reduceBEq, Nat.reduceBNe, rX0, ofVal, ofVals, cellsV, vStore.isTup, eqL, eqV, Blk.deg, oneV, elApp, Nat.reduceAdd, Nat.reduceSub, Nat.reduceMul, Nat.reduceLT, Nat.reduceLeDiff, Nat.reduceEqDiff, Int.reduceToNat, Int.reduceGT, Int.reduceGE, Int.reduceMul, Int.reduceLT, Int.reduceLE, Int.reduceAdd, Int.reduceSub, Int.reduceNeg, reduceCtorEq, Sf.T3, Sf.T4, Sf.T5, Sf.T22, Sf.T24, Sf.T26, Sf.T27, Sf.T89, Sf.T54, Sf.T29, Sf.T31, Sf.T32, nmC, nmV, rBE, ow, wrC, recC]
    refine vframe (hb) [0] (by rfl) (by simp only [rX2, bd, bdL, bdB, bdH, bdT, front, VLe, VLeL, BLe, Phan, TLe, HLe, ro, Blk.owned, CLe, rr, given, mrg, exct, shr, ren, renL, renB, Nat.reduceAdd, Nat.reduceSub, Nat.reduceLT, Nat.reduceLeDiff, Nat.reduceEqDiff, Nat.reduceBEq, Nat.reduceBNe, reduceCtorEq, nmC, nmV, rBE, ow, wrC, recC]) ?_
    rintro v h ⟨cap, hcap, rfl, rfl⟩ -
    simp (implicitDefEqProofs := false) (maxSteps := 1000000) only [rX2, bd, bdL, bdB, bdH, bdT, front, VLe, VLeL, BLe, Phan, TLe, HLe, ro, Blk.owned, CLe, rr, given, mrg, exct, shr, ren, renL, renB, Nat.reduceAdd, Nat.reduceSub, Nat.reduceLT, Nat.reduceLeDiff, Nat.reduceEqDiff, Nat.reduceBEq, Nat.reduceBNe, reduceCtorEq, nmC, nmV, rBE, ow, wrC, recC, rX0, ofVal, ofVals, cellsV, vStore.isTup, eqL, eqV, Blk.deg, oneV, elApp, Nat.reduceAdd, Nat.reduceSub, Nat.reduceMul, Nat.reduceLT, Nat.reduceLeDiff, Nat.reduceEqDiff, Int.reduceToNat, Int.reduceGT, Int.reduceGE, Int.reduceMul, Int.reduceLT, Int.reduceLE, Int.reduceAdd, Int.reduceSub, Int.reduceNeg, reduceCtorEq, Sf.T3, Sf.T4, Sf.T5, Sf.T22, Sf.T24, Sf.T26, Sf.T27, Sf.T89, Sf.T54, Sf.T29, Sf.T31, Sf.T32, nmC, nmV, rBE, ow, wrC, recC]
    refine ⟨by omega, ?_⟩
    have e1 : IntKind.i64.wrap (((rB r).length : Int) + 45) = (rB r).length + 45 := IntWalk.i64_in _ (by omega)
    have e2 : IntKind.i64.wrap (((rB r).length : Int) + 45 - 1) = (rB r).length + 45 - 1 := IntWalk.i64_in _ (by omega)
    rw [e1, e2, Int.tdiv_eq_ediv_of_nonneg (by omega), IntWalk.i64_in _ (by omega)]
  · rw [show rE r = 2 from if_neg hM, show rB r = [] from if_neg hM] at hb ⊢
    unfold recC at hb ⊢
    refine VCall.trim 1 (Nat.le_of_ble_eq_true rfl) ?_
    refine wbody Try.func24 rfl (by kernel_rfl) ?_
    rw [Try.ntmps24, Try.results24]
    simp (implicitDefEqProofs := false) (maxSteps := 1000000) only [rX1, bd, bdL, bdB, bdH, bdT, front, VLe, VLeL, BLe, Phan, TLe, HLe, ro, Blk.owned, CLe, rr, given, mrg, exct, shr, ren, renL, renB, Nat.reduceBEq, Nat.reduceBNe, rX0, ofVal, ofVals, cellsV, vStore.isTup, eqL, eqV, Blk.deg, oneV, elApp, Nat.reduceAdd, Nat.reduceSub, Nat.reduceMul, Nat.reduceLT, Nat.reduceLeDiff, Nat.reduceEqDiff, Int.reduceToNat, Int.reduceGT, Int.reduceGE, Int.reduceMul, Int.reduceLT, Int.reduceLE, Int.reduceAdd, Int.reduceSub, Int.reduceNeg, reduceCtorEq, Sf.T3, Sf.T4, Sf.T5, Sf.T22, Sf.T24, Sf.T26, Sf.T27, Sf.T89, Sf.T54, Sf.T29, Sf.T31, Sf.T32, nmC, nmV, rBE, ow, wrC, recC]
    refine vframe (hb) [0] (by rfl) (by simp only [rX2, bd, bdL, bdB, bdH, bdT, front, VLe, VLeL, BLe, Phan, TLe, HLe, ro, Blk.owned, CLe, rr, given, mrg, exct, shr, ren, renL, renB, Nat.reduceAdd, Nat.reduceSub, Nat.reduceLT, Nat.reduceLeDiff, Nat.reduceEqDiff, Nat.reduceBEq, Nat.reduceBNe, reduceCtorEq, nmC, nmV, rBE, ow, wrC, recC]) ?_
    rintro v h ⟨cap, hcap, rfl, rfl⟩ -
    simp (implicitDefEqProofs := false) (maxSteps := 1000000) only [rX2, bd, bdL, bdB, bdH, bdT, front, VLe, VLeL, BLe, Phan, TLe, HLe, ro, Blk.owned, CLe, rr, given, mrg, exct, shr, ren, renL, renB, Nat.reduceAdd, Nat.reduceSub, Nat.reduceLT, Nat.reduceLeDiff, Nat.reduceEqDiff, Nat.reduceBEq, Nat.reduceBNe, reduceCtorEq, nmC, nmV, rBE, ow, wrC, recC, rX0, ofVal, ofVals, cellsV, vStore.isTup, eqL, eqV, Blk.deg, oneV, elApp, Nat.reduceAdd, Nat.reduceSub, Nat.reduceMul, Nat.reduceLT, Nat.reduceLeDiff, Nat.reduceEqDiff, Int.reduceToNat, Int.reduceGT, Int.reduceGE, Int.reduceMul, Int.reduceLT, Int.reduceLE, Int.reduceAdd, Int.reduceSub, Int.reduceNeg, reduceCtorEq, Sf.T3, Sf.T4, Sf.T5, Sf.T22, Sf.T24, Sf.T26, Sf.T27, Sf.T89, Sf.T54, Sf.T29, Sf.T31, Sf.T32, nmC, nmV, rBE, ow, wrC, recC]
    exact ⟨fun _ => rfl, fun h => by omega⟩
end Go.Proofs.Ytnlammgemaapnaa
