/- Layer 7: May, and a record's bytes, whatever the kind. -/
import Derived.Test.YtnlammgemaapnaaRJ
import Derived.Test.YtnlammgemaapnaaRK
set_option linter.unusedSimpArgs false
set_option linter.unusedVariables false
set_option maxRecDepth 100000
namespace Go.Proofs.Ytnlammgemaapnaa
open Go Go.Sx
theorem may_none (cw : Nat) (r : Rec) (hn : r.n ≤ 1000) (hk : r.k ≤ 0 ∨ 8 ≤ r.k) (hk' : IntKind.i64.wrap r.k = r.k) :
    VCall Try.prog 20 [.agg (recC r (.slice 0 r.n cw))] [.row 9 r.n fun j => wrC (r.w j)] fun v h => v = .bool false ∧ h = [.row 9 r.n fun j => wrC (r.w j)] := by
  have hof := of_none r.k hk hk'
  unfold recC
  refine VCall.trim 1 (Nat.le_of_ble_eq_true rfl) ?_
  refine wbody Try.func20 rfl (by kernel_rfl) ?_
  rw [Try.ntmps20, Try.results20]
  simp (implicitDefEqProofs := false) (maxSteps := 1000000) only [rX1, bd, bdL, bdB, bdH, bdT, front, VLe, VLeL, BLe, Phan, TLe, HLe, ro, Blk.owned, CLe, rr, given, mrg, exct, shr, ren, renL, renB, Nat.reduceBEq, Nat.reduceBNe, rX0, ofVal, ofVals, cellsV, vStore.isTup, eqL, eqV, Blk.deg, oneV, elApp, Nat.reduceAdd, Nat.reduceSub, Nat.reduceMul, Nat.reduceLT, Nat.reduceLeDiff, Nat.reduceEqDiff, Int.reduceToNat, Int.reduceGT, Int.reduceGE, Int.reduceMul, Int.reduceLT, Int.reduceLE, Int.reduceAdd, Int.reduceSub, Int.reduceNeg, reduceCtorEq, Sf.T3, Sf.T4, Sf.T24, Sf.T26, Sf.T5, Sf.T22, Sf.T27, Sf.T89, Sf.T139, Sf.T29, Sf.T31, Sf.T75, Sf.T76, Sf.T77, Sf.T79, Sf.T70, nmC, nmV, rBE, wr, ow, wrC, recC, rc, fmN, fmM]
  refine vframe (hof) [] (by rfl) (by simp only [rX2, bd, bdL, bdB, bdH, bdT, front, VLe, VLeL, BLe, Phan, TLe, HLe, ro, Blk.owned, CLe, rr, given, mrg, exct, shr, ren, renL, renB, Nat.reduceAdd, Nat.reduceSub, Nat.reduceLT, Nat.reduceLeDiff, Nat.reduceEqDiff, Nat.reduceBEq, Nat.reduceBNe, reduceCtorEq, nmC, nmV, rBE, wr, ow, wrC, recC, rc, fmN, fmM]) ?_
  rintro v h ⟨rfl, rfl⟩ -
  simp (implicitDefEqProofs := false) (maxSteps := 1000000) only [rX2, bd, bdL, bdB, bdH, bdT, front, VLe, VLeL, BLe, Phan, TLe, HLe, ro, Blk.owned, CLe, rr, given, mrg, exct, shr, ren, renL, renB, Nat.reduceAdd, Nat.reduceSub, Nat.reduceLT, Nat.reduceLeDiff, Nat.reduceEqDiff, Nat.reduceBEq, Nat.reduceBNe, reduceCtorEq, nmC, nmV, rBE, wr, ow, wrC, recC, rc, fmN, fmM, rX0, ofVal, ofVals, cellsV, vStore.isTup, eqL, eqV, Blk.deg, oneV, elApp, Nat.reduceAdd, Nat.reduceSub, Nat.reduceMul, Nat.reduceLT, Nat.reduceLeDiff, Nat.reduceEqDiff, Int.reduceToNat, Int.reduceGT, Int.reduceGE, Int.reduceMul, Int.reduceLT, Int.reduceLE, Int.reduceAdd, Int.reduceSub, Int.reduceNeg, reduceCtorEq, Sf.T3, Sf.T4, Sf.T24, Sf.T26, Sf.T5, Sf.T22, Sf.T27, Sf.T89, Sf.T139, Sf.T29, Sf.T31, Sf.T75, Sf.T76, Sf.T77, Sf.T79, Sf.T70, nmC, nmV, rBE, wr, ow, wrC, recC, rc, fmN, fmM]
theorem flds_1 (r : Rec) (e : r.k = 1) : flds r = { ({ rk 0 ⟨0, 0, 0⟩ with n := r.n, w := r.w }) with k := r.k, nm := r.nm } := by
  unfold flds; rw [if_pos e]; try rfl
theorem such_1 (r : Rec) (e : r.k = 1) : Such r = (Named r.nm ∧ (fun r => Written r.n r.w) r) := by
  unfold Such; rw [if_pos e]; try rfl
theorem bX_1 (r : Rec) (e : r.k = 1) : bX r = nB r.nm ++ (fun r => u8 r.n :: wsB r.w r.n) r := by
  unfold bX; rw [if_pos e]; try rfl
theorem flds_2 (r : Rec) (e : r.k = 2) : flds r = { ({ rk 0 ⟨0, 0, 0⟩ with n := r.n, w := r.w, give := r.give, take := r.take }) with k := r.k, nm := r.nm } := by
  unfold flds; rw [if_neg (by omega)]; rw [if_pos e]; try rfl
theorem such_2 (r : Rec) (e : r.k = 2) : Such r = (Named r.nm ∧ (fun r => Written r.n r.w ∧ Gives r) r) := by
  unfold Such; rw [if_neg (by omega)]; rw [if_pos e]; try rfl
theorem bX_2 (r : Rec) (e : r.k = 2) : bX r = nB r.nm ++ (fun r => (u8 r.n :: wsB r.w r.n) ++ [u8 r.give, u8 r.take]) r := by
  unfold bX; rw [if_neg (by omega)]; rw [if_pos e]; try rfl
theorem flds_3 (r : Rec) (e : r.k = 3) : flds r = { ({ rk 0 ⟨0, 0, 0⟩ with yes := r.yes }) with k := r.k, nm := r.nm } := by
  unfold flds; rw [if_neg (by omega)]; rw [if_neg (by omega)]; rw [if_pos e]; try rfl
theorem such_3 (r : Rec) (e : r.k = 3) : Such r = (Named r.nm ∧ (fun _ => True) r) := by
  unfold Such; rw [if_neg (by omega)]; rw [if_neg (by omega)]; rw [if_pos e]; try rfl
theorem bX_3 (r : Rec) (e : r.k = 3) : bX r = nB r.nm ++ (fun r => [fB r.yes]) r := by
  unfold bX; rw [if_neg (by omega)]; rw [if_neg (by omega)]; rw [if_pos e]; try rfl
theorem flds_4 (r : Rec) (e : r.k = 4) : flds r = { ({ rk 0 ⟨0, 0, 0⟩ with shards := r.shards, st := r.st, to_ := r.to_ }) with k := r.k, nm := r.nm } := by
  unfold flds; rw [if_neg (by omega)]; rw [if_neg (by omega)]; rw [if_neg (by omega)]; rw [if_pos e]; try rfl
theorem such_4 (r : Rec) (e : r.k = 4) : Such r = (Named r.nm ∧ (Commits) r) := by
  unfold Such; rw [if_neg (by omega)]; rw [if_neg (by omega)]; rw [if_neg (by omega)]; rw [if_pos e]; try rfl
theorem bX_4 (r : Rec) (e : r.k = 4) : bX r = nB r.nm ++ (fun r => [u8 r.shards, u8 (IntKind.i64.wrap (r.st + 1)), u8 r.to_]) r := by
  unfold bX; rw [if_neg (by omega)]; rw [if_neg (by omega)]; rw [if_neg (by omega)]; rw [if_pos e]; try rfl
theorem flds_5 (r : Rec) (e : r.k = 5) : flds r = { (rk 0 ⟨0, 0, 0⟩) with k := r.k, nm := r.nm } := by
  unfold flds; rw [if_neg (by omega)]; rw [if_neg (by omega)]; rw [if_neg (by omega)]; rw [if_neg (by omega)]; rw [if_pos e]; try rfl
theorem such_5 (r : Rec) (e : r.k = 5) : Such r = (Named r.nm ∧ (fun _ => True) r) := by
  unfold Such; rw [if_neg (by omega)]; rw [if_neg (by omega)]; rw [if_neg (by omega)]; rw [if_neg (by omega)]; rw [if_pos e]; try rfl
theorem bX_5 (r : Rec) (e : r.k = 5) : bX r = nB r.nm ++ (fun r => []) r := by
  unfold bX; rw [if_neg (by omega)]; rw [if_neg (by omega)]; rw [if_neg (by omega)]; rw [if_neg (by omega)]; rw [if_pos e]; try rfl
theorem flds_6 (r : Rec) (e : r.k = 6) : flds r = { rk 0 ⟨0, 0, 0⟩ with num := r.num, k := r.k } := by
  unfold flds; rw [if_neg (by omega)]; rw [if_neg (by omega)]; rw [if_neg (by omega)]; rw [if_neg (by omega)]; rw [if_neg (by omega)]; try rfl
theorem such_6 (r : Rec) (e : r.k = 6) : Such r = (1 ≤ r.num ∧ r.num ≤ 1048577) := by
  unfold Such; rw [if_neg (by omega)]; rw [if_neg (by omega)]; rw [if_neg (by omega)]; rw [if_neg (by omega)]; rw [if_neg (by omega)]; rw [if_pos e]
theorem bX_6 (r : Rec) (e : r.k = 6) : bX r = b3 r.num := by
  unfold bX; rw [if_neg (by omega)]; rw [if_neg (by omega)]; rw [if_neg (by omega)]; rw [if_neg (by omega)]; rw [if_neg (by omega)]
theorem flds_7 (r : Rec) (e : r.k = 7) : flds r = { rk 0 ⟨0, 0, 0⟩ with num := r.num, k := r.k } := by
  unfold flds; rw [if_neg (by omega)]; rw [if_neg (by omega)]; rw [if_neg (by omega)]; rw [if_neg (by omega)]; rw [if_neg (by omega)]; try rfl
theorem such_7 (r : Rec) (e : r.k = 7) : Such r = (1 ≤ r.num ∧ r.num ≤ 1048576) := by
  unfold Such; rw [if_neg (by omega)]; rw [if_neg (by omega)]; rw [if_neg (by omega)]; rw [if_neg (by omega)]; rw [if_neg (by omega)]; rw [if_neg (by omega)]; rw [if_pos e]
theorem bX_7 (r : Rec) (e : r.k = 7) : bX r = b3 r.num := by
  unfold bX; rw [if_neg (by omega)]; rw [if_neg (by omega)]; rw [if_neg (by omega)]; rw [if_neg (by omega)]; rw [if_neg (by omega)]
theorem may_ok (cw : Nat) (r : Rec) (hn : r.n ≤ 1000) (hk : -128 ≤ r.k ∧ r.k ≤ 127) (hw : RecW r) :
    VCall Try.prog 20 [.agg (recC r (.slice 0 r.n cw))] [.row 9 r.n fun j => wrC (r.w j)] fun v h => v = .bool (decide (MayR r)) ∧ h = [.row 9 r.n fun j => wrC (r.w j)] := by
  have hB := Bys.bX r hw
  by_cases h0 : r.k ≤ 0 ∨ 8 ≤ r.k
  · refine (may_none cw r hn h0 (IntWalk.i64_in _ (by omega))).mono fun v h hh => ⟨hh.1.trans (congrArg VV.bool (decide_eq_false fun hm => ?_).symm), hh.2⟩
    have := hm.1
    unfold Such at this
    rw [if_neg (by omega), if_neg (by omega), if_neg (by omega), if_neg (by omega), if_neg (by omega), if_neg (by omega), if_neg (by omega)] at this
    exact this
  have hc : r.k = 1 ∨ r.k = 2 ∨ r.k = 3 ∨ r.k = 4 ∨ r.k = 5 ∨ r.k = 6 ∨ r.k = 7 := by omega
  rcases hc with e | e | e | e | e | e | e
  · rw [bX_1 r e] at hB
    refine (may_named _ _ _ _ _ _ plocal_ok glocal_ok slocal_ok cw r hn (SameR r (flds r)) (by rw [e]; exact of_1) (fun _ => hB) fun hs k' bad' r' hg => ?_).mono fun v h hh => ⟨hh.1.trans (congrArg VV.bool (decide_eq_decide.2 (by unfold MayR; rw [such_1 r e]))), hh.2⟩
    have := (back_named back_local [] [] r r.k k' bad' r' hs.1 hs.2 (by rw [List.append_nil]; exact hg)).2.2
    rw [flds_1 r e]
    exact SameR.iff this
  · rw [bX_2 r e] at hB
    refine (may_named _ _ _ _ _ _ pprep_ok gprep_ok sprep_ok cw r hn (SameR r (flds r)) (by rw [e]; exact of_2) (fun _ => hB) fun hs k' bad' r' hg => ?_).mono fun v h hh => ⟨hh.1.trans (congrArg VV.bool (decide_eq_decide.2 (by unfold MayR; rw [such_2 r e]))), hh.2⟩
    have := (back_named back_prep [] [] r r.k k' bad' r' hs.1 hs.2 (by rw [List.append_nil]; exact hg)).2.2
    rw [flds_2 r e]
    exact SameR.iff this
  · rw [bX_3 r e] at hB
    refine (may_named _ _ _ _ _ _ pout_ok gout_ok syes_ok cw r hn (SameR r (flds r)) (by rw [e]; exact of_3) (fun _ => hB) fun hs k' bad' r' hg => ?_).mono fun v h hh => ⟨hh.1.trans (congrArg VV.bool (decide_eq_decide.2 (by unfold MayR; rw [such_3 r e]))), hh.2⟩
    have := (back_named back_out [] [] r r.k k' bad' r' hs.1 hs.2 (by rw [List.append_nil]; exact hg)).2.2
    rw [flds_3 r e]
    exact SameR.iff this
  · rw [bX_4 r e] at hB
    refine (may_named _ _ _ _ _ _ pcommit_ok gcommit_ok scommit_ok cw r hn (SameR r (flds r)) (by rw [e]; exact of_4) (fun _ => hB) fun hs k' bad' r' hg => ?_).mono fun v h hh => ⟨hh.1.trans (congrArg VV.bool (decide_eq_decide.2 (by unfold MayR; rw [such_4 r e]))), hh.2⟩
    have := (back_named back_commit [] [] r r.k k' bad' r' hs.1 hs.2 (by rw [List.append_nil]; exact hg)).2.2
    rw [flds_4 r e]
    exact SameR.iff this
  · rw [bX_5 r e] at hB
    refine (may_named _ _ _ _ _ _ pend_ok gend_ok syes_ok cw r hn (SameR r (flds r)) (by rw [e]; exact of_5) (fun _ => hB) fun hs k' bad' r' hg => ?_).mono fun v h hh => ⟨hh.1.trans (congrArg VV.bool (decide_eq_decide.2 (by unfold MayR; rw [such_5 r e]))), hh.2⟩
    have := (back_named back_end [] [] r r.k k' bad' r' hs.1 hs.2 (by rw [List.append_nil]; exact hg)).2.2
    rw [flds_5 r e]
    exact SameR.iff this
  · rw [bX_6 r e] at hB
    refine (may_num 1048577 cw r hn (SameR r (flds r)) (by rw [e]; exact of_6) (fun _ => hB) fun hs k' bad' r' hg => ?_).mono fun v h hh => ⟨hh.1.trans (congrArg VV.bool (decide_eq_decide.2 (by unfold MayR; rw [such_6 r e]))), hh.2⟩
    have := (back_num [] [] r r.k ⟨0, 0, 0⟩ k' bad' r' ⟨hs.1, by have := hs.2; omega⟩ (by rw [List.append_nil]; exact hg)).2.2
    rw [flds_6 r e]
    exact SameR.iff this
  · rw [bX_7 r e] at hB
    refine (may_num 1048576 cw r hn (SameR r (flds r)) (by rw [e]; exact of_7) (fun _ => hB) fun hs k' bad' r' hg => ?_).mono fun v h hh => ⟨hh.1.trans (congrArg VV.bool (decide_eq_decide.2 (by unfold MayR; rw [such_7 r e]))), hh.2⟩
    have := (back_num [] [] r r.k ⟨0, 0, 0⟩ k' bad' r' ⟨hs.1, by have := hs.2; omega⟩ (by rw [List.append_nil]; exact hg)).2.2
    rw [flds_7 r e]
    exact SameR.iff this
end Go.Proofs.Ytnlammgemaapnaa
