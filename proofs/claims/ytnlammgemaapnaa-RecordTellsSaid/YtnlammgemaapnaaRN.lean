/- Layer 7: a record's bytes, whatever the kind. -/
import Derived.Test.YtnlammgemaapnaaRM
set_option linter.unusedSimpArgs false
set_option linter.unusedVariables false
set_option maxRecDepth 100000
namespace Go.Proofs.Ytnlammgemaapnaa
open Go Go.Sx
def rB (r : Rec) : List Int := if MayR r then u8 r.k :: bX r else []
def rE (r : Rec) : Int := if MayR r then 0 else 2
theorem bytes_no (cw : Nat) (r : Rec) (hn : r.n ≤ 1000)
    (hm : VCall Try.prog 20 [.agg (recC r (.slice 0 r.n cw))] [.row 9 r.n fun j => wrC (r.w j)] fun v h => v = .bool false ∧ h = [.row 9 r.n fun j => wrC (r.w j)]) :
    VCall Try.prog 19 [.agg (recC r (.slice 0 r.n cw))] [.row 9 r.n fun j => wrC (r.w j)] fun v h =>
      ∃ cap, v = .tup [.slice 1 ([] : List Int).length cap, .int .i64 2] ∧ h = [.row 9 r.n fun j => wrC (r.w j), ow [] cap] := by
  unfold recC at hm ⊢
  unfold ow
  refine VC.out ?_
  refine wbody Try.func19 rfl (by kernel_rfl) ?_
  rw [Try.ntmps19, Try.results19]
  simp (implicitDefEqProofs := false) (maxSteps := 1000000) only [rX1, bd, bdL, bdB, bdH, bdT, front, VLe, VLeL, BLe, Phan, TLe, HLe, ro, Blk.owned, CLe, rr, given, mrg, exct, shr, ren, renL, renB, Nat.reduceBEq, Nat.reduceBNe, rX0, ofVal, ofVals, cellsV, vStore.isTup, eqL, eqV, Blk.deg, oneV, elApp, Nat.reduceAdd, Nat.reduceSub, Nat.reduceMul, Nat.reduceLT, Nat.reduceLeDiff, Nat.reduceEqDiff, Int.reduceToNat, Int.reduceGT, Int.reduceGE, Int.reduceMul, Int.reduceLT, Int.reduceLE, Int.reduceAdd, Int.reduceSub, Int.reduceNeg, reduceCtorEq, Sf.T3, Sf.T4, Sf.T24, Sf.T26, Sf.T5, Sf.T22, Sf.T27, Sf.T89, Sf.T139, Sf.T29, Sf.T31, Sf.T75, Sf.T76, Sf.T77, Sf.T79, Sf.T70, nmC, nmV, rBE, wr, ow, wrC, recC, rc, fmN, fmM]
  refine vframe (hm) [0] (by rfl) (by simp only [rX2, bd, bdL, bdB, bdH, bdT, front, VLe, VLeL, BLe, Phan, TLe, HLe, ro, Blk.owned, CLe, rr, given, mrg, exct, shr, ren, renL, renB, Nat.reduceAdd, Nat.reduceSub, Nat.reduceLT, Nat.reduceLeDiff, Nat.reduceEqDiff, Nat.reduceBEq, Nat.reduceBNe, reduceCtorEq, nmC, nmV, rBE, wr, ow, wrC, recC, rc, fmN, fmM]) ?_
  rintro v h ⟨rfl, rfl⟩ -
  simp (implicitDefEqProofs := false) (maxSteps := 1000000) only [rX2, bd, bdL, bdB, bdH, bdT, front, VLe, VLeL, BLe, Phan, TLe, HLe, ro, Blk.owned, CLe, rr, given, mrg, exct, shr, ren, renL, renB, Nat.reduceAdd, Nat.reduceSub, Nat.reduceLT, Nat.reduceLeDiff, Nat.reduceEqDiff, Nat.reduceBEq, Nat.reduceBNe, reduceCtorEq, nmC, nmV, rBE, wr, ow, wrC, recC, rc, fmN, fmM, rX0, ofVal, ofVals, cellsV, vStore.isTup, eqL, eqV, Blk.deg, oneV, elApp, Nat.reduceAdd, Nat.reduceSub, Nat.reduceMul, Nat.reduceLT, Nat.reduceLeDiff, Nat.reduceEqDiff, Int.reduceToNat, Int.reduceGT, Int.reduceGE, Int.reduceMul, Int.reduceLT, Int.reduceLE, Int.reduceAdd, Int.reduceSub, Int.reduceNeg, reduceCtorEq, Sf.T3, Sf.T4, Sf.T24, Sf.T26, Sf.T5, Sf.T22, Sf.T27, Sf.T89, Sf.T139, Sf.T29, Sf.T31, Sf.T75, Sf.T76, Sf.T77, Sf.T79, Sf.T70, nmC, nmV, rBE, wr, ow, wrC, recC, rc, fmN, fmM]
  exact ⟨_, _, Le.off [some 0, none] (by rfl) (by rfl) (by simp only [rX2, bd, bdL, bdB, bdH, bdT, front, VLe, VLeL, BLe, Phan, TLe, HLe, ro, Blk.owned, CLe, rr, given, mrg, exct, shr, ren, renL, renB, Nat.reduceAdd, Nat.reduceSub, Nat.reduceLT, Nat.reduceLeDiff, Nat.reduceEqDiff, Nat.reduceBEq, Nat.reduceBNe, reduceCtorEq, nmC, nmV, rBE, wr, ow, wrC, recC, rc, fmN, fmM]), 0, rfl, rfl⟩
theorem bX_length (r : Rec) (hn : r.n ≤ 1000) : (bX r).length ≤ 20000 := by
  unfold bX
  split
  · simp [nB_length, wsB_length]; omega
  · split
    · simp [nB_length, wsB_length]; omega
    · split
      · simp [nB_length]
      · split
        · simp [nB_length]
        · split
          · simp [nB_length]
          · simp [b3_length]
theorem bytes_ok0 (cw : Nat) (r : Rec) (hn : r.n ≤ 1000) (hk : -128 ≤ r.k ∧ r.k ≤ 127) (hw : RecW r) :
    VCall Try.prog 19 [.agg (recC r (.slice 0 r.n cw))] [.row 9 r.n fun j => wrC (r.w j)] fun v h =>
      ∃ cap, v = .tup [.slice 1 (rB r).length cap, .int .i64 (rE r)] ∧ h = [.row 9 r.n fun j => wrC (r.w j), ow (rB r) cap] := by
  have hm := may_ok cw r hn hk hw
  by_cases hM : MayR r
  · have e1 : rB r = u8 r.k :: bX r := if_pos hM
    have e2 : rE r = 0 := if_pos hM
    rw [decide_eq_true hM] at hm
    have hl := bX_length r hn
    rw [e1, e2]
    have hc : r.k = 1 ∨ r.k = 2 ∨ r.k = 3 ∨ r.k = 4 ∨ r.k = 5 ∨ r.k = 6 ∨ r.k = 7 := by
      by_cases c : r.k = 1 ∨ r.k = 2 ∨ r.k = 3 ∨ r.k = 4 ∨ r.k = 5 ∨ r.k = 6 ∨ r.k = 7
      · exact c
      · have := hM.1
        unfold Such at this
        rw [if_neg (by omega), if_neg (by omega), if_neg (by omega), if_neg (by omega), if_neg (by omega), if_neg (by omega), if_neg (by omega)] at this
        exact this.elim
    rcases hc with e | e | e | e | e | e | e
    · rw [bX_1 r e] at hl ⊢
      exact bytes_named _ _ _ _ plocal_ok cw r hn hl (by rw [e]; exact of_1) hm
    · rw [bX_2 r e] at hl ⊢
      exact bytes_named _ _ _ _ pprep_ok cw r hn hl (by rw [e]; exact of_2) hm
    · rw [bX_3 r e] at hl ⊢
      exact bytes_named _ _ _ _ pout_ok cw r hn hl (by rw [e]; exact of_3) hm
    · rw [bX_4 r e] at hl ⊢
      exact bytes_named _ _ _ _ pcommit_ok cw r hn hl (by rw [e]; exact of_4) hm
    · rw [bX_5 r e] at hl ⊢
      exact bytes_named _ _ _ _ pend_ok cw r hn hl (by rw [e]; exact of_5) hm
    · rw [bX_6 r e] at hl ⊢
      exact bytes_num 1048577 cw r hn hl (by rw [e]; exact of_6) hm
    · rw [bX_7 r e] at hl ⊢
      exact bytes_num 1048576 cw r hn hl (by rw [e]; exact of_7) hm
  · have e1 : rB r = [] := if_neg hM
    have e2 : rE r = 2 := if_neg hM
    rw [decide_eq_false hM] at hm
    rw [e1, e2]
    exact bytes_no cw r hn hm
theorem Bytes_ok (cw : Nat) (r : Rec) (hn : r.n ≤ 1000) (hk : -128 ≤ r.k ∧ r.k ≤ 127) (hw : RecW r) :
    VCall Try.prog 19 [.agg (recC r (.slice 0 r.n cw))] [.row 9 r.n fun j => wrC (r.w j)] fun v h =>
      ∃ cap, (rB r).length ≤ cap ∧ v = .tup [.slice 1 (rB r).length cap, .int .i64 (rE r)] ∧ h = [.row 9 r.n fun j => wrC (r.w j), ow (rB r) cap] :=
  (VC.facts (bytes_ok0 cw r hn hk hw)).mono fun v h ⟨⟨cap, hv, hh⟩, hf⟩ => by subst hh; exact ⟨cap, (hf 1 _ _ _ _ _ rfl).1, hv, rfl⟩
theorem rB_length (r : Rec) (hn : r.n ≤ 1000) : (rB r).length ≤ 20001 := by
  unfold rB
  split
  · have := bX_length r hn
    simp only [List.length_cons]; omega
  · simp
theorem sectors_ok (cw : Nat) (r : Rec) (hn : r.n ≤ 1000) (hk : -128 ≤ r.k ∧ r.k ≤ 127) (hw : RecW r) :
    VCall Try.prog 21 [.agg (recC r (.slice 0 r.n cw))] [.row 9 r.n fun j => wrC (r.w j)] fun v h =>
      v = .tup [.int .i64 (((rB r).length + 45 - 1 : Int) / 45), .int .i64 (rE r)] ∧ h = [.row 9 r.n fun j => wrC (r.w j)] := by
  have hb := Bytes_ok cw r hn hk hw
  have hl := rB_length r hn
  unfold recC at hb ⊢
  refine VCall.trim 1 (Nat.le_of_ble_eq_true rfl) ?_
  refine wbody Try.func21 rfl (by kernel_rfl) ?_
  rw [Try.ntmps21, Try.results21]
  simp (implicitDefEqProofs := false) (maxSteps := 1000000) only [rX1, bd, bdL, bdB, bdH, bdT, front, VLe, VLeL, BLe, Phan, TLe, HLe, ro, Blk.owned, CLe, rr, given, mrg, exct, shr, ren, renL, renB, Nat.reduceBEq, Nat.reduceBNe, rX0, ofVal, ofVals, cellsV, vStore.isTup, eqL, eqV, Blk.deg, oneV, elApp, Nat.reduceAdd, Nat.reduceSub, Nat.reduceMul, Nat.reduceLT, Nat.reduceLeDiff, Nat.reduceEqDiff, Int.reduceToNat, Int.reduceGT, Int.reduceGE, Int.reduceMul, Int.reduceLT, Int.reduceLE, Int.reduceAdd, Int.reduceSub, Int.reduceNeg, reduceCtorEq, Sf.T3, Sf.T4, Sf.T24, Sf.T26, Sf.T5, Sf.T22, Sf.T27, Sf.T89, Sf.T139, Sf.T29, Sf.T31, Sf.T75, Sf.T76, Sf.T77, Sf.T79, Sf.T70, nmC, nmV, rBE, wr, ow, wrC, recC, rc, fmN, fmM]
  refine vframe (hb) [0] (by rfl) (by simp only [rX2, bd, bdL, bdB, bdH, bdT, front, VLe, VLeL, BLe, Phan, TLe, HLe, ro, Blk.owned, CLe, rr, given, mrg, exct, shr, ren, renL, renB, Nat.reduceAdd, Nat.reduceSub, Nat.reduceLT, Nat.reduceLeDiff, Nat.reduceEqDiff, Nat.reduceBEq, Nat.reduceBNe, reduceCtorEq, nmC, nmV, rBE, wr, ow, wrC, recC, rc, fmN, fmM]) ?_
  rintro v h ⟨cap, hcap, rfl, rfl⟩ -
  simp (implicitDefEqProofs := false) (maxSteps := 1000000) only [rX2, bd, bdL, bdB, bdH, bdT, front, VLe, VLeL, BLe, Phan, TLe, HLe, ro, Blk.owned, CLe, rr, given, mrg, exct, shr, ren, renL, renB, Nat.reduceAdd, Nat.reduceSub, Nat.reduceLT, Nat.reduceLeDiff, Nat.reduceEqDiff, Nat.reduceBEq, Nat.reduceBNe, reduceCtorEq, nmC, nmV, rBE, wr, ow, wrC, recC, rc, fmN, fmM, rX0, ofVal, ofVals, cellsV, vStore.isTup, eqL, eqV, Blk.deg, oneV, elApp, Nat.reduceAdd, Nat.reduceSub, Nat.reduceMul, Nat.reduceLT, Nat.reduceLeDiff, Nat.reduceEqDiff, Int.reduceToNat, Int.reduceGT, Int.reduceGE, Int.reduceMul, Int.reduceLT, Int.reduceLE, Int.reduceAdd, Int.reduceSub, Int.reduceNeg, reduceCtorEq, Sf.T3, Sf.T4, Sf.T24, Sf.T26, Sf.T5, Sf.T22, Sf.T27, Sf.T89, Sf.T139, Sf.T29, Sf.T31, Sf.T75, Sf.T76, Sf.T77, Sf.T79, Sf.T70, nmC, nmV, rBE, wr, ow, wrC, recC, rc, fmN, fmM]
  refine ⟨by omega, ?_⟩
  have e1 : IntKind.i64.wrap (((rB r).length : Int) + 45) = (rB r).length + 45 := IntWalk.i64_in _ (by omega)
  have e2 : IntKind.i64.wrap (((rB r).length : Int) + 45 - 1) = (rB r).length + 45 - 1 := IntWalk.i64_in _ (by omega)
  rw [e1, e2, Int.tdiv_eq_ediv_of_nonneg (by omega), IntWalk.i64_in _ (by omega)]
end Go.Proofs.Ytnlammgemaapnaa
