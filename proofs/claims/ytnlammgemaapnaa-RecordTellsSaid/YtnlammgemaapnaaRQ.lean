/- Layer 7: what the document says of an outcome. -/
import Derived.Test.YtnlammgemaapnaaRP
set_option linter.unusedSimpArgs false
set_option linter.unusedVariables false
set_option maxRecDepth 100000
namespace Go.Proofs.Ytnlammgemaapnaa
open Go Go.Sx
def w0 : Rec := ⟨3, ⟨1, 1, 1⟩, true, 0, fun _ => ⟨0, fun _ => 0⟩, 0, 0, 0, 0, 0, 0⟩
def wB0 : List Int := [3, 1, 0, 0, 1, 0, 0, 1, 0, 0, 1]
theorem may_w0 : MayR w0 := by decide
theorem rB_w0 : rB w0 = wB0 := by
  unfold rB
  rw [if_pos may_w0]; decide
theorem rE_w0 : rE w0 = 0 := if_pos may_w0
theorem no_w0 (r' : Rec) : ¬ Good (wB0 ++ [0]) r' := by
  rintro ⟨x, R, k', e, h1, h2, hg, hl, _⟩
  injection e with e1 e2
  subst e1; subst e2
  rw [getK_3 rfl] at hg
  obtain ⟨rfl, _, _⟩ := hg
  exact absurd hl (by decide)
theorem bys_w0 : Bys (wB0 ++ [0]) := by unfold Bys; decide
theorem read_w0 (cap : Nat) (hc : wB0.length + 1 ≤ cap) : VCall Try.prog 15 [.slice 0 (wB0.length + 1) cap] [.row 1 (wB0.length + 1) (bE (wB0 ++ [0]))] fun v h =>
    ∃ co, v = .tup [.agg (recC zr (.slice 1 zr.n co)), .int .i64 40] ∧ h = [.row 1 (wB0.length + 1) (bE (wB0 ++ [0])), .own 89 9 zr.n co fun j => wrC (zr.w j)] :=
  (read_ok (wB0 ++ [0]) cap bys_w0 (by decide) hc).mono fun v h hh => by
    obtain ⟨r, e, co, ⟨hg, _⟩ | ⟨_, rfl, rfl⟩, hv, hh⟩ := hh
    · exact (no_w0 _ hg).elim
    · exact ⟨co, hv, hh⟩
theorem app_w0 (j : Nat) (hj : j < wB0.length + 1) : elApp wB0.length (elApp 0 (chunk 1 []) fun j => bE wB0 j) (chunk 1 [.int .u8 0]) j = bE (wB0 ++ [0]) j := by
  have e0 : (elApp 0 (chunk 1 []) fun j => bE wB0 j) = bE wB0 := funext fun j => rfl
  rw [e0]; exact bE_one wB0 0 j hj
theorem str_w0 : ((bytesOf wB0.length fun j => bE wB0 j) == { data := #[3, 1, 0, 0, 1, 0, 0, 1, 0, 0, 1] }) = true := by rfl
theorem wakes_ok : VCall Try.prog 14 [] [] fun v h => v = .bool true ∧ h = [] := by
  have hb := Bytes_ok 0 w0 (by decide) (by decide) (recW0 rfl)
  rw [rB_w0, rE_w0] at hb
  unfold recC ow at hb
  refine VCall.trim 0 (Nat.le_of_ble_eq_true rfl) ?_
  refine wbody Try.func14 rfl (by kernel_rfl) ?_
  rw [Try.ntmps14, Try.results14]
  simp (implicitDefEqProofs := false) (maxSteps := 1000000) only [rX1, bd, bdL, bdB, bdH, bdT, front, VLe, VLeL, BLe, Phan, TLe, HLe, ro, Blk.owned, CLe, rr, given, mrg, exct, shr, ren, renL, renB, Nat.reduceBEq, Nat.reduceBNe, rX0, ofVal, ofVals, cellsV, vStore.isTup, eqL, eqV, Blk.deg, oneV, elApp, Nat.reduceAdd, Nat.reduceSub, Nat.reduceMul, Nat.reduceLT, Nat.reduceLeDiff, Nat.reduceEqDiff, Int.reduceToNat, Int.reduceGT, Int.reduceGE, Int.reduceMul, Int.reduceLT, Int.reduceLE, Int.reduceAdd, Int.reduceSub, Int.reduceNeg, reduceCtorEq, Sf.T3, Sf.T4, Sf.T24, Sf.T26, Sf.T5, Sf.T22, Sf.T27, Sf.T89, Sf.T29, Sf.T31, Sf.T9, Sf.T32, nmC, nmV, rBE, ow, wrC, rw, recC, w0, zr, rk]
  refine VC.le [.agg (recC w0 (.slice 1 0 0))] [.cells true 26 [.int .i64 1, .int .i64 1, .int .i64 1], .row 9 0 fun j => wrC (w0.w j)] (Le.off [some 0, none] (by rfl) (by rfl) (by simp only [rX2, bd, bdL, bdB, bdH, bdT, front, VLe, VLeL, BLe, Phan, TLe, HLe, ro, Blk.owned, CLe, rr, given, mrg, exct, shr, ren, renL, renB, Nat.reduceAdd, Nat.reduceSub, Nat.reduceLT, Nat.reduceLeDiff, Nat.reduceEqDiff, Nat.reduceBEq, Nat.reduceBNe, reduceCtorEq, nmC, nmV, rBE, ow, wrC, rw, recC, w0, zr, rk])) ?_
  refine vframe (hb) [1] (by rfl) (by simp only [rX2, bd, bdL, bdB, bdH, bdT, front, VLe, VLeL, BLe, Phan, TLe, HLe, ro, Blk.owned, CLe, rr, given, mrg, exct, shr, ren, renL, renB, Nat.reduceAdd, Nat.reduceSub, Nat.reduceLT, Nat.reduceLeDiff, Nat.reduceEqDiff, Nat.reduceBEq, Nat.reduceBNe, reduceCtorEq, nmC, nmV, rBE, ow, wrC, rw, recC, w0, zr, rk]) ?_
  rintro v h ⟨cap, hcap, rfl, rfl⟩ -
  simp (implicitDefEqProofs := false) (maxSteps := 1000000) only [rX2, bd, bdL, bdB, bdH, bdT, front, VLe, VLeL, BLe, Phan, TLe, HLe, ro, Blk.owned, CLe, rr, given, mrg, exct, shr, ren, renL, renB, Nat.reduceAdd, Nat.reduceSub, Nat.reduceLT, Nat.reduceLeDiff, Nat.reduceEqDiff, Nat.reduceBEq, Nat.reduceBNe, reduceCtorEq, nmC, nmV, rBE, ow, wrC, rw, recC, w0, zr, rk, rX0, ofVal, ofVals, cellsV, vStore.isTup, eqL, eqV, Blk.deg, oneV, elApp, Nat.reduceAdd, Nat.reduceSub, Nat.reduceMul, Nat.reduceLT, Nat.reduceLeDiff, Nat.reduceEqDiff, Int.reduceToNat, Int.reduceGT, Int.reduceGE, Int.reduceMul, Int.reduceLT, Int.reduceLE, Int.reduceAdd, Int.reduceSub, Int.reduceNeg, reduceCtorEq, Sf.T3, Sf.T4, Sf.T24, Sf.T26, Sf.T5, Sf.T22, Sf.T27, Sf.T89, Sf.T29, Sf.T31, Sf.T9, Sf.T32, nmC, nmV, rBE, ow, wrC, rw, recC, w0, zr, rk]
  refine ⟨⟨by decide, by decide⟩, fun c1 _ _ => ⟨⟨by decide, by decide⟩, fun c2 hc2 _ => ?_⟩⟩
  refine vframe (read_w0 c2 hc2) [6] (by rfl) (by simp only [rX2, bd, bdL, bdB, bdH, bdT, front, VLe, VLeL, BLe, Phan, TLe, HLe, ro, Blk.owned, CLe, rr, given, mrg, exct, shr, ren, renL, renB, Nat.reduceAdd, Nat.reduceSub, Nat.reduceLT, Nat.reduceLeDiff, Nat.reduceEqDiff, Nat.reduceBEq, Nat.reduceBNe, reduceCtorEq, nmC, nmV, rBE, ow, wrC, rw, recC, w0, zr, rk]; intro j hj; exact app_w0 j hj) ?_
  rintro v h ⟨co, rfl, rfl⟩ -
  simp (implicitDefEqProofs := false) (maxSteps := 1000000) only [rX2, bd, bdL, bdB, bdH, bdT, front, VLe, VLeL, BLe, Phan, TLe, HLe, ro, Blk.owned, CLe, rr, given, mrg, exct, shr, ren, renL, renB, Nat.reduceAdd, Nat.reduceSub, Nat.reduceLT, Nat.reduceLeDiff, Nat.reduceEqDiff, Nat.reduceBEq, Nat.reduceBNe, reduceCtorEq, nmC, nmV, rBE, ow, wrC, rw, recC, w0, zr, rk, rX0, ofVal, ofVals, cellsV, vStore.isTup, eqL, eqV, Blk.deg, oneV, elApp, Nat.reduceAdd, Nat.reduceSub, Nat.reduceMul, Nat.reduceLT, Nat.reduceLeDiff, Nat.reduceEqDiff, Int.reduceToNat, Int.reduceGT, Int.reduceGE, Int.reduceMul, Int.reduceLT, Int.reduceLE, Int.reduceAdd, Int.reduceSub, Int.reduceNeg, reduceCtorEq, Sf.T3, Sf.T4, Sf.T24, Sf.T26, Sf.T5, Sf.T22, Sf.T27, Sf.T89, Sf.T29, Sf.T31, Sf.T9, Sf.T32, nmC, nmV, rBE, ow, wrC, rw, recC, w0, zr, rk]
  rw [str_w0]
  simp (implicitDefEqProofs := false) (maxSteps := 1000000) only [rX2, bd, bdL, bdB, bdH, bdT, front, VLe, VLeL, BLe, Phan, TLe, HLe, ro, Blk.owned, CLe, rr, given, mrg, exct, shr, ren, renL, renB, Nat.reduceAdd, Nat.reduceSub, Nat.reduceLT, Nat.reduceLeDiff, Nat.reduceEqDiff, Nat.reduceBEq, Nat.reduceBNe, reduceCtorEq, nmC, nmV, rBE, ow, wrC, rw, recC, w0, zr, rk, rX0, ofVal, ofVals, cellsV, vStore.isTup, eqL, eqV, Blk.deg, oneV, elApp, Nat.reduceAdd, Nat.reduceSub, Nat.reduceMul, Nat.reduceLT, Nat.reduceLeDiff, Nat.reduceEqDiff, Int.reduceToNat, Int.reduceGT, Int.reduceGE, Int.reduceMul, Int.reduceLT, Int.reduceLE, Int.reduceAdd, Int.reduceSub, Int.reduceNeg, reduceCtorEq, Sf.T3, Sf.T4, Sf.T24, Sf.T26, Sf.T5, Sf.T22, Sf.T27, Sf.T89, Sf.T29, Sf.T31, Sf.T9, Sf.T32, nmC, nmV, rBE, ow, wrC, rw, recC, w0, zr, rk]
end Go.Proofs.Ytnlammgemaapnaa
