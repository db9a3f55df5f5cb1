/- Layer 15: which messages may be, kind by kind. -/
import Derived.Test.YtnlammgemaapnaaTK
import Derived.Test.YtnlammgemaapnaaTL
import Derived.Test.YtnlammgemaapnaaTM
set_option linter.unusedSimpArgs false
set_option linter.unusedVariables false
set_option maxRecDepth 100000
namespace Go.Proofs.Ytnlammgemaapnaa
open Go Go.Sx
theorem body_nil (d : Bool) (cw : Nat) (m : Msg) : VCall Try.prog 74 [.ptr 0 0 0 0, .ptr 1 0 0 0] [.cells false 113 [.bool d, .nilSlice, .func 85 [] []], mc m 2 cw, .row 9 m.n fun j => wrC (m.w j)] fun v h => v = .nilSlice ∧ h = [.cells false 113 [.bool d, .nilSlice, .func 85 [] []], mc m 2 cw, .row 9 m.n fun j => wrC (m.w j)] := by
  refine VC.out ?_
  refine wbody Try.func74 rfl (by kernel_rfl) ?_
  rw [Try.ntmps74, Try.results74]
  simp (implicitDefEqProofs := false) (maxSteps := 1000000) only [rX1, bd, bdL, bdB, bdH, bdT, front, VLe, VLeL, BLe, Phan, TLe, HLe, ro, Blk.owned, CLe, rr, given, mrg, exct, shr, ren, renL, renB, Nat.reduceBEq, Nat.reduceBNe, rX0, ofVal, ofVals, cellsV, vStore.isTup, eqL, eqV, Blk.deg, oneV, elApp, Nat.reduceAdd, Nat.reduceSub, Nat.reduceMul, Nat.reduceLT, Nat.reduceLeDiff, Nat.reduceEqDiff, Int.reduceToNat, Int.reduceGT, Int.reduceGE, Int.reduceMul, Int.reduceLT, Int.reduceLE, Int.reduceAdd, Int.reduceSub, Int.reduceNeg, reduceCtorEq, Sf.T3, Sf.T4, Sf.T24, Sf.T5, Sf.T22, Sf.T26, Sf.T27, Sf.T89, Sf.T54, Sf.T32, Sf.T145, Sf.T56, Sf.T159, Sf.T147, Sf.T121, Sf.T122, Sf.T111, Sf.T124, Sf.T110, Sf.T113, Sf.T116, Sf.T120, nmC, nmV, wrC, rBE, mc, msC, ow, wR, rw, xm, bsM, rIE]
  refine vrounds 1 ?_
  simp (implicitDefEqProofs := false) (maxSteps := 1000000) only [rX2, bd, bdL, bdB, bdH, bdT, front, VLe, VLeL, BLe, Phan, TLe, HLe, ro, Blk.owned, CLe, rr, given, mrg, exct, shr, ren, renL, renB, Nat.reduceAdd, Nat.reduceSub, Nat.reduceLT, Nat.reduceLeDiff, Nat.reduceEqDiff, Nat.reduceBEq, Nat.reduceBNe, reduceCtorEq, nmC, nmV, wrC, rBE, mc, msC, ow, wR, rw, xm, bsM, rIE, rX0, ofVal, ofVals, cellsV, vStore.isTup, eqL, eqV, Blk.deg, oneV, elApp, Nat.reduceAdd, Nat.reduceSub, Nat.reduceMul, Nat.reduceLT, Nat.reduceLeDiff, Nat.reduceEqDiff, Int.reduceToNat, Int.reduceGT, Int.reduceGE, Int.reduceMul, Int.reduceLT, Int.reduceLE, Int.reduceAdd, Int.reduceSub, Int.reduceNeg, reduceCtorEq, Sf.T3, Sf.T4, Sf.T24, Sf.T5, Sf.T22, Sf.T26, Sf.T27, Sf.T89, Sf.T54, Sf.T32, Sf.T145, Sf.T56, Sf.T159, Sf.T147, Sf.T121, Sf.T122, Sf.T111, Sf.T124, Sf.T110, Sf.T113, Sf.T116, Sf.T120, nmC, nmV, wrC, rBE, mc, msC, ow, wR, rw, xm, bsM, rIE]
  exact ⟨_, _, Le.off [some 0, some 1, some 2] (by rfl) (by rfl) (by simp only [rX2, bd, bdL, bdB, bdH, bdT, front, VLe, VLeL, BLe, Phan, TLe, HLe, ro, Blk.owned, CLe, rr, given, mrg, exct, shr, ren, renL, renB, Nat.reduceAdd, Nat.reduceSub, Nat.reduceLT, Nat.reduceLeDiff, Nat.reduceEqDiff, Nat.reduceBEq, Nat.reduceBNe, reduceCtorEq, nmC, nmV, wrC, rBE, mc, msC, ow, wR, rw, xm, bsM, rIE]), rfl, rfl⟩
theorem mayk_1 (m : Msg) (cw : Nat) (hn : m.n ≤ 1000) (hk : m.k = 1) : VCall Try.prog 37 [.agg (msC m (.slice 0 m.n cw))] [.row 9 m.n fun j => wrC (m.w j)] fun v h => v = .bool (decide (HeadM m true ∧ SameM m (bsM m))) ∧ h = [.row 9 m.n fun j => wrC (m.w j)] := by
  have hkd := kind_1
  rw [← hk] at hkd
  refine VCall.trim 1 (Nat.le_of_ble_eq_true rfl) ?_
  refine wbody Try.func37 rfl (by kernel_rfl) ?_
  rw [Try.ntmps37, Try.results37]
  simp (implicitDefEqProofs := false) (maxSteps := 1000000) only [rX1, bd, bdL, bdB, bdH, bdT, front, VLe, VLeL, BLe, Phan, TLe, HLe, ro, Blk.owned, CLe, rr, given, mrg, exct, shr, ren, renL, renB, Nat.reduceBEq, Nat.reduceBNe, rX0, ofVal, ofVals, cellsV, vStore.isTup, eqL, eqV, Blk.deg, oneV, elApp, Nat.reduceAdd, Nat.reduceSub, Nat.reduceMul, Nat.reduceLT, Nat.reduceLeDiff, Nat.reduceEqDiff, Int.reduceToNat, Int.reduceGT, Int.reduceGE, Int.reduceMul, Int.reduceLT, Int.reduceLE, Int.reduceAdd, Int.reduceSub, Int.reduceNeg, reduceCtorEq, Sf.T3, Sf.T4, Sf.T24, Sf.T5, Sf.T22, Sf.T26, Sf.T27, Sf.T89, Sf.T54, Sf.T32, Sf.T145, Sf.T56, Sf.T159, Sf.T147, Sf.T121, Sf.T122, Sf.T111, Sf.T124, Sf.T110, Sf.T113, Sf.T116, Sf.T120, nmC, nmV, wrC, rBE, mc, msC, ow, wR, rw, xm, bsM, rIE]
  have no : ¬ (HeadM m true ∧ SameM m (bsM m)) → VV.bool false = VV.bool (decide (HeadM m true ∧ SameM m (bsM m))) := fun h => by rw [decide_eq_false h]
  refine vframe (hkd) [] (by rfl) (by simp only [rX2, bd, bdL, bdB, bdH, bdT, front, VLe, VLeL, BLe, Phan, TLe, HLe, ro, Blk.owned, CLe, rr, given, mrg, exct, shr, ren, renL, renB, Nat.reduceAdd, Nat.reduceSub, Nat.reduceLT, Nat.reduceLeDiff, Nat.reduceEqDiff, Nat.reduceBEq, Nat.reduceBNe, reduceCtorEq, nmC, nmV, wrC, rBE, mc, msC, ow, wR, rw, xm, bsM, rIE]) ?_
  rintro v h ⟨rfl, rfl⟩ -
  simp (implicitDefEqProofs := false) (maxSteps := 1000000) only [rX2, bd, bdL, bdB, bdH, bdT, front, VLe, VLeL, BLe, Phan, TLe, HLe, ro, Blk.owned, CLe, rr, given, mrg, exct, shr, ren, renL, renB, Nat.reduceAdd, Nat.reduceSub, Nat.reduceLT, Nat.reduceLeDiff, Nat.reduceEqDiff, Nat.reduceBEq, Nat.reduceBNe, reduceCtorEq, nmC, nmV, wrC, rBE, mc, msC, ow, wR, rw, xm, bsM, rIE, rX0, ofVal, ofVals, cellsV, vStore.isTup, eqL, eqV, Blk.deg, oneV, elApp, Nat.reduceAdd, Nat.reduceSub, Nat.reduceMul, Nat.reduceLT, Nat.reduceLeDiff, Nat.reduceEqDiff, Int.reduceToNat, Int.reduceGT, Int.reduceGE, Int.reduceMul, Int.reduceLT, Int.reduceLE, Int.reduceAdd, Int.reduceSub, Int.reduceNeg, reduceCtorEq, Sf.T3, Sf.T4, Sf.T24, Sf.T5, Sf.T22, Sf.T26, Sf.T27, Sf.T89, Sf.T54, Sf.T32, Sf.T145, Sf.T56, Sf.T159, Sf.T147, Sf.T121, Sf.T122, Sf.T111, Sf.T124, Sf.T110, Sf.T113, Sf.T116, Sf.T120, nmC, nmV, wrC, rBE, mc, msC, ow, wR, rw, xm, bsM, rIE]
  refine vframe (wwithin_ok m.fr 0 4) [] (by rfl) (by simp only [rX2, bd, bdL, bdB, bdH, bdT, front, VLe, VLeL, BLe, Phan, TLe, HLe, ro, Blk.owned, CLe, rr, given, mrg, exct, shr, ren, renL, renB, Nat.reduceAdd, Nat.reduceSub, Nat.reduceLT, Nat.reduceLeDiff, Nat.reduceEqDiff, Nat.reduceBEq, Nat.reduceBNe, reduceCtorEq, nmC, nmV, wrC, rBE, mc, msC, ow, wR, rw, xm, bsM, rIE]) ?_
  rintro v h ⟨rfl, rfl⟩ -
  simp (implicitDefEqProofs := false) (maxSteps := 1000000) only [rX2, bd, bdL, bdB, bdH, bdT, front, VLe, VLeL, BLe, Phan, TLe, HLe, ro, Blk.owned, CLe, rr, given, mrg, exct, shr, ren, renL, renB, Nat.reduceAdd, Nat.reduceSub, Nat.reduceLT, Nat.reduceLeDiff, Nat.reduceEqDiff, Nat.reduceBEq, Nat.reduceBNe, reduceCtorEq, nmC, nmV, wrC, rBE, mc, msC, ow, wR, rw, xm, bsM, rIE, rX0, ofVal, ofVals, cellsV, vStore.isTup, eqL, eqV, Blk.deg, oneV, elApp, Nat.reduceAdd, Nat.reduceSub, Nat.reduceMul, Nat.reduceLT, Nat.reduceLeDiff, Nat.reduceEqDiff, Int.reduceToNat, Int.reduceGT, Int.reduceGE, Int.reduceMul, Int.reduceLT, Int.reduceLE, Int.reduceAdd, Int.reduceSub, Int.reduceNeg, reduceCtorEq, Sf.T3, Sf.T4, Sf.T24, Sf.T5, Sf.T22, Sf.T26, Sf.T27, Sf.T89, Sf.T54, Sf.T32, Sf.T145, Sf.T56, Sf.T159, Sf.T147, Sf.T121, Sf.T122, Sf.T111, Sf.T124, Sf.T110, Sf.T113, Sf.T116, Sf.T120, nmC, nmV, wrC, rBE, mc, msC, ow, wR, rw, xm, bsM, rIE]
  refine ⟨fun a1 => ?_, fun a1 => no fun h => a1 h.1.1⟩
  refine vframe (wwithin_ok m.to_ 0 4) [] (by rfl) (by simp only [rX2, bd, bdL, bdB, bdH, bdT, front, VLe, VLeL, BLe, Phan, TLe, HLe, ro, Blk.owned, CLe, rr, given, mrg, exct, shr, ren, renL, renB, Nat.reduceAdd, Nat.reduceSub, Nat.reduceLT, Nat.reduceLeDiff, Nat.reduceEqDiff, Nat.reduceBEq, Nat.reduceBNe, reduceCtorEq, nmC, nmV, wrC, rBE, mc, msC, ow, wR, rw, xm, bsM, rIE]) ?_
  rintro v h ⟨rfl, rfl⟩ -
  simp (implicitDefEqProofs := false) (maxSteps := 1000000) only [rX2, bd, bdL, bdB, bdH, bdT, front, VLe, VLeL, BLe, Phan, TLe, HLe, ro, Blk.owned, CLe, rr, given, mrg, exct, shr, ren, renL, renB, Nat.reduceAdd, Nat.reduceSub, Nat.reduceLT, Nat.reduceLeDiff, Nat.reduceEqDiff, Nat.reduceBEq, Nat.reduceBNe, reduceCtorEq, nmC, nmV, wrC, rBE, mc, msC, ow, wR, rw, xm, bsM, rIE, rX0, ofVal, ofVals, cellsV, vStore.isTup, eqL, eqV, Blk.deg, oneV, elApp, Nat.reduceAdd, Nat.reduceSub, Nat.reduceMul, Nat.reduceLT, Nat.reduceLeDiff, Nat.reduceEqDiff, Int.reduceToNat, Int.reduceGT, Int.reduceGE, Int.reduceMul, Int.reduceLT, Int.reduceLE, Int.reduceAdd, Int.reduceSub, Int.reduceNeg, reduceCtorEq, Sf.T3, Sf.T4, Sf.T24, Sf.T5, Sf.T22, Sf.T26, Sf.T27, Sf.T89, Sf.T54, Sf.T32, Sf.T145, Sf.T56, Sf.T159, Sf.T147, Sf.T121, Sf.T122, Sf.T111, Sf.T124, Sf.T110, Sf.T113, Sf.T116, Sf.T120, nmC, nmV, wrC, rBE, mc, msC, ow, wR, rw, xm, bsM, rIE]
  refine ⟨fun a2 => ?_, fun a2 => no fun h => a2 h.1.2.1⟩
  refine ⟨fun a3 => no fun h => h.1.2.2.1 a3, fun a3 => ⟨fun a4 => no fun h => a4 h.1.2.2.2.1, fun a4 => ?_⟩⟩
  refine vframe (wwithin_ok m.inc 1 1048576) [] (by rfl) (by simp only [rX2, bd, bdL, bdB, bdH, bdT, front, VLe, VLeL, BLe, Phan, TLe, HLe, ro, Blk.owned, CLe, rr, given, mrg, exct, shr, ren, renL, renB, Nat.reduceAdd, Nat.reduceSub, Nat.reduceLT, Nat.reduceLeDiff, Nat.reduceEqDiff, Nat.reduceBEq, Nat.reduceBNe, reduceCtorEq, nmC, nmV, wrC, rBE, mc, msC, ow, wR, rw, xm, bsM, rIE]) ?_
  rintro v h ⟨rfl, rfl⟩ -
  simp (implicitDefEqProofs := false) (maxSteps := 1000000) only [rX2, bd, bdL, bdB, bdH, bdT, front, VLe, VLeL, BLe, Phan, TLe, HLe, ro, Blk.owned, CLe, rr, given, mrg, exct, shr, ren, renL, renB, Nat.reduceAdd, Nat.reduceSub, Nat.reduceLT, Nat.reduceLeDiff, Nat.reduceEqDiff, Nat.reduceBEq, Nat.reduceBNe, reduceCtorEq, nmC, nmV, wrC, rBE, mc, msC, ow, wR, rw, xm, bsM, rIE, rX0, ofVal, ofVals, cellsV, vStore.isTup, eqL, eqV, Blk.deg, oneV, elApp, Nat.reduceAdd, Nat.reduceSub, Nat.reduceMul, Nat.reduceLT, Nat.reduceLeDiff, Nat.reduceEqDiff, Int.reduceToNat, Int.reduceGT, Int.reduceGE, Int.reduceMul, Int.reduceLT, Int.reduceLE, Int.reduceAdd, Int.reduceSub, Int.reduceNeg, reduceCtorEq, Sf.T3, Sf.T4, Sf.T24, Sf.T5, Sf.T22, Sf.T26, Sf.T27, Sf.T89, Sf.T54, Sf.T32, Sf.T145, Sf.T56, Sf.T159, Sf.T147, Sf.T121, Sf.T122, Sf.T111, Sf.T124, Sf.T110, Sf.T113, Sf.T116, Sf.T120, nmC, nmV, wrC, rBE, mc, msC, ow, wR, rw, xm, bsM, rIE]
  refine ⟨fun a5 => ?_, fun a5 => no fun h => a5 h.1.2.2.2.2.1⟩
  refine vframe (wwithin_ok m.your 0 1048576) [] (by rfl) (by simp only [rX2, bd, bdL, bdB, bdH, bdT, front, VLe, VLeL, BLe, Phan, TLe, HLe, ro, Blk.owned, CLe, rr, given, mrg, exct, shr, ren, renL, renB, Nat.reduceAdd, Nat.reduceSub, Nat.reduceLT, Nat.reduceLeDiff, Nat.reduceEqDiff, Nat.reduceBEq, Nat.reduceBNe, reduceCtorEq, nmC, nmV, wrC, rBE, mc, msC, ow, wR, rw, xm, bsM, rIE]) ?_
  rintro v h ⟨rfl, rfl⟩ -
  simp (implicitDefEqProofs := false) (maxSteps := 1000000) only [rX2, bd, bdL, bdB, bdH, bdT, front, VLe, VLeL, BLe, Phan, TLe, HLe, ro, Blk.owned, CLe, rr, given, mrg, exct, shr, ren, renL, renB, Nat.reduceAdd, Nat.reduceSub, Nat.reduceLT, Nat.reduceLeDiff, Nat.reduceEqDiff, Nat.reduceBEq, Nat.reduceBNe, reduceCtorEq, nmC, nmV, wrC, rBE, mc, msC, ow, wR, rw, xm, bsM, rIE, rX0, ofVal, ofVals, cellsV, vStore.isTup, eqL, eqV, Blk.deg, oneV, elApp, Nat.reduceAdd, Nat.reduceSub, Nat.reduceMul, Nat.reduceLT, Nat.reduceLeDiff, Nat.reduceEqDiff, Int.reduceToNat, Int.reduceGT, Int.reduceGE, Int.reduceMul, Int.reduceLT, Int.reduceLE, Int.reduceAdd, Int.reduceSub, Int.reduceNeg, reduceCtorEq, Sf.T3, Sf.T4, Sf.T24, Sf.T5, Sf.T22, Sf.T26, Sf.T27, Sf.T89, Sf.T54, Sf.T32, Sf.T145, Sf.T56, Sf.T159, Sf.T147, Sf.T121, Sf.T122, Sf.T111, Sf.T124, Sf.T110, Sf.T113, Sf.T116, Sf.T120, nmC, nmV, wrC, rBE, mc, msC, ow, wR, rw, xm, bsM, rIE]
  refine ⟨fun a6 => ?_, fun a6 => no fun h => a6 h.1.2.2.2.2.2⟩
  have hs := sany_ok cw m hn
  unfold mc at hs
  refine vframe (hs) [1, 0] (by rfl) (by simp only [rX2, bd, bdL, bdB, bdH, bdT, front, VLe, VLeL, BLe, Phan, TLe, HLe, ro, Blk.owned, CLe, rr, given, mrg, exct, shr, ren, renL, renB, Nat.reduceAdd, Nat.reduceSub, Nat.reduceLT, Nat.reduceLeDiff, Nat.reduceEqDiff, Nat.reduceBEq, Nat.reduceBNe, reduceCtorEq, nmC, nmV, wrC, rBE, mc, msC, ow, wR, rw, xm, bsM, rIE]) ?_
  rintro v h ⟨rfl, rfl⟩ -
  simp (implicitDefEqProofs := false) (maxSteps := 1000000) only [rX2, bd, bdL, bdB, bdH, bdT, front, VLe, VLeL, BLe, Phan, TLe, HLe, ro, Blk.owned, CLe, rr, given, mrg, exct, shr, ren, renL, renB, Nat.reduceAdd, Nat.reduceSub, Nat.reduceLT, Nat.reduceLeDiff, Nat.reduceEqDiff, Nat.reduceBEq, Nat.reduceBNe, reduceCtorEq, nmC, nmV, wrC, rBE, mc, msC, ow, wR, rw, xm, bsM, rIE, rX0, ofVal, ofVals, cellsV, vStore.isTup, eqL, eqV, Blk.deg, oneV, elApp, Nat.reduceAdd, Nat.reduceSub, Nat.reduceMul, Nat.reduceLT, Nat.reduceLeDiff, Nat.reduceEqDiff, Int.reduceToNat, Int.reduceGT, Int.reduceGE, Int.reduceMul, Int.reduceLT, Int.reduceLE, Int.reduceAdd, Int.reduceSub, Int.reduceNeg, reduceCtorEq, Sf.T3, Sf.T4, Sf.T24, Sf.T5, Sf.T22, Sf.T26, Sf.T27, Sf.T89, Sf.T54, Sf.T32, Sf.T145, Sf.T56, Sf.T159, Sf.T147, Sf.T121, Sf.T122, Sf.T111, Sf.T124, Sf.T110, Sf.T113, Sf.T116, Sf.T120, nmC, nmV, wrC, rBE, mc, msC, ow, wR, rw, xm, bsM, rIE]
  have hb := body_nil true cw m
  unfold mc at hb
  refine vframe (hb) [2, 1, 0] (by rfl) (by simp only [rX2, bd, bdL, bdB, bdH, bdT, front, VLe, VLeL, BLe, Phan, TLe, HLe, ro, Blk.owned, CLe, rr, given, mrg, exct, shr, ren, renL, renB, Nat.reduceAdd, Nat.reduceSub, Nat.reduceLT, Nat.reduceLeDiff, Nat.reduceEqDiff, Nat.reduceBEq, Nat.reduceBNe, reduceCtorEq, nmC, nmV, wrC, rBE, mc, msC, ow, wR, rw, xm, bsM, rIE]) ?_
  rintro v h ⟨rfl, rfl⟩ -
  simp (implicitDefEqProofs := false) (maxSteps := 1000000) only [rX2, bd, bdL, bdB, bdH, bdT, front, VLe, VLeL, BLe, Phan, TLe, HLe, ro, Blk.owned, CLe, rr, given, mrg, exct, shr, ren, renL, renB, Nat.reduceAdd, Nat.reduceSub, Nat.reduceLT, Nat.reduceLeDiff, Nat.reduceEqDiff, Nat.reduceBEq, Nat.reduceBNe, reduceCtorEq, nmC, nmV, wrC, rBE, mc, msC, ow, wR, rw, xm, bsM, rIE, rX0, ofVal, ofVals, cellsV, vStore.isTup, eqL, eqV, Blk.deg, oneV, elApp, Nat.reduceAdd, Nat.reduceSub, Nat.reduceMul, Nat.reduceLT, Nat.reduceLeDiff, Nat.reduceEqDiff, Int.reduceToNat, Int.reduceGT, Int.reduceGE, Int.reduceMul, Int.reduceLT, Int.reduceLE, Int.reduceAdd, Int.reduceSub, Int.reduceNeg, reduceCtorEq, Sf.T3, Sf.T4, Sf.T24, Sf.T5, Sf.T22, Sf.T26, Sf.T27, Sf.T89, Sf.T54, Sf.T32, Sf.T145, Sf.T56, Sf.T159, Sf.T147, Sf.T121, Sf.T122, Sf.T111, Sf.T124, Sf.T110, Sf.T113, Sf.T116, Sf.T120, nmC, nmV, wrC, rBE, mc, msC, ow, wR, rw, xm, bsM, rIE]
  refine vrounds 1 ?_
  simp (implicitDefEqProofs := false) (maxSteps := 1000000) only [rX2, bd, bdL, bdB, bdH, bdT, front, VLe, VLeL, BLe, Phan, TLe, HLe, ro, Blk.owned, CLe, rr, given, mrg, exct, shr, ren, renL, renB, Nat.reduceAdd, Nat.reduceSub, Nat.reduceLT, Nat.reduceLeDiff, Nat.reduceEqDiff, Nat.reduceBEq, Nat.reduceBNe, reduceCtorEq, nmC, nmV, wrC, rBE, mc, msC, ow, wR, rw, xm, bsM, rIE, rX0, ofVal, ofVals, cellsV, vStore.isTup, eqL, eqV, Blk.deg, oneV, elApp, Nat.reduceAdd, Nat.reduceSub, Nat.reduceMul, Nat.reduceLT, Nat.reduceLeDiff, Nat.reduceEqDiff, Int.reduceToNat, Int.reduceGT, Int.reduceGE, Int.reduceMul, Int.reduceLT, Int.reduceLE, Int.reduceAdd, Int.reduceSub, Int.reduceNeg, reduceCtorEq, Sf.T3, Sf.T4, Sf.T24, Sf.T5, Sf.T22, Sf.T26, Sf.T27, Sf.T89, Sf.T54, Sf.T32, Sf.T145, Sf.T56, Sf.T159, Sf.T147, Sf.T121, Sf.T122, Sf.T111, Sf.T124, Sf.T110, Sf.T113, Sf.T116, Sf.T120, nmC, nmV, wrC, rBE, mc, msC, ow, wR, rw, xm, bsM, rIE]
  have hq := msame_ok m (bsM m) cw 0 hn
  rw [show decide (SameM m (bsM m)) = decide (HeadM m true ∧ SameM m (bsM m)) from decide_eq_decide.2 ⟨fun h => ⟨⟨a1, a2, a3, a4, a5, a6⟩, h⟩, fun h => h.2⟩] at hq
  unfold msC at hq
  refine VC.le [.agg (msC m (.slice 0 m.n cw)), .agg (msC (bsM m) (.slice 5 0 0))] [.row 9 m.n fun j => wrC (m.w j), .gone, .gone, .gone, .gone, .row 9 0 fun j => wrC ((bsM m).w j)] (Le.off [some 0, some 1, some 2, some 3, some 4, none] (by rfl) (by rfl) (by simp only [rX2, bd, bdL, bdB, bdH, bdT, front, VLe, VLeL, BLe, Phan, TLe, HLe, ro, Blk.owned, CLe, rr, given, mrg, exct, shr, ren, renL, renB, Nat.reduceAdd, Nat.reduceSub, Nat.reduceLT, Nat.reduceLeDiff, Nat.reduceEqDiff, Nat.reduceBEq, Nat.reduceBNe, reduceCtorEq, nmC, nmV, wrC, rBE, mc, msC, ow, wR, rw, xm, bsM, rIE])) ?_
  refine vframe (hq) [0, 5] (by rfl) (by simp only [rX2, bd, bdL, bdB, bdH, bdT, front, VLe, VLeL, BLe, Phan, TLe, HLe, ro, Blk.owned, CLe, rr, given, mrg, exct, shr, ren, renL, renB, Nat.reduceAdd, Nat.reduceSub, Nat.reduceLT, Nat.reduceLeDiff, Nat.reduceEqDiff, Nat.reduceBEq, Nat.reduceBNe, reduceCtorEq, nmC, nmV, wrC, rBE, mc, msC, ow, wR, rw, xm, bsM, rIE]) ?_
  rintro v h ⟨rfl, rfl⟩ -
  simp (implicitDefEqProofs := false) (maxSteps := 1000000) only [rX2, bd, bdL, bdB, bdH, bdT, front, VLe, VLeL, BLe, Phan, TLe, HLe, ro, Blk.owned, CLe, rr, given, mrg, exct, shr, ren, renL, renB, Nat.reduceAdd, Nat.reduceSub, Nat.reduceLT, Nat.reduceLeDiff, Nat.reduceEqDiff, Nat.reduceBEq, Nat.reduceBNe, reduceCtorEq, nmC, nmV, wrC, rBE, mc, msC, ow, wR, rw, xm, bsM, rIE, rX0, ofVal, ofVals, cellsV, vStore.isTup, eqL, eqV, Blk.deg, oneV, elApp, Nat.reduceAdd, Nat.reduceSub, Nat.reduceMul, Nat.reduceLT, Nat.reduceLeDiff, Nat.reduceEqDiff, Int.reduceToNat, Int.reduceGT, Int.reduceGE, Int.reduceMul, Int.reduceLT, Int.reduceLE, Int.reduceAdd, Int.reduceSub, Int.reduceNeg, reduceCtorEq, Sf.T3, Sf.T4, Sf.T24, Sf.T5, Sf.T22, Sf.T26, Sf.T27, Sf.T89, Sf.T54, Sf.T32, Sf.T145, Sf.T56, Sf.T159, Sf.T147, Sf.T121, Sf.T122, Sf.T111, Sf.T124, Sf.T110, Sf.T113, Sf.T116, Sf.T120, nmC, nmV, wrC, rBE, mc, msC, ow, wR, rw, xm, bsM, rIE]
theorem mayk_11 (m : Msg) (cw : Nat) (hn : m.n ≤ 1000) (hk : m.k = 11) : VCall Try.prog 37 [.agg (msC m (.slice 0 m.n cw))] [.row 9 m.n fun j => wrC (m.w j)] fun v h => v = .bool (decide (HeadM m false ∧ SameM m (bsM m))) ∧ h = [.row 9 m.n fun j => wrC (m.w j)] := by
  have hkd := kind_11
  rw [← hk] at hkd
  refine VCall.trim 1 (Nat.le_of_ble_eq_true rfl) ?_
  refine wbody Try.func37 rfl (by kernel_rfl) ?_
  rw [Try.ntmps37, Try.results37]
  simp (implicitDefEqProofs := false) (maxSteps := 1000000) only [rX1, bd, bdL, bdB, bdH, bdT, front, VLe, VLeL, BLe, Phan, TLe, HLe, ro, Blk.owned, CLe, rr, given, mrg, exct, shr, ren, renL, renB, Nat.reduceBEq, Nat.reduceBNe, rX0, ofVal, ofVals, cellsV, vStore.isTup, eqL, eqV, Blk.deg, oneV, elApp, Nat.reduceAdd, Nat.reduceSub, Nat.reduceMul, Nat.reduceLT, Nat.reduceLeDiff, Nat.reduceEqDiff, Int.reduceToNat, Int.reduceGT, Int.reduceGE, Int.reduceMul, Int.reduceLT, Int.reduceLE, Int.reduceAdd, Int.reduceSub, Int.reduceNeg, reduceCtorEq, Sf.T3, Sf.T4, Sf.T24, Sf.T5, Sf.T22, Sf.T26, Sf.T27, Sf.T89, Sf.T54, Sf.T32, Sf.T145, Sf.T56, Sf.T159, Sf.T147, Sf.T121, Sf.T122, Sf.T111, Sf.T124, Sf.T110, Sf.T113, Sf.T116, Sf.T120, nmC, nmV, wrC, rBE, mc, msC, ow, wR, rw, xm, bsM, rIE]
  have no : ¬ (HeadM m false ∧ SameM m (bsM m)) → VV.bool false = VV.bool (decide (HeadM m false ∧ SameM m (bsM m))) := fun h => by rw [decide_eq_false h]
  refine vframe (hkd) [] (by rfl) (by simp only [rX2, bd, bdL, bdB, bdH, bdT, front, VLe, VLeL, BLe, Phan, TLe, HLe, ro, Blk.owned, CLe, rr, given, mrg, exct, shr, ren, renL, renB, Nat.reduceAdd, Nat.reduceSub, Nat.reduceLT, Nat.reduceLeDiff, Nat.reduceEqDiff, Nat.reduceBEq, Nat.reduceBNe, reduceCtorEq, nmC, nmV, wrC, rBE, mc, msC, ow, wR, rw, xm, bsM, rIE]) ?_
  rintro v h ⟨rfl, rfl⟩ -
  simp (implicitDefEqProofs := false) (maxSteps := 1000000) only [rX2, bd, bdL, bdB, bdH, bdT, front, VLe, VLeL, BLe, Phan, TLe, HLe, ro, Blk.owned, CLe, rr, given, mrg, exct, shr, ren, renL, renB, Nat.reduceAdd, Nat.reduceSub, Nat.reduceLT, Nat.reduceLeDiff, Nat.reduceEqDiff, Nat.reduceBEq, Nat.reduceBNe, reduceCtorEq, nmC, nmV, wrC, rBE, mc, msC, ow, wR, rw, xm, bsM, rIE, rX0, ofVal, ofVals, cellsV, vStore.isTup, eqL, eqV, Blk.deg, oneV, elApp, Nat.reduceAdd, Nat.reduceSub, Nat.reduceMul, Nat.reduceLT, Nat.reduceLeDiff, Nat.reduceEqDiff, Int.reduceToNat, Int.reduceGT, Int.reduceGE, Int.reduceMul, Int.reduceLT, Int.reduceLE, Int.reduceAdd, Int.reduceSub, Int.reduceNeg, reduceCtorEq, Sf.T3, Sf.T4, Sf.T24, Sf.T5, Sf.T22, Sf.T26, Sf.T27, Sf.T89, Sf.T54, Sf.T32, Sf.T145, Sf.T56, Sf.T159, Sf.T147, Sf.T121, Sf.T122, Sf.T111, Sf.T124, Sf.T110, Sf.T113, Sf.T116, Sf.T120, nmC, nmV, wrC, rBE, mc, msC, ow, wR, rw, xm, bsM, rIE]
  refine vframe (wwithin_ok m.fr 0 4) [] (by rfl) (by simp only [rX2, bd, bdL, bdB, bdH, bdT, front, VLe, VLeL, BLe, Phan, TLe, HLe, ro, Blk.owned, CLe, rr, given, mrg, exct, shr, ren, renL, renB, Nat.reduceAdd, Nat.reduceSub, Nat.reduceLT, Nat.reduceLeDiff, Nat.reduceEqDiff, Nat.reduceBEq, Nat.reduceBNe, reduceCtorEq, nmC, nmV, wrC, rBE, mc, msC, ow, wR, rw, xm, bsM, rIE]) ?_
  rintro v h ⟨rfl, rfl⟩ -
  simp (implicitDefEqProofs := false) (maxSteps := 1000000) only [rX2, bd, bdL, bdB, bdH, bdT, front, VLe, VLeL, BLe, Phan, TLe, HLe, ro, Blk.owned, CLe, rr, given, mrg, exct, shr, ren, renL, renB, Nat.reduceAdd, Nat.reduceSub, Nat.reduceLT, Nat.reduceLeDiff, Nat.reduceEqDiff, Nat.reduceBEq, Nat.reduceBNe, reduceCtorEq, nmC, nmV, wrC, rBE, mc, msC, ow, wR, rw, xm, bsM, rIE, rX0, ofVal, ofVals, cellsV, vStore.isTup, eqL, eqV, Blk.deg, oneV, elApp, Nat.reduceAdd, Nat.reduceSub, Nat.reduceMul, Nat.reduceLT, Nat.reduceLeDiff, Nat.reduceEqDiff, Int.reduceToNat, Int.reduceGT, Int.reduceGE, Int.reduceMul, Int.reduceLT, Int.reduceLE, Int.reduceAdd, Int.reduceSub, Int.reduceNeg, reduceCtorEq, Sf.T3, Sf.T4, Sf.T24, Sf.T5, Sf.T22, Sf.T26, Sf.T27, Sf.T89, Sf.T54, Sf.T32, Sf.T145, Sf.T56, Sf.T159, Sf.T147, Sf.T121, Sf.T122, Sf.T111, Sf.T124, Sf.T110, Sf.T113, Sf.T116, Sf.T120, nmC, nmV, wrC, rBE, mc, msC, ow, wR, rw, xm, bsM, rIE]
  refine ⟨fun a1 => ?_, fun a1 => no fun h => a1 h.1.1⟩
  refine vframe (wwithin_ok m.to_ 0 4) [] (by rfl) (by simp only [rX2, bd, bdL, bdB, bdH, bdT, front, VLe, VLeL, BLe, Phan, TLe, HLe, ro, Blk.owned, CLe, rr, given, mrg, exct, shr, ren, renL, renB, Nat.reduceAdd, Nat.reduceSub, Nat.reduceLT, Nat.reduceLeDiff, Nat.reduceEqDiff, Nat.reduceBEq, Nat.reduceBNe, reduceCtorEq, nmC, nmV, wrC, rBE, mc, msC, ow, wR, rw, xm, bsM, rIE]) ?_
  rintro v h ⟨rfl, rfl⟩ -
  simp (implicitDefEqProofs := false) (maxSteps := 1000000) only [rX2, bd, bdL, bdB, bdH, bdT, front, VLe, VLeL, BLe, Phan, TLe, HLe, ro, Blk.owned, CLe, rr, given, mrg, exct, shr, ren, renL, renB, Nat.reduceAdd, Nat.reduceSub, Nat.reduceLT, Nat.reduceLeDiff, Nat.reduceEqDiff, Nat.reduceBEq, Nat.reduceBNe, reduceCtorEq, nmC, nmV, wrC, rBE, mc, msC, ow, wR, rw, xm, bsM, rIE, rX0, ofVal, ofVals, cellsV, vStore.isTup, eqL, eqV, Blk.deg, oneV, elApp, Nat.reduceAdd, Nat.reduceSub, Nat.reduceMul, Nat.reduceLT, Nat.reduceLeDiff, Nat.reduceEqDiff, Int.reduceToNat, Int.reduceGT, Int.reduceGE, Int.reduceMul, Int.reduceLT, Int.reduceLE, Int.reduceAdd, Int.reduceSub, Int.reduceNeg, reduceCtorEq, Sf.T3, Sf.T4, Sf.T24, Sf.T5, Sf.T22, Sf.T26, Sf.T27, Sf.T89, Sf.T54, Sf.T32, Sf.T145, Sf.T56, Sf.T159, Sf.T147, Sf.T121, Sf.T122, Sf.T111, Sf.T124, Sf.T110, Sf.T113, Sf.T116, Sf.T120, nmC, nmV, wrC, rBE, mc, msC, ow, wR, rw, xm, bsM, rIE]
  refine ⟨fun a2 => ?_, fun a2 => no fun h => a2 h.1.2.1⟩
  refine ⟨fun a3 => no fun h => h.1.2.2.1 a3, fun a3 => ⟨fun a4 => no fun h => a4 h.1.2.2.2.1, fun a4 => ?_⟩⟩
  refine vframe (wwithin_ok m.inc 1 1048576) [] (by rfl) (by simp only [rX2, bd, bdL, bdB, bdH, bdT, front, VLe, VLeL, BLe, Phan, TLe, HLe, ro, Blk.owned, CLe, rr, given, mrg, exct, shr, ren, renL, renB, Nat.reduceAdd, Nat.reduceSub, Nat.reduceLT, Nat.reduceLeDiff, Nat.reduceEqDiff, Nat.reduceBEq, Nat.reduceBNe, reduceCtorEq, nmC, nmV, wrC, rBE, mc, msC, ow, wR, rw, xm, bsM, rIE]) ?_
  rintro v h ⟨rfl, rfl⟩ -
  simp (implicitDefEqProofs := false) (maxSteps := 1000000) only [rX2, bd, bdL, bdB, bdH, bdT, front, VLe, VLeL, BLe, Phan, TLe, HLe, ro, Blk.owned, CLe, rr, given, mrg, exct, shr, ren, renL, renB, Nat.reduceAdd, Nat.reduceSub, Nat.reduceLT, Nat.reduceLeDiff, Nat.reduceEqDiff, Nat.reduceBEq, Nat.reduceBNe, reduceCtorEq, nmC, nmV, wrC, rBE, mc, msC, ow, wR, rw, xm, bsM, rIE, rX0, ofVal, ofVals, cellsV, vStore.isTup, eqL, eqV, Blk.deg, oneV, elApp, Nat.reduceAdd, Nat.reduceSub, Nat.reduceMul, Nat.reduceLT, Nat.reduceLeDiff, Nat.reduceEqDiff, Int.reduceToNat, Int.reduceGT, Int.reduceGE, Int.reduceMul, Int.reduceLT, Int.reduceLE, Int.reduceAdd, Int.reduceSub, Int.reduceNeg, reduceCtorEq, Sf.T3, Sf.T4, Sf.T24, Sf.T5, Sf.T22, Sf.T26, Sf.T27, Sf.T89, Sf.T54, Sf.T32, Sf.T145, Sf.T56, Sf.T159, Sf.T147, Sf.T121, Sf.T122, Sf.T111, Sf.T124, Sf.T110, Sf.T113, Sf.T116, Sf.T120, nmC, nmV, wrC, rBE, mc, msC, ow, wR, rw, xm, bsM, rIE]
  refine ⟨fun a5 => ?_, fun a5 => no fun h => a5 h.1.2.2.2.2.1⟩
  refine vframe (wwithin_ok m.your 0 1048576) [] (by rfl) (by simp only [rX2, bd, bdL, bdB, bdH, bdT, front, VLe, VLeL, BLe, Phan, TLe, HLe, ro, Blk.owned, CLe, rr, given, mrg, exct, shr, ren, renL, renB, Nat.reduceAdd, Nat.reduceSub, Nat.reduceLT, Nat.reduceLeDiff, Nat.reduceEqDiff, Nat.reduceBEq, Nat.reduceBNe, reduceCtorEq, nmC, nmV, wrC, rBE, mc, msC, ow, wR, rw, xm, bsM, rIE]) ?_
  rintro v h ⟨rfl, rfl⟩ -
  simp (implicitDefEqProofs := false) (maxSteps := 1000000) only [rX2, bd, bdL, bdB, bdH, bdT, front, VLe, VLeL, BLe, Phan, TLe, HLe, ro, Blk.owned, CLe, rr, given, mrg, exct, shr, ren, renL, renB, Nat.reduceAdd, Nat.reduceSub, Nat.reduceLT, Nat.reduceLeDiff, Nat.reduceEqDiff, Nat.reduceBEq, Nat.reduceBNe, reduceCtorEq, nmC, nmV, wrC, rBE, mc, msC, ow, wR, rw, xm, bsM, rIE, rX0, ofVal, ofVals, cellsV, vStore.isTup, eqL, eqV, Blk.deg, oneV, elApp, Nat.reduceAdd, Nat.reduceSub, Nat.reduceMul, Nat.reduceLT, Nat.reduceLeDiff, Nat.reduceEqDiff, Int.reduceToNat, Int.reduceGT, Int.reduceGE, Int.reduceMul, Int.reduceLT, Int.reduceLE, Int.reduceAdd, Int.reduceSub, Int.reduceNeg, reduceCtorEq, Sf.T3, Sf.T4, Sf.T24, Sf.T5, Sf.T22, Sf.T26, Sf.T27, Sf.T89, Sf.T54, Sf.T32, Sf.T145, Sf.T56, Sf.T159, Sf.T147, Sf.T121, Sf.T122, Sf.T111, Sf.T124, Sf.T110, Sf.T113, Sf.T116, Sf.T120, nmC, nmV, wrC, rBE, mc, msC, ow, wR, rw, xm, bsM, rIE]
  refine ⟨fun a6 => ?_, fun a6 => no fun h => a6 h.1.2.2.2.2.2⟩
  have hs := sany_ok cw m hn
  unfold mc at hs
  refine vframe (hs) [1, 0] (by rfl) (by simp only [rX2, bd, bdL, bdB, bdH, bdT, front, VLe, VLeL, BLe, Phan, TLe, HLe, ro, Blk.owned, CLe, rr, given, mrg, exct, shr, ren, renL, renB, Nat.reduceAdd, Nat.reduceSub, Nat.reduceLT, Nat.reduceLeDiff, Nat.reduceEqDiff, Nat.reduceBEq, Nat.reduceBNe, reduceCtorEq, nmC, nmV, wrC, rBE, mc, msC, ow, wR, rw, xm, bsM, rIE]) ?_
  rintro v h ⟨rfl, rfl⟩ -
  simp (implicitDefEqProofs := false) (maxSteps := 1000000) only [rX2, bd, bdL, bdB, bdH, bdT, front, VLe, VLeL, BLe, Phan, TLe, HLe, ro, Blk.owned, CLe, rr, given, mrg, exct, shr, ren, renL, renB, Nat.reduceAdd, Nat.reduceSub, Nat.reduceLT, Nat.reduceLeDiff, Nat.reduceEqDiff, Nat.reduceBEq, Nat.reduceBNe, reduceCtorEq, nmC, nmV, wrC, rBE, mc, msC, ow, wR, rw, xm, bsM, rIE, rX0, ofVal, ofVals, cellsV, vStore.isTup, eqL, eqV, Blk.deg, oneV, elApp, Nat.reduceAdd, Nat.reduceSub, Nat.reduceMul, Nat.reduceLT, Nat.reduceLeDiff, Nat.reduceEqDiff, Int.reduceToNat, Int.reduceGT, Int.reduceGE, Int.reduceMul, Int.reduceLT, Int.reduceLE, Int.reduceAdd, Int.reduceSub, Int.reduceNeg, reduceCtorEq, Sf.T3, Sf.T4, Sf.T24, Sf.T5, Sf.T22, Sf.T26, Sf.T27, Sf.T89, Sf.T54, Sf.T32, Sf.T145, Sf.T56, Sf.T159, Sf.T147, Sf.T121, Sf.T122, Sf.T111, Sf.T124, Sf.T110, Sf.T113, Sf.T116, Sf.T120, nmC, nmV, wrC, rBE, mc, msC, ow, wR, rw, xm, bsM, rIE]
  have hb := body_nil false cw m
  unfold mc at hb
  refine vframe (hb) [2, 1, 0] (by rfl) (by simp only [rX2, bd, bdL, bdB, bdH, bdT, front, VLe, VLeL, BLe, Phan, TLe, HLe, ro, Blk.owned, CLe, rr, given, mrg, exct, shr, ren, renL, renB, Nat.reduceAdd, Nat.reduceSub, Nat.reduceLT, Nat.reduceLeDiff, Nat.reduceEqDiff, Nat.reduceBEq, Nat.reduceBNe, reduceCtorEq, nmC, nmV, wrC, rBE, mc, msC, ow, wR, rw, xm, bsM, rIE]) ?_
  rintro v h ⟨rfl, rfl⟩ -
  simp (implicitDefEqProofs := false) (maxSteps := 1000000) only [rX2, bd, bdL, bdB, bdH, bdT, front, VLe, VLeL, BLe, Phan, TLe, HLe, ro, Blk.owned, CLe, rr, given, mrg, exct, shr, ren, renL, renB, Nat.reduceAdd, Nat.reduceSub, Nat.reduceLT, Nat.reduceLeDiff, Nat.reduceEqDiff, Nat.reduceBEq, Nat.reduceBNe, reduceCtorEq, nmC, nmV, wrC, rBE, mc, msC, ow, wR, rw, xm, bsM, rIE, rX0, ofVal, ofVals, cellsV, vStore.isTup, eqL, eqV, Blk.deg, oneV, elApp, Nat.reduceAdd, Nat.reduceSub, Nat.reduceMul, Nat.reduceLT, Nat.reduceLeDiff, Nat.reduceEqDiff, Int.reduceToNat, Int.reduceGT, Int.reduceGE, Int.reduceMul, Int.reduceLT, Int.reduceLE, Int.reduceAdd, Int.reduceSub, Int.reduceNeg, reduceCtorEq, Sf.T3, Sf.T4, Sf.T24, Sf.T5, Sf.T22, Sf.T26, Sf.T27, Sf.T89, Sf.T54, Sf.T32, Sf.T145, Sf.T56, Sf.T159, Sf.T147, Sf.T121, Sf.T122, Sf.T111, Sf.T124, Sf.T110, Sf.T113, Sf.T116, Sf.T120, nmC, nmV, wrC, rBE, mc, msC, ow, wR, rw, xm, bsM, rIE]
  refine vrounds 1 ?_
  simp (implicitDefEqProofs := false) (maxSteps := 1000000) only [rX2, bd, bdL, bdB, bdH, bdT, front, VLe, VLeL, BLe, Phan, TLe, HLe, ro, Blk.owned, CLe, rr, given, mrg, exct, shr, ren, renL, renB, Nat.reduceAdd, Nat.reduceSub, Nat.reduceLT, Nat.reduceLeDiff, Nat.reduceEqDiff, Nat.reduceBEq, Nat.reduceBNe, reduceCtorEq, nmC, nmV, wrC, rBE, mc, msC, ow, wR, rw, xm, bsM, rIE, rX0, ofVal, ofVals, cellsV, vStore.isTup, eqL, eqV, Blk.deg, oneV, elApp, Nat.reduceAdd, Nat.reduceSub, Nat.reduceMul, Nat.reduceLT, Nat.reduceLeDiff, Nat.reduceEqDiff, Int.reduceToNat, Int.reduceGT, Int.reduceGE, Int.reduceMul, Int.reduceLT, Int.reduceLE, Int.reduceAdd, Int.reduceSub, Int.reduceNeg, reduceCtorEq, Sf.T3, Sf.T4, Sf.T24, Sf.T5, Sf.T22, Sf.T26, Sf.T27, Sf.T89, Sf.T54, Sf.T32, Sf.T145, Sf.T56, Sf.T159, Sf.T147, Sf.T121, Sf.T122, Sf.T111, Sf.T124, Sf.T110, Sf.T113, Sf.T116, Sf.T120, nmC, nmV, wrC, rBE, mc, msC, ow, wR, rw, xm, bsM, rIE]
  have hq := msame_ok m (bsM m) cw 0 hn
  rw [show decide (SameM m (bsM m)) = decide (HeadM m false ∧ SameM m (bsM m)) from decide_eq_decide.2 ⟨fun h => ⟨⟨a1, a2, a3, a4, a5, a6⟩, h⟩, fun h => h.2⟩] at hq
  unfold msC at hq
  refine VC.le [.agg (msC m (.slice 0 m.n cw)), .agg (msC (bsM m) (.slice 5 0 0))] [.row 9 m.n fun j => wrC (m.w j), .gone, .gone, .gone, .gone, .row 9 0 fun j => wrC ((bsM m).w j)] (Le.off [some 0, some 1, some 2, some 3, some 4, none] (by rfl) (by rfl) (by simp only [rX2, bd, bdL, bdB, bdH, bdT, front, VLe, VLeL, BLe, Phan, TLe, HLe, ro, Blk.owned, CLe, rr, given, mrg, exct, shr, ren, renL, renB, Nat.reduceAdd, Nat.reduceSub, Nat.reduceLT, Nat.reduceLeDiff, Nat.reduceEqDiff, Nat.reduceBEq, Nat.reduceBNe, reduceCtorEq, nmC, nmV, wrC, rBE, mc, msC, ow, wR, rw, xm, bsM, rIE])) ?_
  refine vframe (hq) [0, 5] (by rfl) (by simp only [rX2, bd, bdL, bdB, bdH, bdT, front, VLe, VLeL, BLe, Phan, TLe, HLe, ro, Blk.owned, CLe, rr, given, mrg, exct, shr, ren, renL, renB, Nat.reduceAdd, Nat.reduceSub, Nat.reduceLT, Nat.reduceLeDiff, Nat.reduceEqDiff, Nat.reduceBEq, Nat.reduceBNe, reduceCtorEq, nmC, nmV, wrC, rBE, mc, msC, ow, wR, rw, xm, bsM, rIE]) ?_
  rintro v h ⟨rfl, rfl⟩ -
  simp (implicitDefEqProofs := false) (maxSteps := 1000000) only [rX2, bd, bdL, bdB, bdH, bdT, front, VLe, VLeL, BLe, Phan, TLe, HLe, ro, Blk.owned, CLe, rr, given, mrg, exct, shr, ren, renL, renB, Nat.reduceAdd, Nat.reduceSub, Nat.reduceLT, Nat.reduceLeDiff, Nat.reduceEqDiff, Nat.reduceBEq, Nat.reduceBNe, reduceCtorEq, nmC, nmV, wrC, rBE, mc, msC, ow, wR, rw, xm, bsM, rIE, rX0, ofVal, ofVals, cellsV, vStore.isTup, eqL, eqV, Blk.deg, oneV, elApp, Nat.reduceAdd, Nat.reduceSub, Nat.reduceMul, Nat.reduceLT, Nat.reduceLeDiff, Nat.reduceEqDiff, Int.reduceToNat, Int.reduceGT, Int.reduceGE, Int.reduceMul, Int.reduceLT, Int.reduceLE, Int.reduceAdd, Int.reduceSub, Int.reduceNeg, reduceCtorEq, Sf.T3, Sf.T4, Sf.T24, Sf.T5, Sf.T22, Sf.T26, Sf.T27, Sf.T89, Sf.T54, Sf.T32, Sf.T145, Sf.T56, Sf.T159, Sf.T147, Sf.T121, Sf.T122, Sf.T111, Sf.T124, Sf.T110, Sf.T113, Sf.T116, Sf.T120, nmC, nmV, wrC, rBE, mc, msC, ow, wR, rw, xm, bsM, rIE]
theorem mayk_none (m : Msg) (cw : Nat) (hk : m.k < 1 ∨ 11 < m.k) : VCall Try.prog 37 [.agg (msC m (.slice 0 m.n cw))] [.row 9 m.n fun j => wrC (m.w j)] fun v h => v = .bool false ∧ h = [.row 9 m.n fun j => wrC (m.w j)] := by
  have hkd := kind_none m.k hk
  refine VCall.trim 1 (Nat.le_of_ble_eq_true rfl) ?_
  refine wbody Try.func37 rfl (by kernel_rfl) ?_
  rw [Try.ntmps37, Try.results37]
  simp (implicitDefEqProofs := false) (maxSteps := 1000000) only [rX1, bd, bdL, bdB, bdH, bdT, front, VLe, VLeL, BLe, Phan, TLe, HLe, ro, Blk.owned, CLe, rr, given, mrg, exct, shr, ren, renL, renB, Nat.reduceBEq, Nat.reduceBNe, rX0, ofVal, ofVals, cellsV, vStore.isTup, eqL, eqV, Blk.deg, oneV, elApp, Nat.reduceAdd, Nat.reduceSub, Nat.reduceMul, Nat.reduceLT, Nat.reduceLeDiff, Nat.reduceEqDiff, Int.reduceToNat, Int.reduceGT, Int.reduceGE, Int.reduceMul, Int.reduceLT, Int.reduceLE, Int.reduceAdd, Int.reduceSub, Int.reduceNeg, reduceCtorEq, Sf.T3, Sf.T4, Sf.T24, Sf.T5, Sf.T22, Sf.T26, Sf.T27, Sf.T89, Sf.T54, Sf.T32, Sf.T145, Sf.T56, Sf.T159, Sf.T147, Sf.T121, Sf.T122, Sf.T111, Sf.T124, Sf.T110, Sf.T113, Sf.T116, Sf.T120, nmC, nmV, wrC, rBE, mc, msC, ow, wR, rw, xm, bsM, rIE]
  refine vframe (hkd) [] (by rfl) (by simp only [rX2, bd, bdL, bdB, bdH, bdT, front, VLe, VLeL, BLe, Phan, TLe, HLe, ro, Blk.owned, CLe, rr, given, mrg, exct, shr, ren, renL, renB, Nat.reduceAdd, Nat.reduceSub, Nat.reduceLT, Nat.reduceLeDiff, Nat.reduceEqDiff, Nat.reduceBEq, Nat.reduceBNe, reduceCtorEq, nmC, nmV, wrC, rBE, mc, msC, ow, wR, rw, xm, bsM, rIE]) ?_
  rintro v h ⟨rfl, rfl⟩ -
  simp (implicitDefEqProofs := false) (maxSteps := 1000000) only [rX2, bd, bdL, bdB, bdH, bdT, front, VLe, VLeL, BLe, Phan, TLe, HLe, ro, Blk.owned, CLe, rr, given, mrg, exct, shr, ren, renL, renB, Nat.reduceAdd, Nat.reduceSub, Nat.reduceLT, Nat.reduceLeDiff, Nat.reduceEqDiff, Nat.reduceBEq, Nat.reduceBNe, reduceCtorEq, nmC, nmV, wrC, rBE, mc, msC, ow, wR, rw, xm, bsM, rIE, rX0, ofVal, ofVals, cellsV, vStore.isTup, eqL, eqV, Blk.deg, oneV, elApp, Nat.reduceAdd, Nat.reduceSub, Nat.reduceMul, Nat.reduceLT, Nat.reduceLeDiff, Nat.reduceEqDiff, Int.reduceToNat, Int.reduceGT, Int.reduceGE, Int.reduceMul, Int.reduceLT, Int.reduceLE, Int.reduceAdd, Int.reduceSub, Int.reduceNeg, reduceCtorEq, Sf.T3, Sf.T4, Sf.T24, Sf.T5, Sf.T22, Sf.T26, Sf.T27, Sf.T89, Sf.T54, Sf.T32, Sf.T145, Sf.T56, Sf.T159, Sf.T147, Sf.T121, Sf.T122, Sf.T111, Sf.T124, Sf.T110, Sf.T113, Sf.T116, Sf.T120, nmC, nmV, wrC, rBE, mc, msC, ow, wR, rw, xm, bsM, rIE]
/-- Which messages may be. -/
def MayM (m : Msg) : Prop :=
  if m.k = 1 then HeadM m true ∧ SameM m (bsM m)
  else if m.k = 2 then HeadM m true ∧ SExec m ∧ Named m.nm ∧ SameM m ({ bsM m with nm := m.nm, num := m.num, op := m.op, blk := m.blk, v := m.v })
  else if m.k = 3 then HeadM m false ∧ SDid m ∧ Named m.nm ∧ SameM m ({ bsM m with nm := m.nm, num := m.num, v := m.v, e := m.e })
  else if m.k = 4 then HeadM m true ∧ SPrep m ∧ Named m.nm ∧ SameM m ({ bsM m with nm := m.nm, give := m.give, take := m.take, n := m.n, w := m.w })
  else if m.k = 5 then HeadM m false ∧ Named m.nm ∧ SameM m ({ bsM m with nm := m.nm, yes := m.yes })
  else if m.k = 6 then HeadM m true ∧ Named m.nm ∧ SameM m ({ bsM m with nm := m.nm, yes := m.yes })
  else if m.k = 7 then HeadM m false ∧ Named m.nm ∧ SameM m ({ bsM m with nm := m.nm })
  else if m.k = 8 then HeadM m false ∧ Named m.nm ∧ SameM m ({ bsM m with nm := m.nm })
  else if m.k = 9 then HeadM m true ∧ Named m.nm ∧ SameM m ({ bsM m with nm := m.nm })
  else if m.k = 10 then HeadM m false ∧ m.e ∈ [0, 50, 121] ∧ Named m.nm ∧ SameM m ({ bsM m with nm := m.nm, e := m.e })
  else if m.k = 11 then HeadM m false ∧ SameM m (bsM m)
  else False
instance (m : Msg) : Decidable (MayM m) := by unfold MayM; infer_instance
theorem mayM_1 (m : Msg) (e : m.k = 1) : MayM m ↔ (HeadM m true ∧ SameM m (bsM m)) := by
  unfold MayM
  rw [if_pos e]
theorem mayM_2 (m : Msg) (e : m.k = 2) : MayM m ↔ (HeadM m true ∧ SExec m ∧ Named m.nm ∧ SameM m ({ bsM m with nm := m.nm, num := m.num, op := m.op, blk := m.blk, v := m.v })) := by
  unfold MayM
  rw [if_neg (by omega)]
  rw [if_pos e]
theorem mayM_3 (m : Msg) (e : m.k = 3) : MayM m ↔ (HeadM m false ∧ SDid m ∧ Named m.nm ∧ SameM m ({ bsM m with nm := m.nm, num := m.num, v := m.v, e := m.e })) := by
  unfold MayM
  rw [if_neg (by omega)]
  rw [if_neg (by omega)]
  rw [if_pos e]
theorem mayM_4 (m : Msg) (e : m.k = 4) : MayM m ↔ (HeadM m true ∧ SPrep m ∧ Named m.nm ∧ SameM m ({ bsM m with nm := m.nm, give := m.give, take := m.take, n := m.n, w := m.w })) := by
  unfold MayM
  rw [if_neg (by omega)]
  rw [if_neg (by omega)]
  rw [if_neg (by omega)]
  rw [if_pos e]
theorem mayM_5 (m : Msg) (e : m.k = 5) : MayM m ↔ (HeadM m false ∧ Named m.nm ∧ SameM m ({ bsM m with nm := m.nm, yes := m.yes })) := by
  unfold MayM
  rw [if_neg (by omega)]
  rw [if_neg (by omega)]
  rw [if_neg (by omega)]
  rw [if_neg (by omega)]
  rw [if_pos e]
theorem mayM_6 (m : Msg) (e : m.k = 6) : MayM m ↔ (HeadM m true ∧ Named m.nm ∧ SameM m ({ bsM m with nm := m.nm, yes := m.yes })) := by
  unfold MayM
  rw [if_neg (by omega)]
  rw [if_neg (by omega)]
  rw [if_neg (by omega)]
  rw [if_neg (by omega)]
  rw [if_neg (by omega)]
  rw [if_pos e]
theorem mayM_7 (m : Msg) (e : m.k = 7) : MayM m ↔ (HeadM m false ∧ Named m.nm ∧ SameM m ({ bsM m with nm := m.nm })) := by
  unfold MayM
  rw [if_neg (by omega)]
  rw [if_neg (by omega)]
  rw [if_neg (by omega)]
  rw [if_neg (by omega)]
  rw [if_neg (by omega)]
  rw [if_neg (by omega)]
  rw [if_pos e]
theorem mayM_8 (m : Msg) (e : m.k = 8) : MayM m ↔ (HeadM m false ∧ Named m.nm ∧ SameM m ({ bsM m with nm := m.nm })) := by
  unfold MayM
  rw [if_neg (by omega)]
  rw [if_neg (by omega)]
  rw [if_neg (by omega)]
  rw [if_neg (by omega)]
  rw [if_neg (by omega)]
  rw [if_neg (by omega)]
  rw [if_neg (by omega)]
  rw [if_pos e]
theorem mayM_9 (m : Msg) (e : m.k = 9) : MayM m ↔ (HeadM m true ∧ Named m.nm ∧ SameM m ({ bsM m with nm := m.nm })) := by
  unfold MayM
  rw [if_neg (by omega)]
  rw [if_neg (by omega)]
  rw [if_neg (by omega)]
  rw [if_neg (by omega)]
  rw [if_neg (by omega)]
  rw [if_neg (by omega)]
  rw [if_neg (by omega)]
  rw [if_neg (by omega)]
  rw [if_pos e]
theorem mayM_10 (m : Msg) (e : m.k = 10) : MayM m ↔ (HeadM m false ∧ m.e ∈ [0, 50, 121] ∧ Named m.nm ∧ SameM m ({ bsM m with nm := m.nm, e := m.e })) := by
  unfold MayM
  rw [if_neg (by omega)]
  rw [if_neg (by omega)]
  rw [if_neg (by omega)]
  rw [if_neg (by omega)]
  rw [if_neg (by omega)]
  rw [if_neg (by omega)]
  rw [if_neg (by omega)]
  rw [if_neg (by omega)]
  rw [if_neg (by omega)]
  rw [if_pos e]
theorem mayM_11 (m : Msg) (e : m.k = 11) : MayM m ↔ (HeadM m false ∧ SameM m (bsM m)) := by
  unfold MayM
  rw [if_neg (by omega)]
  rw [if_neg (by omega)]
  rw [if_neg (by omega)]
  rw [if_neg (by omega)]
  rw [if_neg (by omega)]
  rw [if_neg (by omega)]
  rw [if_neg (by omega)]
  rw [if_neg (by omega)]
  rw [if_neg (by omega)]
  rw [if_neg (by omega)]
  rw [if_pos e]
theorem mayM_none (m : Msg) (hk : m.k < 1 ∨ 11 < m.k) : ¬ MayM m := by
  unfold MayM
  rw [if_neg (by omega)]
  rw [if_neg (by omega)]
  rw [if_neg (by omega)]
  rw [if_neg (by omega)]
  rw [if_neg (by omega)]
  rw [if_neg (by omega)]
  rw [if_neg (by omega)]
  rw [if_neg (by omega)]
  rw [if_neg (by omega)]
  rw [if_neg (by omega)]
  rw [if_neg (by omega)]
  exact id
theorem wmay_ok (m : Msg) (cw : Nat) (hn : m.n ≤ 1000) (ho : -128 ≤ m.op ∧ m.op ≤ 127) (hv : MsgW m) : VCall Try.prog 37 [.agg (msC m (.slice 0 m.n cw))] [.row 9 m.n fun j => wrC (m.w j)] fun v h => v = .bool (decide (MayM m)) ∧ h = [.row 9 m.n fun j => wrC (m.w j)] := by
  by_cases h0 : m.k < 1 ∨ 11 < m.k
  · rw [decide_eq_false (mayM_none m h0)]; exact mayk_none m cw h0
  have hc : m.k = 1 ∨ m.k = 2 ∨ m.k = 3 ∨ m.k = 4 ∨ m.k = 5 ∨ m.k = 6 ∨ m.k = 7 ∨ m.k = 8 ∨ m.k = 9 ∨ m.k = 10 ∨ m.k = 11 := by omega
  rcases hc with e | e | e | e | e | e | e | e | e | e | e
  · rw [decide_eq_decide.2 (mayM_1 m e)]; exact mayk_1 m cw hn e
  · rw [decide_eq_decide.2 (mayM_2 m e)]; exact mayk_2 m cw hn e ho hv
  · rw [decide_eq_decide.2 (mayM_3 m e)]; exact mayk_3 m cw hn e ho hv
  · rw [decide_eq_decide.2 (mayM_4 m e)]; exact mayk_4 m cw hn e ho hv
  · rw [decide_eq_decide.2 (mayM_5 m e)]; exact mayk_5 m cw hn e ho hv
  · rw [decide_eq_decide.2 (mayM_6 m e)]; exact mayk_6 m cw hn e ho hv
  · rw [decide_eq_decide.2 (mayM_7 m e)]; exact mayk_7 m cw hn e ho hv
  · rw [decide_eq_decide.2 (mayM_8 m e)]; exact mayk_8 m cw hn e ho hv
  · rw [decide_eq_decide.2 (mayM_9 m e)]; exact mayk_9 m cw hn e ho hv
  · rw [decide_eq_decide.2 (mayM_10 m e)]; exact mayk_10 m cw hn e ho hv
  · rw [decide_eq_decide.2 (mayM_11 m e)]; exact mayk_11 m cw hn e
end Go.Proofs.Ytnlammgemaapnaa
