/- Layer 15: what must hold of messages of a kind. -/
import Derived.Test.YtnlammgemaapnaaRF
import Derived.Test.YtnlammgemaapnaaTC
set_option linter.unusedSimpArgs false
set_option linter.unusedVariables false
set_option maxRecDepth 100000
namespace Go.Proofs.Ytnlammgemaapnaa
open Go Go.Sx
def iE (l : List Int) (j : Nat) : List VV := [.int .i64 (l.getD j 0)]
theorem wwithin_ok (n a b : Int) : VCall Try.prog 73 [.int .i64 n, .int .i64 a, .int .i64 b] [] fun v h => v = .bool (decide (a ≤ n ∧ n ≤ b)) ∧ h = [] := by
  refine VCall.trim 0 (Nat.le_of_ble_eq_true rfl) ?_
  refine wbody Try.func73 rfl (by kernel_rfl) ?_
  rw [Try.ntmps73, Try.results73]
  simp (implicitDefEqProofs := false) (maxSteps := 1000000) only [rX1, bd, bdL, bdB, bdH, bdT, front, VLe, VLeL, BLe, Phan, TLe, HLe, ro, Blk.owned, CLe, rr, given, mrg, exct, shr, ren, renL, renB, Nat.reduceBEq, Nat.reduceBNe, rX0, ofVal, ofVals, cellsV, vStore.isTup, Blk.deg, oneV, elApp, Nat.reduceAdd, Nat.reduceSub, Nat.reduceMul, Nat.reduceLT, Nat.reduceLeDiff, Nat.reduceEqDiff, Int.reduceToNat, Int.reduceGT, Int.reduceGE, Int.reduceMul, Int.reduceLT, Int.reduceLE, Int.reduceAdd, Int.reduceSub, Int.reduceNeg, reduceCtorEq, Sf.T3, Sf.T4, Sf.T24, Sf.T5, Sf.T26, Sf.T27, Sf.T89, Sf.T54, Sf.T32, Sf.T145, Sf.T56, Sf.T147, nmC, nmV, wrC, mc, msC, iE]
  repeat' (first | (refine And.intro ?_ ?_) | intro _)
  all_goals refine congrArg VV.bool ?_
  all_goals first
    | (refine (decide_eq_false ?_).symm; omega)
    | (refine decide_eq_decide.2 ?_; omega)
theorem index_ok (l : List Int) (c : Nat) (e : Int) (hl : l.length ≤ 1000) : VCall Try.prog 146 [.slice 0 l.length c, .int .i64 e] [.row 1 l.length (iE l)] fun v h => (∃ x : Int, v = .int .i64 x ∧ (0 ≤ x ↔ e ∈ l)) ∧ h = [.row 1 l.length (iE l)] := by
  refine VCall.trim 1 (Nat.le_of_ble_eq_true rfl) ?_
  refine wbody Try.func146 rfl (by kernel_rfl) ?_
  rw [Try.ntmps146, Try.results146]
  simp (implicitDefEqProofs := false) (maxSteps := 1000000) only [rX1, bd, bdL, bdB, bdH, bdT, front, VLe, VLeL, BLe, Phan, TLe, HLe, ro, Blk.owned, CLe, rr, given, mrg, exct, shr, ren, renL, renB, Nat.reduceBEq, Nat.reduceBNe, rX0, ofVal, ofVals, cellsV, vStore.isTup, Blk.deg, oneV, elApp, Nat.reduceAdd, Nat.reduceSub, Nat.reduceMul, Nat.reduceLT, Nat.reduceLeDiff, Nat.reduceEqDiff, Int.reduceToNat, Int.reduceGT, Int.reduceGE, Int.reduceMul, Int.reduceLT, Int.reduceLE, Int.reduceAdd, Int.reduceSub, Int.reduceNeg, reduceCtorEq, Sf.T3, Sf.T4, Sf.T24, Sf.T5, Sf.T26, Sf.T27, Sf.T89, Sf.T54, Sf.T32, Sf.T145, Sf.T56, Sf.T147, nmC, nmV, wrC, mc, msC, iE]
  refine wloop (fun i : Nat => ⟨[some (.slice 0 l.length c), some (.int .i64 e), none, none, none, none, none, some (.int .i64 l.length), some (.int .i64 i), none, none, none, none, none, none, none, none, none, none], [.row 1 l.length (iE l)]⟩) (fun i => i ≤ l.length ∧ ∀ j, j < i → ¬ e = l.getD j 0) (fun i => l.length - i) 0 ⟨Nat.zero_le _, fun j hj => by omega⟩ ?_ ?_
  · refine Le.off [some 0] (by rfl) (by rfl) (by simp only [rX2, bd, bdL, bdB, bdH, bdT, front, VLe, VLeL, BLe, Phan, TLe, HLe, ro, Blk.owned, CLe, rr, given, mrg, exct, shr, ren, renL, renB, Nat.reduceAdd, Nat.reduceSub, Nat.reduceLT, Nat.reduceLeDiff, Nat.reduceEqDiff, Nat.reduceBEq, Nat.reduceBNe, reduceCtorEq, nmC, nmV, wrC, mc, msC, iE])
  rintro i ⟨hi, hall⟩
  have hw := wrapS i (by omega)
  simp (implicitDefEqProofs := false) (maxSteps := 1000000) only [rX2, bd, bdL, bdB, bdH, bdT, front, VLe, VLeL, BLe, Phan, TLe, HLe, ro, Blk.owned, CLe, rr, given, mrg, exct, shr, ren, renL, renB, Nat.reduceAdd, Nat.reduceSub, Nat.reduceLT, Nat.reduceLeDiff, Nat.reduceEqDiff, Nat.reduceBEq, Nat.reduceBNe, reduceCtorEq, nmC, nmV, wrC, mc, msC, iE, rX0, ofVal, ofVals, cellsV, vStore.isTup, Blk.deg, oneV, elApp, Nat.reduceAdd, Nat.reduceSub, Nat.reduceMul, Nat.reduceLT, Nat.reduceLeDiff, Nat.reduceEqDiff, Int.reduceToNat, Int.reduceGT, Int.reduceGE, Int.reduceMul, Int.reduceLT, Int.reduceLE, Int.reduceAdd, Int.reduceSub, Int.reduceNeg, reduceCtorEq, Sf.T3, Sf.T4, Sf.T24, Sf.T5, Sf.T26, Sf.T27, Sf.T89, Sf.T54, Sf.T32, Sf.T145, Sf.T56, Sf.T147, nmC, nmV, wrC, mc, msC, iE]
  refine ⟨fun hlt => ⟨hlt, hlt, hlt, fun he => ?_, fun he => ?_⟩, fun hge => ?_⟩
  · refine ⟨i, rfl, fun _ => ?_, fun _ => by omega⟩
    rw [he, List.getD_eq_getElem?_getD, List.getElem?_eq_getElem hlt]
    exact List.getElem_mem hlt
  · simp (implicitDefEqProofs := false) (maxSteps := 1000000) only [hw, rX2, bd, bdL, bdB, bdH, bdT, front, VLe, VLeL, BLe, Phan, TLe, HLe, ro, Blk.owned, CLe, rr, given, mrg, exct, shr, ren, renL, renB, Nat.reduceAdd, Nat.reduceSub, Nat.reduceLT, Nat.reduceLeDiff, Nat.reduceEqDiff, Nat.reduceBEq, Nat.reduceBNe, reduceCtorEq, nmC, nmV, wrC, mc, msC, iE, rX0, ofVal, ofVals, cellsV, vStore.isTup, Blk.deg, oneV, elApp, Nat.reduceAdd, Nat.reduceSub, Nat.reduceMul, Nat.reduceLT, Nat.reduceLeDiff, Nat.reduceEqDiff, Int.reduceToNat, Int.reduceGT, Int.reduceGE, Int.reduceMul, Int.reduceLT, Int.reduceLE, Int.reduceAdd, Int.reduceSub, Int.reduceNeg, reduceCtorEq, Sf.T3, Sf.T4, Sf.T24, Sf.T5, Sf.T26, Sf.T27, Sf.T89, Sf.T54, Sf.T32, Sf.T145, Sf.T56, Sf.T147, nmC, nmV, wrC, mc, msC, iE]
    refine ⟨i + 1, ⟨by omega, fun j hj => ?_⟩, by omega, ?_⟩
    · rcases Nat.lt_or_ge j i with c | c
      · exact hall j c
      · rw [show j = i by omega]; exact he
    · refine Le.off [some 0] (by rfl) (by rfl) (by simp only [rX2, bd, bdL, bdB, bdH, bdT, front, VLe, VLeL, BLe, Phan, TLe, HLe, ro, Blk.owned, CLe, rr, given, mrg, exct, shr, ren, renL, renB, Nat.reduceAdd, Nat.reduceSub, Nat.reduceLT, Nat.reduceLeDiff, Nat.reduceEqDiff, Nat.reduceBEq, Nat.reduceBNe, reduceCtorEq, nmC, nmV, wrC, mc, msC, iE])
  · refine ⟨-1, rfl, fun h => by omega, fun h => ?_⟩
    obtain ⟨j, hj, he⟩ := List.mem_iff_getElem.1 h
    exact absurd (by rw [List.getD_eq_getElem?_getD, List.getElem?_eq_getElem hj]; exact he.symm) (hall j (by omega))
theorem contains_ok (l : List Int) (c : Nat) (e : Int) (hl : l.length ≤ 1000) : VCall Try.prog 88 [.slice 0 l.length c, .int .i64 e] [.row 1 l.length (iE l)] fun v h => v = .bool (decide (e ∈ l)) ∧ h = [.row 1 l.length (iE l)] := by
  have hx := index_ok l c e hl
  refine VCall.trim 1 (Nat.le_of_ble_eq_true rfl) ?_
  refine wbody Try.func88 rfl (by kernel_rfl) ?_
  rw [Try.ntmps88, Try.results88]
  simp (implicitDefEqProofs := false) (maxSteps := 1000000) only [rX1, bd, bdL, bdB, bdH, bdT, front, VLe, VLeL, BLe, Phan, TLe, HLe, ro, Blk.owned, CLe, rr, given, mrg, exct, shr, ren, renL, renB, Nat.reduceBEq, Nat.reduceBNe, rX0, ofVal, ofVals, cellsV, vStore.isTup, Blk.deg, oneV, elApp, Nat.reduceAdd, Nat.reduceSub, Nat.reduceMul, Nat.reduceLT, Nat.reduceLeDiff, Nat.reduceEqDiff, Int.reduceToNat, Int.reduceGT, Int.reduceGE, Int.reduceMul, Int.reduceLT, Int.reduceLE, Int.reduceAdd, Int.reduceSub, Int.reduceNeg, reduceCtorEq, Sf.T3, Sf.T4, Sf.T24, Sf.T5, Sf.T26, Sf.T27, Sf.T89, Sf.T54, Sf.T32, Sf.T145, Sf.T56, Sf.T147, nmC, nmV, wrC, mc, msC, iE]
  refine vframe (hx) [0] (by rfl) (by simp only [rX2, bd, bdL, bdB, bdH, bdT, front, VLe, VLeL, BLe, Phan, TLe, HLe, ro, Blk.owned, CLe, rr, given, mrg, exct, shr, ren, renL, renB, Nat.reduceAdd, Nat.reduceSub, Nat.reduceLT, Nat.reduceLeDiff, Nat.reduceEqDiff, Nat.reduceBEq, Nat.reduceBNe, reduceCtorEq, nmC, nmV, wrC, mc, msC, iE]) ?_
  rintro v h ⟨⟨x, rfl, hm⟩, rfl⟩ -
  simp (implicitDefEqProofs := false) (maxSteps := 1000000) only [rX2, bd, bdL, bdB, bdH, bdT, front, VLe, VLeL, BLe, Phan, TLe, HLe, ro, Blk.owned, CLe, rr, given, mrg, exct, shr, ren, renL, renB, Nat.reduceAdd, Nat.reduceSub, Nat.reduceLT, Nat.reduceLeDiff, Nat.reduceEqDiff, Nat.reduceBEq, Nat.reduceBNe, reduceCtorEq, nmC, nmV, wrC, mc, msC, iE, rX0, ofVal, ofVals, cellsV, vStore.isTup, Blk.deg, oneV, elApp, Nat.reduceAdd, Nat.reduceSub, Nat.reduceMul, Nat.reduceLT, Nat.reduceLeDiff, Nat.reduceEqDiff, Int.reduceToNat, Int.reduceGT, Int.reduceGE, Int.reduceMul, Int.reduceLT, Int.reduceLE, Int.reduceAdd, Int.reduceSub, Int.reduceNeg, reduceCtorEq, Sf.T3, Sf.T4, Sf.T24, Sf.T5, Sf.T26, Sf.T27, Sf.T89, Sf.T54, Sf.T32, Sf.T145, Sf.T56, Sf.T147, nmC, nmV, wrC, mc, msC, iE]
  exact congrArg VV.bool (decide_eq_decide.2 hm)
def vz : Nat → Int := fun _ => 0
theorem eqL_vz (v : Nat → Int) : eqL (vC v) [.int .u8 0, .int .u8 0, .int .u8 0, .int .u8 0, .int .u8 0, .int .u8 0, .int .u8 0, .int .u8 0] = decide (VEq v vz) := eqL_v v vz
/-- A function that tells whether S holds of a message. -/
def SuchM (f : Nat) (S : Msg → Prop) [∀ m, Decidable (S m)] : Prop := ∀ (cw : Nat) (m : Msg), m.n ≤ 1000 →
  VCall Try.prog f [.ptr 0 0 0 0] [mc m 1 cw, .row 9 m.n fun j => wrC (m.w j)] fun v h => v = .bool (decide (S m)) ∧ h = [mc m 1 cw, .row 9 m.n fun j => wrC (m.w j)]
theorem sany_ok : SuchM 85 fun _ => True := by
  intro cw m hn
  refine VCall.trim 2 (Nat.le_of_ble_eq_true rfl) ?_
  refine wbody Try.func85 rfl (by kernel_rfl) ?_
  rw [Try.ntmps85, Try.results85]
  simp (implicitDefEqProofs := false) (maxSteps := 1000000) only [rX1, bd, bdL, bdB, bdH, bdT, front, VLe, VLeL, BLe, Phan, TLe, HLe, ro, Blk.owned, CLe, rr, given, mrg, exct, shr, ren, renL, renB, Nat.reduceBEq, Nat.reduceBNe, rX0, ofVal, ofVals, cellsV, vStore.isTup, Blk.deg, oneV, elApp, Nat.reduceAdd, Nat.reduceSub, Nat.reduceMul, Nat.reduceLT, Nat.reduceLeDiff, Nat.reduceEqDiff, Int.reduceToNat, Int.reduceGT, Int.reduceGE, Int.reduceMul, Int.reduceLT, Int.reduceLE, Int.reduceAdd, Int.reduceSub, Int.reduceNeg, reduceCtorEq, Sf.T3, Sf.T4, Sf.T24, Sf.T5, Sf.T26, Sf.T27, Sf.T89, Sf.T54, Sf.T32, Sf.T145, Sf.T56, Sf.T147, nmC, nmV, wrC, mc, msC, iE]
def SExec (m : Msg) : Prop := (1 ≤ m.num ∧ m.num ≤ 1048576) ∧ 0 ≤ m.op ∧ m.op ≤ 2 ∧ (0 ≤ m.blk ∧ m.blk ≤ 31) ∧ (m.op = 1 ∨ VEq m.v vz)
instance (m : Msg) : Decidable (SExec m) := by unfold SExec; infer_instance
theorem sexec_ok : SuchM 89 SExec := by
  intro cw m hn
  have hq := eqL_vz m.v
  simp only [vC] at hq
  refine VCall.trim 2 (Nat.le_of_ble_eq_true rfl) ?_
  refine wbody Try.func89 rfl (by kernel_rfl) ?_
  rw [Try.ntmps89, Try.results89]
  simp (implicitDefEqProofs := false) (maxSteps := 1000000) only [rX1, bd, bdL, bdB, bdH, bdT, front, VLe, VLeL, BLe, Phan, TLe, HLe, ro, Blk.owned, CLe, rr, given, mrg, exct, shr, ren, renL, renB, Nat.reduceBEq, Nat.reduceBNe, rX0, ofVal, ofVals, cellsV, vStore.isTup, Blk.deg, oneV, elApp, Nat.reduceAdd, Nat.reduceSub, Nat.reduceMul, Nat.reduceLT, Nat.reduceLeDiff, Nat.reduceEqDiff, Int.reduceToNat, Int.reduceGT, Int.reduceGE, Int.reduceMul, Int.reduceLT, Int.reduceLE, Int.reduceAdd, Int.reduceSub, Int.reduceNeg, reduceCtorEq, Sf.T3, Sf.T4, Sf.T24, Sf.T5, Sf.T26, Sf.T27, Sf.T89, Sf.T54, Sf.T32, Sf.T145, Sf.T56, Sf.T147, nmC, nmV, wrC, mc, msC, iE]
  refine vframe (wwithin_ok m.num 1 1048576) [] (by rfl) (by simp only [rX2, bd, bdL, bdB, bdH, bdT, front, VLe, VLeL, BLe, Phan, TLe, HLe, ro, Blk.owned, CLe, rr, given, mrg, exct, shr, ren, renL, renB, Nat.reduceAdd, Nat.reduceSub, Nat.reduceLT, Nat.reduceLeDiff, Nat.reduceEqDiff, Nat.reduceBEq, Nat.reduceBNe, reduceCtorEq, nmC, nmV, wrC, mc, msC, iE]) ?_
  rintro v h ⟨rfl, rfl⟩ -
  simp (implicitDefEqProofs := false) (maxSteps := 1000000) only [hq, rX2, bd, bdL, bdB, bdH, bdT, front, VLe, VLeL, BLe, Phan, TLe, HLe, ro, Blk.owned, CLe, rr, given, mrg, exct, shr, ren, renL, renB, Nat.reduceAdd, Nat.reduceSub, Nat.reduceLT, Nat.reduceLeDiff, Nat.reduceEqDiff, Nat.reduceBEq, Nat.reduceBNe, reduceCtorEq, nmC, nmV, wrC, mc, msC, iE, rX0, ofVal, ofVals, cellsV, vStore.isTup, Blk.deg, oneV, elApp, Nat.reduceAdd, Nat.reduceSub, Nat.reduceMul, Nat.reduceLT, Nat.reduceLeDiff, Nat.reduceEqDiff, Int.reduceToNat, Int.reduceGT, Int.reduceGE, Int.reduceMul, Int.reduceLT, Int.reduceLE, Int.reduceAdd, Int.reduceSub, Int.reduceNeg, reduceCtorEq, Sf.T3, Sf.T4, Sf.T24, Sf.T5, Sf.T26, Sf.T27, Sf.T89, Sf.T54, Sf.T32, Sf.T145, Sf.T56, Sf.T147, nmC, nmV, wrC, mc, msC, iE]
  have no : ¬ SExec m → VV.bool false = VV.bool (decide (SExec m)) := fun h => by rw [decide_eq_false h]
  refine ⟨fun h1 => ⟨fun h2 => ⟨fun h3 => ?_, fun h3 => no fun hS => h3 hS.2.2.1⟩, fun h2 => no fun hS => h2 hS.2.1⟩, fun h1 => no fun hS => h1 hS.1⟩
  refine vframe (wwithin_ok m.blk 0 31) [] (by rfl) (by simp only [rX2, bd, bdL, bdB, bdH, bdT, front, VLe, VLeL, BLe, Phan, TLe, HLe, ro, Blk.owned, CLe, rr, given, mrg, exct, shr, ren, renL, renB, Nat.reduceAdd, Nat.reduceSub, Nat.reduceLT, Nat.reduceLeDiff, Nat.reduceEqDiff, Nat.reduceBEq, Nat.reduceBNe, reduceCtorEq, nmC, nmV, wrC, mc, msC, iE]) ?_
  rintro v h ⟨rfl, rfl⟩ -
  simp (implicitDefEqProofs := false) (maxSteps := 1000000) only [hq, rX2, bd, bdL, bdB, bdH, bdT, front, VLe, VLeL, BLe, Phan, TLe, HLe, ro, Blk.owned, CLe, rr, given, mrg, exct, shr, ren, renL, renB, Nat.reduceAdd, Nat.reduceSub, Nat.reduceLT, Nat.reduceLeDiff, Nat.reduceEqDiff, Nat.reduceBEq, Nat.reduceBNe, reduceCtorEq, nmC, nmV, wrC, mc, msC, iE, rX0, ofVal, ofVals, cellsV, vStore.isTup, Blk.deg, oneV, elApp, Nat.reduceAdd, Nat.reduceSub, Nat.reduceMul, Nat.reduceLT, Nat.reduceLeDiff, Nat.reduceEqDiff, Int.reduceToNat, Int.reduceGT, Int.reduceGE, Int.reduceMul, Int.reduceLT, Int.reduceLE, Int.reduceAdd, Int.reduceSub, Int.reduceNeg, reduceCtorEq, Sf.T3, Sf.T4, Sf.T24, Sf.T5, Sf.T26, Sf.T27, Sf.T89, Sf.T54, Sf.T32, Sf.T145, Sf.T56, Sf.T147, nmC, nmV, wrC, mc, msC, iE]
  refine ⟨fun h4 => ⟨fun h5 => ?_, fun h5 => ?_⟩, fun h4 => ?_⟩
  all_goals first
    | exact congrArg VV.bool (decide_eq_true (show SExec m from ⟨h1, h2, h3, h4, .inl h5⟩)).symm
    | exact congrArg VV.bool (decide_eq_decide.2 ⟨fun h => ⟨h1, h2, h3, h4, .inr h⟩, fun hS => hS.2.2.2.2.resolve_left h5⟩)
    | exact no fun hS => h4 hS.2.2.2.1
    | fail "EXEC2"
/-- Whether a message's error is one of some: three or five. -/
theorem sone_ok (l : List Int) (c cw : Nat) (m : Msg) (hl : l.length ≤ 1000) : VCall Try.prog 87 [.ptr 0 0 0 0, .ptr 2 0 0 0] [mc m 1 cw, .row 9 m.n fun j => wrC (m.w j), .cells false 145 [.slice 3 l.length c], .row 1 l.length (iE l)] fun v h => v = .bool (decide (m.e ∈ l)) ∧ h = [mc m 1 cw, .row 9 m.n fun j => wrC (m.w j), .cells false 145 [.slice 3 l.length c], .row 1 l.length (iE l)] := by
  have hx := contains_ok l c m.e hl
  unfold mc
  refine VCall.trim 4 (Nat.le_of_ble_eq_true rfl) ?_
  refine wbody Try.func87 rfl (by kernel_rfl) ?_
  rw [Try.ntmps87, Try.results87]
  simp (implicitDefEqProofs := false) (maxSteps := 1000000) only [rX1, bd, bdL, bdB, bdH, bdT, front, VLe, VLeL, BLe, Phan, TLe, HLe, ro, Blk.owned, CLe, rr, given, mrg, exct, shr, ren, renL, renB, Nat.reduceBEq, Nat.reduceBNe, rX0, ofVal, ofVals, cellsV, vStore.isTup, Blk.deg, oneV, elApp, Nat.reduceAdd, Nat.reduceSub, Nat.reduceMul, Nat.reduceLT, Nat.reduceLeDiff, Nat.reduceEqDiff, Int.reduceToNat, Int.reduceGT, Int.reduceGE, Int.reduceMul, Int.reduceLT, Int.reduceLE, Int.reduceAdd, Int.reduceSub, Int.reduceNeg, reduceCtorEq, Sf.T3, Sf.T4, Sf.T24, Sf.T5, Sf.T26, Sf.T27, Sf.T89, Sf.T54, Sf.T32, Sf.T145, Sf.T56, Sf.T147, nmC, nmV, wrC, mc, msC, iE]
  refine wdraw (.take 1 (.view 2 (.view 3 (.take 0 (.one 4 (.one 5 (.take 6 (.done)))))))) [.cells false 56 (msC m (.slice 1 m.n cw)), .gone, .cells false 145 [.slice 3 l.length c], .row 1 l.length (iE l)] (by kernel_rfl) (by kernel_rfl) (by simp only [rX2, bd, bdL, bdB, bdH, bdT, front, VLe, VLeL, BLe, Phan, TLe, HLe, ro, Blk.owned, CLe, rr, given, mrg, exct, shr, ren, renL, renB, Nat.reduceAdd, Nat.reduceSub, Nat.reduceLT, Nat.reduceLeDiff, Nat.reduceEqDiff, Nat.reduceBEq, Nat.reduceBNe, reduceCtorEq, nmC, nmV, wrC, mc, msC, iE, m7y, m7z, m80, m81, m83, m82]) (by simp only [rX2, bd, bdL, bdB, bdH, bdT, front, VLe, VLeL, BLe, Phan, TLe, HLe, ro, Blk.owned, CLe, rr, given, mrg, exct, shr, ren, renL, renB, Nat.reduceAdd, Nat.reduceSub, Nat.reduceLT, Nat.reduceLeDiff, Nat.reduceEqDiff, Nat.reduceBEq, Nat.reduceBNe, reduceCtorEq, nmC, nmV, wrC, mc, msC, iE]) ?_
  simp (implicitDefEqProofs := false) (maxSteps := 1000000) only [rX2, bd, bdL, bdB, bdH, bdT, front, VLe, VLeL, BLe, Phan, TLe, HLe, ro, Blk.owned, CLe, rr, given, mrg, exct, shr, ren, renL, renB, Nat.reduceAdd, Nat.reduceSub, Nat.reduceLT, Nat.reduceLeDiff, Nat.reduceEqDiff, Nat.reduceBEq, Nat.reduceBNe, reduceCtorEq, nmC, nmV, wrC, mc, msC, iE, rX0, ofVal, ofVals, cellsV, vStore.isTup, Blk.deg, oneV, elApp, Nat.reduceAdd, Nat.reduceSub, Nat.reduceMul, Nat.reduceLT, Nat.reduceLeDiff, Nat.reduceEqDiff, Int.reduceToNat, Int.reduceGT, Int.reduceGE, Int.reduceMul, Int.reduceLT, Int.reduceLE, Int.reduceAdd, Int.reduceSub, Int.reduceNeg, reduceCtorEq, Sf.T3, Sf.T4, Sf.T24, Sf.T5, Sf.T26, Sf.T27, Sf.T89, Sf.T54, Sf.T32, Sf.T145, Sf.T56, Sf.T147, nmC, nmV, wrC, mc, msC, iE]
  refine vframe (hx) [3] (by rfl) (by simp only [rX2, bd, bdL, bdB, bdH, bdT, front, VLe, VLeL, BLe, Phan, TLe, HLe, ro, Blk.owned, CLe, rr, given, mrg, exct, shr, ren, renL, renB, Nat.reduceAdd, Nat.reduceSub, Nat.reduceLT, Nat.reduceLeDiff, Nat.reduceEqDiff, Nat.reduceBEq, Nat.reduceBNe, reduceCtorEq, nmC, nmV, wrC, mc, msC, iE]) ?_
  rintro v h ⟨rfl, rfl⟩ -
  simp (implicitDefEqProofs := false) (maxSteps := 1000000) only [rX2, bd, bdL, bdB, bdH, bdT, front, VLe, VLeL, BLe, Phan, TLe, HLe, ro, Blk.owned, CLe, rr, given, mrg, exct, shr, ren, renL, renB, Nat.reduceAdd, Nat.reduceSub, Nat.reduceLT, Nat.reduceLeDiff, Nat.reduceEqDiff, Nat.reduceBEq, Nat.reduceBNe, reduceCtorEq, nmC, nmV, wrC, mc, msC, iE, rX0, ofVal, ofVals, cellsV, vStore.isTup, Blk.deg, oneV, elApp, Nat.reduceAdd, Nat.reduceSub, Nat.reduceMul, Nat.reduceLT, Nat.reduceLeDiff, Nat.reduceEqDiff, Int.reduceToNat, Int.reduceGT, Int.reduceGE, Int.reduceMul, Int.reduceLT, Int.reduceLE, Int.reduceAdd, Int.reduceSub, Int.reduceNeg, reduceCtorEq, Sf.T3, Sf.T4, Sf.T24, Sf.T5, Sf.T26, Sf.T27, Sf.T89, Sf.T54, Sf.T32, Sf.T145, Sf.T56, Sf.T147, nmC, nmV, wrC, mc, msC, iE]
theorem mone_ok (l : List Int) (c : Nat) : VCall Try.prog 86 [.slice 0 l.length c] [.row 1 l.length (iE l)] fun v h => v = .func 87 [] [.ptr 1 0 0 0] ∧ h = [.row 1 l.length (iE l), .cells true 145 [.slice 0 l.length c]] := by
  refine VC.out ?_
  refine wbody Try.func86 rfl (by kernel_rfl) ?_
  rw [Try.ntmps86, Try.results86]
  simp (implicitDefEqProofs := false) (maxSteps := 1000000) only [rX1, bd, bdL, bdB, bdH, bdT, front, VLe, VLeL, BLe, Phan, TLe, HLe, ro, Blk.owned, CLe, rr, given, mrg, exct, shr, ren, renL, renB, Nat.reduceBEq, Nat.reduceBNe, rX0, ofVal, ofVals, cellsV, vStore.isTup, Blk.deg, oneV, elApp, Nat.reduceAdd, Nat.reduceSub, Nat.reduceMul, Nat.reduceLT, Nat.reduceLeDiff, Nat.reduceEqDiff, Int.reduceToNat, Int.reduceGT, Int.reduceGE, Int.reduceMul, Int.reduceLT, Int.reduceLE, Int.reduceAdd, Int.reduceSub, Int.reduceNeg, reduceCtorEq, Sf.T3, Sf.T4, Sf.T24, Sf.T5, Sf.T26, Sf.T27, Sf.T89, Sf.T54, Sf.T32, Sf.T145, Sf.T56, Sf.T147, nmC, nmV, wrC, mc, msC, iE]
  exact ⟨_, _, Le.off [some 0, some 1] (by rfl) (by rfl) (by simp only [rX2, bd, bdL, bdB, bdH, bdT, front, VLe, VLeL, BLe, Phan, TLe, HLe, ro, Blk.owned, CLe, rr, given, mrg, exct, shr, ren, renL, renB, Nat.reduceAdd, Nat.reduceSub, Nat.reduceLT, Nat.reduceLeDiff, Nat.reduceEqDiff, Nat.reduceBEq, Nat.reduceBNe, reduceCtorEq, nmC, nmV, wrC, mc, msC, iE]), rfl, rfl⟩
def SDid (m : Msg) : Prop := (1 ≤ m.num ∧ m.num ≤ 1048576) ∧ m.e ∈ [0, 120, 112, 121, 50] ∧ (m.e = 0 ∨ VEq m.v vz)
instance (m : Msg) : Decidable (SDid m) := by unfold SDid; infer_instance
theorem five_chunk (a b c d e : Int) (j : Nat) (hj : j < 5) : chunk 1 [.int .i64 a, .int .i64 b, .int .i64 c, .int .i64 d, .int .i64 e] j = iE [a, b, c, d, e] j := by
  match j, hj with
  | 0, _ | 1, _ | 2, _ | 3, _ | 4, _ => rfl
theorem sdid_ok (cw : Nat) (m : Msg) (hn : m.n ≤ 1000) : VCall Try.prog 90 [.ptr 0 0 0 0, .ptr 2 0 0 0] [mc m 1 cw, .row 9 m.n fun j => wrC (m.w j), .cells false 147 [.func 86 [] []]] fun v h => v = .bool (decide (SDid m)) ∧ h = [mc m 1 cw, .row 9 m.n fun j => wrC (m.w j), .cells false 147 [.func 86 [] []]] := by
  have hq := eqL_vz m.v
  simp only [vC] at hq
  have hx := mone_ok [0, 120, 112, 121, 50] 5
  have hy := sone_ok [0, 120, 112, 121, 50] 5 cw m (by simp)
  unfold mc at hy ⊢
  simp only [List.length_cons, List.length_nil] at hx hy
  have no : ¬ SDid m → VV.bool false = VV.bool (decide (SDid m)) := fun h => by rw [decide_eq_false h]
  refine VCall.trim 3 (Nat.le_of_ble_eq_true rfl) ?_
  refine wbody Try.func90 rfl (by kernel_rfl) ?_
  rw [Try.ntmps90, Try.results90]
  simp (implicitDefEqProofs := false) (maxSteps := 1000000) only [rX1, bd, bdL, bdB, bdH, bdT, front, VLe, VLeL, BLe, Phan, TLe, HLe, ro, Blk.owned, CLe, rr, given, mrg, exct, shr, ren, renL, renB, Nat.reduceBEq, Nat.reduceBNe, rX0, ofVal, ofVals, cellsV, vStore.isTup, Blk.deg, oneV, elApp, Nat.reduceAdd, Nat.reduceSub, Nat.reduceMul, Nat.reduceLT, Nat.reduceLeDiff, Nat.reduceEqDiff, Int.reduceToNat, Int.reduceGT, Int.reduceGE, Int.reduceMul, Int.reduceLT, Int.reduceLE, Int.reduceAdd, Int.reduceSub, Int.reduceNeg, reduceCtorEq, Sf.T3, Sf.T4, Sf.T24, Sf.T5, Sf.T26, Sf.T27, Sf.T89, Sf.T54, Sf.T32, Sf.T145, Sf.T56, Sf.T147, nmC, nmV, wrC, mc, msC, iE]
  refine vframe (wwithin_ok m.num 1 1048576) [] (by rfl) (by simp only [rX2, bd, bdL, bdB, bdH, bdT, front, VLe, VLeL, BLe, Phan, TLe, HLe, ro, Blk.owned, CLe, rr, given, mrg, exct, shr, ren, renL, renB, Nat.reduceAdd, Nat.reduceSub, Nat.reduceLT, Nat.reduceLeDiff, Nat.reduceEqDiff, Nat.reduceBEq, Nat.reduceBNe, reduceCtorEq, nmC, nmV, wrC, mc, msC, iE]) ?_
  rintro v h ⟨rfl, rfl⟩ -
  simp (implicitDefEqProofs := false) (maxSteps := 1000000) only [hq, rX2, bd, bdL, bdB, bdH, bdT, front, VLe, VLeL, BLe, Phan, TLe, HLe, ro, Blk.owned, CLe, rr, given, mrg, exct, shr, ren, renL, renB, Nat.reduceAdd, Nat.reduceSub, Nat.reduceLT, Nat.reduceLeDiff, Nat.reduceEqDiff, Nat.reduceBEq, Nat.reduceBNe, reduceCtorEq, nmC, nmV, wrC, mc, msC, iE, rX0, ofVal, ofVals, cellsV, vStore.isTup, Blk.deg, oneV, elApp, Nat.reduceAdd, Nat.reduceSub, Nat.reduceMul, Nat.reduceLT, Nat.reduceLeDiff, Nat.reduceEqDiff, Int.reduceToNat, Int.reduceGT, Int.reduceGE, Int.reduceMul, Int.reduceLT, Int.reduceLE, Int.reduceAdd, Int.reduceSub, Int.reduceNeg, reduceCtorEq, Sf.T3, Sf.T4, Sf.T24, Sf.T5, Sf.T26, Sf.T27, Sf.T89, Sf.T54, Sf.T32, Sf.T145, Sf.T56, Sf.T147, nmC, nmV, wrC, mc, msC, iE]
  refine ⟨fun h1 => ?_, fun h1 => no fun hS => h1 hS.1⟩
  refine vframe (hx) [3] (by rfl) (by simp only [rX2, bd, bdL, bdB, bdH, bdT, front, VLe, VLeL, BLe, Phan, TLe, HLe, ro, Blk.owned, CLe, rr, given, mrg, exct, shr, ren, renL, renB, Nat.reduceAdd, Nat.reduceSub, Nat.reduceLT, Nat.reduceLeDiff, Nat.reduceEqDiff, Nat.reduceBEq, Nat.reduceBNe, reduceCtorEq, nmC, nmV, wrC, mc, msC, iE]; exact fun j hj => five_chunk _ _ _ _ _ j hj) ?_
  rintro v h ⟨rfl, rfl⟩ -
  simp (implicitDefEqProofs := false) (maxSteps := 1000000) only [rX2, bd, bdL, bdB, bdH, bdT, front, VLe, VLeL, BLe, Phan, TLe, HLe, ro, Blk.owned, CLe, rr, given, mrg, exct, shr, ren, renL, renB, Nat.reduceAdd, Nat.reduceSub, Nat.reduceLT, Nat.reduceLeDiff, Nat.reduceEqDiff, Nat.reduceBEq, Nat.reduceBNe, reduceCtorEq, nmC, nmV, wrC, mc, msC, iE, rX0, ofVal, ofVals, cellsV, vStore.isTup, Blk.deg, oneV, elApp, Nat.reduceAdd, Nat.reduceSub, Nat.reduceMul, Nat.reduceLT, Nat.reduceLeDiff, Nat.reduceEqDiff, Int.reduceToNat, Int.reduceGT, Int.reduceGE, Int.reduceMul, Int.reduceLT, Int.reduceLE, Int.reduceAdd, Int.reduceSub, Int.reduceNeg, reduceCtorEq, Sf.T3, Sf.T4, Sf.T24, Sf.T5, Sf.T26, Sf.T27, Sf.T89, Sf.T54, Sf.T32, Sf.T145, Sf.T56, Sf.T147, nmC, nmV, wrC, mc, msC, iE]
  refine vframe (hy) [0, 1, 4, 3] (by rfl) (by simp only [rX2, bd, bdL, bdB, bdH, bdT, front, VLe, VLeL, BLe, Phan, TLe, HLe, ro, Blk.owned, CLe, rr, given, mrg, exct, shr, ren, renL, renB, Nat.reduceAdd, Nat.reduceSub, Nat.reduceLT, Nat.reduceLeDiff, Nat.reduceEqDiff, Nat.reduceBEq, Nat.reduceBNe, reduceCtorEq, nmC, nmV, wrC, mc, msC, iE]; exact fun j hj => five_chunk _ _ _ _ _ j hj) ?_
  rintro v h ⟨rfl, rfl⟩ -
  simp (implicitDefEqProofs := false) (maxSteps := 1000000) only [hq, rX2, bd, bdL, bdB, bdH, bdT, front, VLe, VLeL, BLe, Phan, TLe, HLe, ro, Blk.owned, CLe, rr, given, mrg, exct, shr, ren, renL, renB, Nat.reduceAdd, Nat.reduceSub, Nat.reduceLT, Nat.reduceLeDiff, Nat.reduceEqDiff, Nat.reduceBEq, Nat.reduceBNe, reduceCtorEq, nmC, nmV, wrC, mc, msC, iE, rX0, ofVal, ofVals, cellsV, vStore.isTup, Blk.deg, oneV, elApp, Nat.reduceAdd, Nat.reduceSub, Nat.reduceMul, Nat.reduceLT, Nat.reduceLeDiff, Nat.reduceEqDiff, Int.reduceToNat, Int.reduceGT, Int.reduceGE, Int.reduceMul, Int.reduceLT, Int.reduceLE, Int.reduceAdd, Int.reduceSub, Int.reduceNeg, reduceCtorEq, Sf.T3, Sf.T4, Sf.T24, Sf.T5, Sf.T26, Sf.T27, Sf.T89, Sf.T54, Sf.T32, Sf.T145, Sf.T56, Sf.T147, nmC, nmV, wrC, mc, msC, iE]
  refine ⟨fun h2 => ⟨fun h3 => ?_, fun h3 => ?_⟩, fun h2 => no fun hS => h2 hS.2.1⟩
  · exact congrArg VV.bool (decide_eq_true (show SDid m from ⟨h1, h2, .inl h3⟩)).symm
  · exact congrArg VV.bool (decide_eq_decide.2 ⟨fun h => ⟨h1, h2, .inr h⟩, fun hS => hS.2.2.resolve_left h3⟩)
def SPrep (m : Msg) : Prop := ((0 ≤ m.give ∧ m.give ≤ 255) ∧ (0 ≤ m.take ∧ m.take ≤ 255) ∧ bitsI .and .i64 m.give m.take = 0) ∧ Written m.n m.w
instance (m : Msg) : Decidable (SPrep m) := by unfold SPrep; infer_instance
theorem sprepM_ok : SuchM 91 SPrep := by
  intro cw m hn
  have no : ¬ SPrep m → VV.bool false = VV.bool (decide (SPrep m)) := fun h => by rw [decide_eq_false h]
  unfold mc
  refine VCall.trim 2 (Nat.le_of_ble_eq_true rfl) ?_
  refine wbody Try.func91 rfl (by kernel_rfl) ?_
  rw [Try.ntmps91, Try.results91]
  simp (implicitDefEqProofs := false) (maxSteps := 1000000) only [rX1, bd, bdL, bdB, bdH, bdT, front, VLe, VLeL, BLe, Phan, TLe, HLe, ro, Blk.owned, CLe, rr, given, mrg, exct, shr, ren, renL, renB, Nat.reduceBEq, Nat.reduceBNe, rX0, ofVal, ofVals, cellsV, vStore.isTup, Blk.deg, oneV, elApp, Nat.reduceAdd, Nat.reduceSub, Nat.reduceMul, Nat.reduceLT, Nat.reduceLeDiff, Nat.reduceEqDiff, Int.reduceToNat, Int.reduceGT, Int.reduceGE, Int.reduceMul, Int.reduceLT, Int.reduceLE, Int.reduceAdd, Int.reduceSub, Int.reduceNeg, reduceCtorEq, Sf.T3, Sf.T4, Sf.T24, Sf.T5, Sf.T26, Sf.T27, Sf.T89, Sf.T54, Sf.T32, Sf.T145, Sf.T56, Sf.T147, nmC, nmV, wrC, mc, msC, iE]
  refine wdraw (.take 0 (.view 1 (.view 2 (.one 3 (.one 4 (.take 5 (.take 6 (.view 7 (.view 8 (.one 9 (.one 10 (.take 11 (.take 12 (.take 13 (.take 17 (.view 14 (.view 15 (.view 18 (.view 19 (.take 16 (.one 20 (.take 21 (.take 22 (.take 23 (.take 24 (.take 25 (.view 26 (.view 27 (.one 28 (.one 29 (.take 30 (.take 31 (.done))))))))))))))))))))))))))))))))) [.cells false 56 (msC m (.slice 1 m.n cw)), .gone] (by kernel_rfl) (by kernel_rfl) (by simp only [rX2, bd, bdL, bdB, bdH, bdT, front, VLe, VLeL, BLe, Phan, TLe, HLe, ro, Blk.owned, CLe, rr, given, mrg, exct, shr, ren, renL, renB, Nat.reduceAdd, Nat.reduceSub, Nat.reduceLT, Nat.reduceLeDiff, Nat.reduceEqDiff, Nat.reduceBEq, Nat.reduceBNe, reduceCtorEq, nmC, nmV, wrC, mc, msC, iE, m7y, m7z, m80, m81, m83, m82]) (by simp only [rX2, bd, bdL, bdB, bdH, bdT, front, VLe, VLeL, BLe, Phan, TLe, HLe, ro, Blk.owned, CLe, rr, given, mrg, exct, shr, ren, renL, renB, Nat.reduceAdd, Nat.reduceSub, Nat.reduceLT, Nat.reduceLeDiff, Nat.reduceEqDiff, Nat.reduceBEq, Nat.reduceBNe, reduceCtorEq, nmC, nmV, wrC, mc, msC, iE]) ?_
  simp (implicitDefEqProofs := false) (maxSteps := 1000000) only [rX2, bd, bdL, bdB, bdH, bdT, front, VLe, VLeL, BLe, Phan, TLe, HLe, ro, Blk.owned, CLe, rr, given, mrg, exct, shr, ren, renL, renB, Nat.reduceAdd, Nat.reduceSub, Nat.reduceLT, Nat.reduceLeDiff, Nat.reduceEqDiff, Nat.reduceBEq, Nat.reduceBNe, reduceCtorEq, nmC, nmV, wrC, mc, msC, iE, rX0, ofVal, ofVals, cellsV, vStore.isTup, Blk.deg, oneV, elApp, Nat.reduceAdd, Nat.reduceSub, Nat.reduceMul, Nat.reduceLT, Nat.reduceLeDiff, Nat.reduceEqDiff, Int.reduceToNat, Int.reduceGT, Int.reduceGE, Int.reduceMul, Int.reduceLT, Int.reduceLE, Int.reduceAdd, Int.reduceSub, Int.reduceNeg, reduceCtorEq, Sf.T3, Sf.T4, Sf.T24, Sf.T5, Sf.T26, Sf.T27, Sf.T89, Sf.T54, Sf.T32, Sf.T145, Sf.T56, Sf.T147, nmC, nmV, wrC, mc, msC, iE]
  refine vframe (wwithin_ok m.give 0 255) [] (by rfl) (by simp only [rX2, bd, bdL, bdB, bdH, bdT, front, VLe, VLeL, BLe, Phan, TLe, HLe, ro, Blk.owned, CLe, rr, given, mrg, exct, shr, ren, renL, renB, Nat.reduceAdd, Nat.reduceSub, Nat.reduceLT, Nat.reduceLeDiff, Nat.reduceEqDiff, Nat.reduceBEq, Nat.reduceBNe, reduceCtorEq, nmC, nmV, wrC, mc, msC, iE]) ?_
  rintro v h ⟨rfl, rfl⟩ -
  simp (implicitDefEqProofs := false) (maxSteps := 1000000) only [rX2, bd, bdL, bdB, bdH, bdT, front, VLe, VLeL, BLe, Phan, TLe, HLe, ro, Blk.owned, CLe, rr, given, mrg, exct, shr, ren, renL, renB, Nat.reduceAdd, Nat.reduceSub, Nat.reduceLT, Nat.reduceLeDiff, Nat.reduceEqDiff, Nat.reduceBEq, Nat.reduceBNe, reduceCtorEq, nmC, nmV, wrC, mc, msC, iE, rX0, ofVal, ofVals, cellsV, vStore.isTup, Blk.deg, oneV, elApp, Nat.reduceAdd, Nat.reduceSub, Nat.reduceMul, Nat.reduceLT, Nat.reduceLeDiff, Nat.reduceEqDiff, Int.reduceToNat, Int.reduceGT, Int.reduceGE, Int.reduceMul, Int.reduceLT, Int.reduceLE, Int.reduceAdd, Int.reduceSub, Int.reduceNeg, reduceCtorEq, Sf.T3, Sf.T4, Sf.T24, Sf.T5, Sf.T26, Sf.T27, Sf.T89, Sf.T54, Sf.T32, Sf.T145, Sf.T56, Sf.T147, nmC, nmV, wrC, mc, msC, iE]
  refine ⟨fun h1 => ?_, fun h1 => no fun hS => h1 hS.1.1⟩
  refine vframe (wwithin_ok m.take 0 255) [] (by rfl) (by simp only [rX2, bd, bdL, bdB, bdH, bdT, front, VLe, VLeL, BLe, Phan, TLe, HLe, ro, Blk.owned, CLe, rr, given, mrg, exct, shr, ren, renL, renB, Nat.reduceAdd, Nat.reduceSub, Nat.reduceLT, Nat.reduceLeDiff, Nat.reduceEqDiff, Nat.reduceBEq, Nat.reduceBNe, reduceCtorEq, nmC, nmV, wrC, mc, msC, iE]) ?_
  rintro v h ⟨rfl, rfl⟩ -
  simp (implicitDefEqProofs := false) (maxSteps := 1000000) only [rX2, bd, bdL, bdB, bdH, bdT, front, VLe, VLeL, BLe, Phan, TLe, HLe, ro, Blk.owned, CLe, rr, given, mrg, exct, shr, ren, renL, renB, Nat.reduceAdd, Nat.reduceSub, Nat.reduceLT, Nat.reduceLeDiff, Nat.reduceEqDiff, Nat.reduceBEq, Nat.reduceBNe, reduceCtorEq, nmC, nmV, wrC, mc, msC, iE, rX0, ofVal, ofVals, cellsV, vStore.isTup, Blk.deg, oneV, elApp, Nat.reduceAdd, Nat.reduceSub, Nat.reduceMul, Nat.reduceLT, Nat.reduceLeDiff, Nat.reduceEqDiff, Int.reduceToNat, Int.reduceGT, Int.reduceGE, Int.reduceMul, Int.reduceLT, Int.reduceLE, Int.reduceAdd, Int.reduceSub, Int.reduceNeg, reduceCtorEq, Sf.T3, Sf.T4, Sf.T24, Sf.T5, Sf.T26, Sf.T27, Sf.T89, Sf.T54, Sf.T32, Sf.T145, Sf.T56, Sf.T147, nmC, nmV, wrC, mc, msC, iE]
  refine ⟨fun h2 => ⟨fun h3 => ?_, fun h3 => no fun hS => h3 hS.1.2.2⟩, fun h2 => no fun hS => h2 hS.1.2.1⟩
  refine vframe (written_ok m.n cw m.w hn) [1] (by rfl) (by simp only [rX2, bd, bdL, bdB, bdH, bdT, front, VLe, VLeL, BLe, Phan, TLe, HLe, ro, Blk.owned, CLe, rr, given, mrg, exct, shr, ren, renL, renB, Nat.reduceAdd, Nat.reduceSub, Nat.reduceLT, Nat.reduceLeDiff, Nat.reduceEqDiff, Nat.reduceBEq, Nat.reduceBNe, reduceCtorEq, nmC, nmV, wrC, mc, msC, iE]) ?_
  rintro v h ⟨rfl, rfl⟩ -
  simp (implicitDefEqProofs := false) (maxSteps := 1000000) only [rX2, bd, bdL, bdB, bdH, bdT, front, VLe, VLeL, BLe, Phan, TLe, HLe, ro, Blk.owned, CLe, rr, given, mrg, exct, shr, ren, renL, renB, Nat.reduceAdd, Nat.reduceSub, Nat.reduceLT, Nat.reduceLeDiff, Nat.reduceEqDiff, Nat.reduceBEq, Nat.reduceBNe, reduceCtorEq, nmC, nmV, wrC, mc, msC, iE, rX0, ofVal, ofVals, cellsV, vStore.isTup, Blk.deg, oneV, elApp, Nat.reduceAdd, Nat.reduceSub, Nat.reduceMul, Nat.reduceLT, Nat.reduceLeDiff, Nat.reduceEqDiff, Int.reduceToNat, Int.reduceGT, Int.reduceGE, Int.reduceMul, Int.reduceLT, Int.reduceLE, Int.reduceAdd, Int.reduceSub, Int.reduceNeg, reduceCtorEq, Sf.T3, Sf.T4, Sf.T24, Sf.T5, Sf.T26, Sf.T27, Sf.T89, Sf.T54, Sf.T32, Sf.T145, Sf.T56, Sf.T147, nmC, nmV, wrC, mc, msC, iE]
  exact congrArg VV.bool (decide_eq_decide.2 ⟨fun h => ⟨⟨h1, h2, h3⟩, h⟩, fun hS => hS.2⟩)
theorem three_iE (a b c : Int) (j : Nat) (hj : j < 3) : chunk 1 [.int .i64 a, .int .i64 b, .int .i64 c] j = iE [a, b, c] j := by
  match j, hj with
  | 0, _ | 1, _ | 2, _ => rfl
end Go.Proofs.Ytnlammgemaapnaa
