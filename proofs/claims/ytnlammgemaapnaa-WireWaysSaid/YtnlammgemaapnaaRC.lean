/- Layer 7: the reader. -/
import Derived.Test.YtnlammgemaapnaaRB
set_option linter.unusedSimpArgs false
set_option linter.unusedVariables false
set_option maxRecDepth 100000
namespace Go.Proofs.Ytnlammgemaapnaa
open Go Go.Sx
/-- What three bytes are as a number. -/
def n3 (R : List Int) (k : Nat) : Int := R.getD k 0 + 256 * R.getD (k + 1) 0 + 65536 * R.getD (k + 2) 0
def nmAt (R : List Int) (k : Nat) : Nm := ⟨n3 R k, n3 R (k + 3), n3 R (k + 6)⟩
def wrAt (R : List Int) (k : Nat) : Wr := ⟨R.getD k 0, fun i => R.getD (k + 1 + i) 0⟩
/-- All are bytes. -/
def Bys (R : List Int) : Prop := ∀ x ∈ R, 0 ≤ x ∧ x ≤ 255
theorem Bys.tail {R : List Int} (h : Bys R) : Bys R.tail := fun x hx => h x (List.mem_of_mem_tail hx)
theorem Bys.drop {R : List Int} (h : Bys R) (k : Nat) : Bys (R.drop k) := fun x hx => h x (List.mem_of_mem_drop hx)
theorem Bys.head {R : List Int} (h : Bys R) : 0 ≤ R.headD 0 ∧ R.headD 0 ≤ 255 := by
  cases R with
  | nil => simp
  | cons x R => exact h x (by simp)
def rd (b n cap : Nat) (bad : Bool) : Blk := .cells true 74 [.slice b n cap, .bool bad]
def rw (R : List Int) : Blk := .row 1 R.length (bE R)
theorem bE_tail (R : List Int) (j : Nat) : bE R (1 + j) = bE R.tail j := by
  unfold bE; cases R <;> simp [Nat.add_comm 1 j]
theorem byte_ok (R : List Int) (cap : Nat) (bad : Bool) (hR : Bys R) (hc : R.length ≤ cap) :
    VCall Try.prog 116 [.ptr 0 0 0 0] [rd 1 R.length cap bad, rw R] fun v h => ∃ cap', R.tail.length ≤ cap' ∧ v = .int .i64 (R.headD 0) ∧ h = [rd 2 R.tail.length cap' (bad || R.isEmpty), rw R, rw R.tail] := by
  unfold rd rw
  cases R with
  | nil =>
    refine VC.out ?_
    refine wbody Try.func116 rfl (by kernel_rfl) ?_
    rw [Try.ntmps116, Try.results116]
    simp (implicitDefEqProofs := false) (maxSteps := 1000000) only [rX1, bd, bdL, bdB, bdH, bdT, front, VLe, VLeL, BLe, Phan, TLe, HLe, ro, Blk.owned, CLe, rr, given, mrg, exct, shr, ren, renL, renB, Nat.reduceBEq, Nat.reduceBNe, rX0, ofVal, ofVals, cellsV, vStore.isTup, eqL, eqV, Blk.deg, oneV, elApp, Nat.reduceAdd, Nat.reduceSub, Nat.reduceMul, Nat.reduceLT, Nat.reduceLeDiff, Nat.reduceEqDiff, Int.reduceToNat, Int.reduceGT, Int.reduceGE, Int.reduceMul, Int.reduceLT, Int.reduceLE, Int.reduceAdd, Int.reduceSub, Int.reduceNeg, reduceCtorEq, Sf.T3, Sf.T4, Sf.T26, Sf.T141, Sf.T5, Sf.T22, Sf.T27, Sf.T89, Sf.T54, Sf.T74, Sf.T163, Sf.T160, nmC, nmV, rBE, rd, rw, wrC, nmAt, wrAt]
    simp only [List.headD_nil, List.tail_nil, List.isEmpty_nil, Bool.or_true, List.length_nil]
    exact ⟨_, _, Le.off [some 0, some 1, some 1] (by rfl) (by rfl) (by simp only [rX2, bd, bdL, bdB, bdH, bdT, front, VLe, VLeL, BLe, Phan, TLe, HLe, ro, Blk.owned, CLe, rr, given, mrg, exct, shr, ren, renL, renB, Nat.reduceAdd, Nat.reduceSub, Nat.reduceLT, Nat.reduceLeDiff, Nat.reduceEqDiff, Nat.reduceBEq, Nat.reduceBNe, reduceCtorEq, nmC, nmV, rBE, rd, rw, wrC, nmAt, wrAt]), cap, hc, rfl, rfl⟩
  | cons x R =>
    have hx := hR x (by simp)
    have hw : IntKind.i64.wrap x = x := IntWalk.i64_in _ (by omega)
    simp only [List.length_cons] at hc
    have hc' : R.length + 1 ≤ cap := hc
    refine VC.out ?_
    refine wbody Try.func116 rfl (by kernel_rfl) ?_
    rw [Try.ntmps116, Try.results116]
    simp (implicitDefEqProofs := false) (maxSteps := 1000000) only [rX1, bd, bdL, bdB, bdH, bdT, front, VLe, VLeL, BLe, Phan, TLe, HLe, ro, Blk.owned, CLe, rr, given, mrg, exct, shr, ren, renL, renB, Nat.reduceBEq, Nat.reduceBNe, rX0, ofVal, ofVals, cellsV, vStore.isTup, eqL, eqV, Blk.deg, oneV, elApp, Nat.reduceAdd, Nat.reduceSub, Nat.reduceMul, Nat.reduceLT, Nat.reduceLeDiff, Nat.reduceEqDiff, Int.reduceToNat, Int.reduceGT, Int.reduceGE, Int.reduceMul, Int.reduceLT, Int.reduceLE, Int.reduceAdd, Int.reduceSub, Int.reduceNeg, reduceCtorEq, Sf.T3, Sf.T4, Sf.T26, Sf.T141, Sf.T5, Sf.T22, Sf.T27, Sf.T89, Sf.T54, Sf.T74, Sf.T163, Sf.T160, nmC, nmV, rBE, rd, rw, wrC, nmAt, wrAt]
    refine ⟨fun h => by omega, fun _ => ⟨by omega, by omega, by omega, ⟨by omega, hc'⟩, ?_⟩⟩
    simp only [List.getD_cons_zero, hw, List.tail_cons, List.headD_cons, List.isEmpty_cons, Bool.or_false, Nat.add_sub_cancel]
    exact ⟨_, _, Le.off [some 0, some 1, some 2] (by rfl) (by rfl) (by simp only [rX2, bd, bdL, bdB, bdH, bdT, front, VLe, VLeL, BLe, Phan, TLe, HLe, ro, Blk.owned, CLe, rr, given, mrg, exct, shr, ren, renL, renB, Nat.reduceAdd, Nat.reduceSub, Nat.reduceLT, Nat.reduceLeDiff, Nat.reduceEqDiff, Nat.reduceBEq, Nat.reduceBNe, reduceCtorEq, nmC, nmV, rBE, rd, rw, wrC, nmAt, wrAt]; intro j hj; rw [bE_tail]; simp only [List.tail_cons, rX2, bd, bdL, bdB, bdH, bdT, front, VLe, VLeL, BLe, Phan, TLe, HLe, ro, Blk.owned, CLe, rr, given, mrg, exct, shr, ren, renL, renB, Nat.reduceAdd, Nat.reduceSub, Nat.reduceLT, Nat.reduceLeDiff, Nat.reduceEqDiff, Nat.reduceBEq, Nat.reduceBNe, reduceCtorEq, nmC, nmV, rBE, rd, rw, wrC, nmAt, wrAt]), cap - 1, by omega, rfl, rfl⟩
theorem or_nat (a b : Nat) (ha : a < 2 ^ 62) (hb : b < 2 ^ 62) : bitsI .or .i64 (a : Int) (b : Int) = ((a ||| b : Nat) : Int) := by
  have hab : a ||| b < 2 ^ 62 := Nat.or_lt_two_pow ha hb
  have e : (BitVec.ofInt IntKind.i64.bits (a : Int) ||| BitVec.ofInt IntKind.i64.bits (b : Int)).toNat = a ||| b := by
    rw [BitVec.toNat_or]
    have h64 : IntKind.i64.bits = 64 := rfl
    rw [h64]
    simp only [BitVec.ofInt_natCast, BitVec.toNat_ofNat]
    rw [Nat.mod_eq_of_lt (by omega), Nat.mod_eq_of_lt (by omega)]
  unfold bitsI
  simp only [e]
  exact IntWalk.i64_in _ (by omega)
theorem shl_nat (a k : Nat) (hk : k ≤ 40) (ha : a < 2 ^ 20) : shlI .i64 (a : Int) (k : Int) = ((a <<< k : Nat) : Int) := by
  unfold shlI
  have h64 : IntKind.i64.bits = 64 := rfl
  rw [h64, Int.toNat_natCast, Nat.min_eq_left (by omega), Nat.shiftLeft_eq]
  have hlt : a * 2 ^ k < 2 ^ 62 := by
    calc a * 2 ^ k < 2 ^ 20 * 2 ^ k := Nat.mul_lt_mul_of_pos_right ha (Nat.two_pow_pos k)
      _ ≤ 2 ^ 20 * 2 ^ 40 := Nat.mul_le_mul_left _ (Nat.pow_le_pow_right (by omega) hk)
      _ ≤ 2 ^ 62 := by decide
  have e : ((a : Int) * 2 ^ k) = ((a * 2 ^ k : Nat) : Int) := by simp
  rw [e]
  exact IntWalk.i64_in _ (by omega)
theorem or3_bytes (a b c : Int) (ha : 0 ≤ a ∧ a ≤ 255) (hb : 0 ≤ b ∧ b ≤ 255) (hc : 0 ≤ c ∧ c ≤ 255) :
    bitsI .or .i64 (bitsI .or .i64 (bitsI .or .i64 0 (shlI .i64 a 0)) (shlI .i64 b 8)) (shlI .i64 c 16) = a + 256 * b + 65536 * c := by
  obtain ⟨a, rfl⟩ := Int.eq_ofNat_of_zero_le ha.1
  obtain ⟨b, rfl⟩ := Int.eq_ofNat_of_zero_le hb.1
  obtain ⟨c, rfl⟩ := Int.eq_ofNat_of_zero_le hc.1
  have e0 := shl_nat a 0 (by omega) (by omega)
  have e1 := shl_nat b 8 (by omega) (by omega)
  have e2 := shl_nat c 16 (by omega) (by omega)
  simp only [Int.natCast_zero, Nat.shiftLeft_zero] at e0
  rw [show ((8 : Nat) : Int) = 8 from rfl] at e1
  rw [show ((16 : Nat) : Int) = 16 from rfl] at e2
  rw [e0, e1, e2]
  have hb' : b <<< 8 = b * 256 := by rw [Nat.shiftLeft_eq]
  have hc' : c <<< 16 = c * 65536 := by rw [Nat.shiftLeft_eq]
  have z := or_nat 0 a (by omega) (by omega)
  simp only [Int.natCast_zero, Nat.zero_or] at z
  rw [z, or_nat a (b <<< 8) (by omega) (by omega)]
  have s1 : a ||| (b <<< 8) = b * 256 + a := by
    rw [Nat.or_comm, ← Nat.shiftLeft_add_eq_or_of_lt (by omega) b, hb']
  rw [s1, or_nat (b * 256 + a) (c <<< 16) (by omega) (by omega)]
  have s2 : (b * 256 + a) ||| (c <<< 16) = c * 65536 + (b * 256 + a) := by
    rw [Nat.or_comm, ← Nat.shiftLeft_add_eq_or_of_lt (by omega) c, hc']
  rw [s2]; omega
/-- Are there fewer than k bytes? -/
def lack (bad : Bool) (R : List Int) (k : Nat) : Bool := bad || decide (R.length < k)
theorem lack_succ (bad : Bool) (R : List Int) (k : Nat) : (lack bad R k || (R.drop k).isEmpty) = lack bad R (k + 1) := by
  unfold lack
  have e : (R.drop k).isEmpty = decide (R.length ≤ k) := by
    cases h : R.drop k with
    | nil => have := List.drop_eq_nil_iff.1 h; simp [this]
    | cons x l =>
      have : ¬ R.length ≤ k := fun h' => by rw [List.drop_eq_nil_iff.2 h'] at h; cases h
      simp [this]
  cases bad
  · rw [e, Bool.false_or, Bool.false_or, ← Bool.decide_or]
    exact decide_eq_decide.2 (by omega)
  · simp
theorem Bys.getD {R : List Int} (h : Bys R) (k : Nat) : 0 ≤ R.getD k 0 ∧ R.getD k 0 ≤ 255 := by
  rw [List.getD_eq_getElem?_getD]
  cases e : R[k]? with
  | none => simp
  | some x => exact h x (List.mem_of_getElem? e)
theorem byteN (R : List Int) (k cap : Nat) (bad : Bool) (hR : Bys R) (hc : (R.drop k).length ≤ cap) :
    VCall Try.prog 116 [.ptr 0 0 0 0] [rd 1 (R.drop k).length cap (lack bad R k), rw (R.drop k)] fun v h => ∃ cap', (R.drop (k + 1)).length ≤ cap' ∧ v = .int .i64 (R.getD k 0) ∧ h = [rd 2 (R.drop (k + 1)).length cap' (lack bad R (k + 1)), rw (R.drop k), rw (R.drop (k + 1))] := by
  have := byte_ok (R.drop k) cap (lack bad R k) (hR.drop k) hc
  rw [lack_succ, List.tail_drop] at this
  have e : (R.drop k).headD 0 = R.getD k 0 := by
    rw [List.headD_eq_head?_getD, List.head?_drop, List.getD_eq_getElem?_getD]
  rw [e] at this
  exact this
theorem rthree_ok (R : List Int) (k cap : Nat) (bad : Bool) (hR : Bys R) (hc : (R.drop k).length ≤ cap) :
    VCall Try.prog 100 [.ptr 0 0 0 0] [rd 1 (R.drop k).length cap (lack bad R k), rw (R.drop k)] fun v h => ∃ cap', (R.drop (k + 3)).length ≤ cap' ∧ v = .int .i64 (n3 R k) ∧ h = [rd 2 (R.drop (k + 3)).length cap' (lack bad R (k + 3)), rw (R.drop k), rw (R.drop (k + 3))] := by
  unfold rd rw
  refine VC.out ?_
  refine wbody Try.func100 rfl (by kernel_rfl) ?_
  rw [Try.ntmps100, Try.results100]
  simp (implicitDefEqProofs := false) (maxSteps := 1000000) only [rX1, bd, bdL, bdB, bdH, bdT, front, VLe, VLeL, BLe, Phan, TLe, HLe, ro, Blk.owned, CLe, rr, given, mrg, exct, shr, ren, renL, renB, Nat.reduceBEq, Nat.reduceBNe, rX0, ofVal, ofVals, cellsV, vStore.isTup, eqL, eqV, Blk.deg, oneV, elApp, Nat.reduceAdd, Nat.reduceSub, Nat.reduceMul, Nat.reduceLT, Nat.reduceLeDiff, Nat.reduceEqDiff, Int.reduceToNat, Int.reduceGT, Int.reduceGE, Int.reduceMul, Int.reduceLT, Int.reduceLE, Int.reduceAdd, Int.reduceSub, Int.reduceNeg, reduceCtorEq, Sf.T3, Sf.T4, Sf.T26, Sf.T141, Sf.T5, Sf.T22, Sf.T27, Sf.T89, Sf.T54, Sf.T74, Sf.T163, Sf.T160, nmC, nmV, rBE, rd, rw, wrC, nmAt, wrAt]
  refine vrounds 4 ?_
  simp (implicitDefEqProofs := false) (maxSteps := 1000000) only [rX2, bd, bdL, bdB, bdH, bdT, front, VLe, VLeL, BLe, Phan, TLe, HLe, ro, Blk.owned, CLe, rr, given, mrg, exct, shr, ren, renL, renB, Nat.reduceAdd, Nat.reduceSub, Nat.reduceLT, Nat.reduceLeDiff, Nat.reduceEqDiff, Nat.reduceBEq, Nat.reduceBNe, reduceCtorEq, nmC, nmV, rBE, rd, rw, wrC, nmAt, wrAt, rX0, ofVal, ofVals, cellsV, vStore.isTup, eqL, eqV, Blk.deg, oneV, elApp, Nat.reduceAdd, Nat.reduceSub, Nat.reduceMul, Nat.reduceLT, Nat.reduceLeDiff, Nat.reduceEqDiff, Int.reduceToNat, Int.reduceGT, Int.reduceGE, Int.reduceMul, Int.reduceLT, Int.reduceLE, Int.reduceAdd, Int.reduceSub, Int.reduceNeg, reduceCtorEq, Sf.T3, Sf.T4, Sf.T26, Sf.T141, Sf.T5, Sf.T22, Sf.T27, Sf.T89, Sf.T54, Sf.T74, Sf.T163, Sf.T160, nmC, nmV, rBE, rd, rw, wrC, nmAt, wrAt]
  refine vframe (byteN R k cap bad hR hc) [0, 1] (by rfl) (by simp only [rX2, bd, bdL, bdB, bdH, bdT, front, VLe, VLeL, BLe, Phan, TLe, HLe, ro, Blk.owned, CLe, rr, given, mrg, exct, shr, ren, renL, renB, Nat.reduceAdd, Nat.reduceSub, Nat.reduceLT, Nat.reduceLeDiff, Nat.reduceEqDiff, Nat.reduceBEq, Nat.reduceBNe, reduceCtorEq, nmC, nmV, rBE, rd, rw, wrC, nmAt, wrAt]) ?_
  rintro v h ⟨c1, hc1, rfl, rfl⟩ -
  simp (implicitDefEqProofs := false) (maxSteps := 1000000) only [rX2, bd, bdL, bdB, bdH, bdT, front, VLe, VLeL, BLe, Phan, TLe, HLe, ro, Blk.owned, CLe, rr, given, mrg, exct, shr, ren, renL, renB, Nat.reduceAdd, Nat.reduceSub, Nat.reduceLT, Nat.reduceLeDiff, Nat.reduceEqDiff, Nat.reduceBEq, Nat.reduceBNe, reduceCtorEq, nmC, nmV, rBE, rd, rw, wrC, nmAt, wrAt, rX0, ofVal, ofVals, cellsV, vStore.isTup, eqL, eqV, Blk.deg, oneV, elApp, Nat.reduceAdd, Nat.reduceSub, Nat.reduceMul, Nat.reduceLT, Nat.reduceLeDiff, Nat.reduceEqDiff, Int.reduceToNat, Int.reduceGT, Int.reduceGE, Int.reduceMul, Int.reduceLT, Int.reduceLE, Int.reduceAdd, Int.reduceSub, Int.reduceNeg, reduceCtorEq, Sf.T3, Sf.T4, Sf.T26, Sf.T141, Sf.T5, Sf.T22, Sf.T27, Sf.T89, Sf.T54, Sf.T74, Sf.T163, Sf.T160, nmC, nmV, rBE, rd, rw, wrC, nmAt, wrAt]
  refine vframe (byteN R (k + 1) c1 bad hR hc1) [0, 2] (by rfl) (by simp only [rX2, bd, bdL, bdB, bdH, bdT, front, VLe, VLeL, BLe, Phan, TLe, HLe, ro, Blk.owned, CLe, rr, given, mrg, exct, shr, ren, renL, renB, Nat.reduceAdd, Nat.reduceSub, Nat.reduceLT, Nat.reduceLeDiff, Nat.reduceEqDiff, Nat.reduceBEq, Nat.reduceBNe, reduceCtorEq, nmC, nmV, rBE, rd, rw, wrC, nmAt, wrAt]) ?_
  rintro v h ⟨c2, hc2, rfl, rfl⟩ -
  simp (implicitDefEqProofs := false) (maxSteps := 1000000) only [rX2, bd, bdL, bdB, bdH, bdT, front, VLe, VLeL, BLe, Phan, TLe, HLe, ro, Blk.owned, CLe, rr, given, mrg, exct, shr, ren, renL, renB, Nat.reduceAdd, Nat.reduceSub, Nat.reduceLT, Nat.reduceLeDiff, Nat.reduceEqDiff, Nat.reduceBEq, Nat.reduceBNe, reduceCtorEq, nmC, nmV, rBE, rd, rw, wrC, nmAt, wrAt, rX0, ofVal, ofVals, cellsV, vStore.isTup, eqL, eqV, Blk.deg, oneV, elApp, Nat.reduceAdd, Nat.reduceSub, Nat.reduceMul, Nat.reduceLT, Nat.reduceLeDiff, Nat.reduceEqDiff, Int.reduceToNat, Int.reduceGT, Int.reduceGE, Int.reduceMul, Int.reduceLT, Int.reduceLE, Int.reduceAdd, Int.reduceSub, Int.reduceNeg, reduceCtorEq, Sf.T3, Sf.T4, Sf.T26, Sf.T141, Sf.T5, Sf.T22, Sf.T27, Sf.T89, Sf.T54, Sf.T74, Sf.T163, Sf.T160, nmC, nmV, rBE, rd, rw, wrC, nmAt, wrAt]
  refine vframe (byteN R (k + 2) c2 bad hR hc2) [0, 3] (by rfl) (by simp only [rX2, bd, bdL, bdB, bdH, bdT, front, VLe, VLeL, BLe, Phan, TLe, HLe, ro, Blk.owned, CLe, rr, given, mrg, exct, shr, ren, renL, renB, Nat.reduceAdd, Nat.reduceSub, Nat.reduceLT, Nat.reduceLeDiff, Nat.reduceEqDiff, Nat.reduceBEq, Nat.reduceBNe, reduceCtorEq, nmC, nmV, rBE, rd, rw, wrC, nmAt, wrAt]) ?_
  rintro v h ⟨c3, hc3, rfl, rfl⟩ -
  simp (implicitDefEqProofs := false) (maxSteps := 1000000) only [rX2, bd, bdL, bdB, bdH, bdT, front, VLe, VLeL, BLe, Phan, TLe, HLe, ro, Blk.owned, CLe, rr, given, mrg, exct, shr, ren, renL, renB, Nat.reduceAdd, Nat.reduceSub, Nat.reduceLT, Nat.reduceLeDiff, Nat.reduceEqDiff, Nat.reduceBEq, Nat.reduceBNe, reduceCtorEq, nmC, nmV, rBE, rd, rw, wrC, nmAt, wrAt, rX0, ofVal, ofVals, cellsV, vStore.isTup, eqL, eqV, Blk.deg, oneV, elApp, Nat.reduceAdd, Nat.reduceSub, Nat.reduceMul, Nat.reduceLT, Nat.reduceLeDiff, Nat.reduceEqDiff, Int.reduceToNat, Int.reduceGT, Int.reduceGE, Int.reduceMul, Int.reduceLT, Int.reduceLE, Int.reduceAdd, Int.reduceSub, Int.reduceNeg, reduceCtorEq, Sf.T3, Sf.T4, Sf.T26, Sf.T141, Sf.T5, Sf.T22, Sf.T27, Sf.T89, Sf.T54, Sf.T74, Sf.T163, Sf.T160, nmC, nmV, rBE, rd, rw, wrC, nmAt, wrAt]
  rw [or3_bytes _ _ _ (hR.getD k) (hR.getD (k + 1)) (hR.getD (k + 2))]
  rw [show R.getD k 0 + 256 * R.getD (k + 1) 0 + 65536 * R.getD (k + 2) 0 = n3 R k from rfl]
  exact ⟨_, _, Le.off [some 0, some 1, some 4] (by rfl) (by rfl) (by simp only [rX2, bd, bdL, bdB, bdH, bdT, front, VLe, VLeL, BLe, Phan, TLe, HLe, ro, Blk.owned, CLe, rr, given, mrg, exct, shr, ren, renL, renB, Nat.reduceAdd, Nat.reduceSub, Nat.reduceLT, Nat.reduceLeDiff, Nat.reduceEqDiff, Nat.reduceBEq, Nat.reduceBNe, reduceCtorEq, nmC, nmV, rBE, rd, rw, wrC, nmAt, wrAt]), c3, hc3, rfl, rfl⟩
theorem rname_ok (R : List Int) (k cap : Nat) (bad : Bool) (hR : Bys R) (hc : (R.drop k).length ≤ cap) :
    VCall Try.prog 106 [.ptr 0 0 0 0] [rd 1 (R.drop k).length cap (lack bad R k), rw (R.drop k)] fun v h => ∃ cap', (R.drop (k + 9)).length ≤ cap' ∧ v = nmV (nmAt R k) ∧ h = [rd 2 (R.drop (k + 9)).length cap' (lack bad R (k + 9)), rw (R.drop k), rw (R.drop (k + 9))] := by
  unfold rd rw
  refine VC.out ?_
  refine wbody Try.func106 rfl (by kernel_rfl) ?_
  rw [Try.ntmps106, Try.results106]
  simp (implicitDefEqProofs := false) (maxSteps := 1000000) only [rX1, bd, bdL, bdB, bdH, bdT, front, VLe, VLeL, BLe, Phan, TLe, HLe, ro, Blk.owned, CLe, rr, given, mrg, exct, shr, ren, renL, renB, Nat.reduceBEq, Nat.reduceBNe, rX0, ofVal, ofVals, cellsV, vStore.isTup, eqL, eqV, Blk.deg, oneV, elApp, Nat.reduceAdd, Nat.reduceSub, Nat.reduceMul, Nat.reduceLT, Nat.reduceLeDiff, Nat.reduceEqDiff, Int.reduceToNat, Int.reduceGT, Int.reduceGE, Int.reduceMul, Int.reduceLT, Int.reduceLE, Int.reduceAdd, Int.reduceSub, Int.reduceNeg, reduceCtorEq, Sf.T3, Sf.T4, Sf.T26, Sf.T141, Sf.T5, Sf.T22, Sf.T27, Sf.T89, Sf.T54, Sf.T74, Sf.T163, Sf.T160, nmC, nmV, rBE, rd, rw, wrC, nmAt, wrAt]
  refine vrounds 4 ?_
  simp (implicitDefEqProofs := false) (maxSteps := 1000000) only [rX2, bd, bdL, bdB, bdH, bdT, front, VLe, VLeL, BLe, Phan, TLe, HLe, ro, Blk.owned, CLe, rr, given, mrg, exct, shr, ren, renL, renB, Nat.reduceAdd, Nat.reduceSub, Nat.reduceLT, Nat.reduceLeDiff, Nat.reduceEqDiff, Nat.reduceBEq, Nat.reduceBNe, reduceCtorEq, nmC, nmV, rBE, rd, rw, wrC, nmAt, wrAt, rX0, ofVal, ofVals, cellsV, vStore.isTup, eqL, eqV, Blk.deg, oneV, elApp, Nat.reduceAdd, Nat.reduceSub, Nat.reduceMul, Nat.reduceLT, Nat.reduceLeDiff, Nat.reduceEqDiff, Int.reduceToNat, Int.reduceGT, Int.reduceGE, Int.reduceMul, Int.reduceLT, Int.reduceLE, Int.reduceAdd, Int.reduceSub, Int.reduceNeg, reduceCtorEq, Sf.T3, Sf.T4, Sf.T26, Sf.T141, Sf.T5, Sf.T22, Sf.T27, Sf.T89, Sf.T54, Sf.T74, Sf.T163, Sf.T160, nmC, nmV, rBE, rd, rw, wrC, nmAt, wrAt]
  refine vframe (rthree_ok R k cap bad hR hc) [0, 1] (by rfl) (by simp only [rX2, bd, bdL, bdB, bdH, bdT, front, VLe, VLeL, BLe, Phan, TLe, HLe, ro, Blk.owned, CLe, rr, given, mrg, exct, shr, ren, renL, renB, Nat.reduceAdd, Nat.reduceSub, Nat.reduceLT, Nat.reduceLeDiff, Nat.reduceEqDiff, Nat.reduceBEq, Nat.reduceBNe, reduceCtorEq, nmC, nmV, rBE, rd, rw, wrC, nmAt, wrAt]) ?_
  rintro v h ⟨c1, hc1, rfl, rfl⟩ -
  simp (implicitDefEqProofs := false) (maxSteps := 1000000) only [rX2, bd, bdL, bdB, bdH, bdT, front, VLe, VLeL, BLe, Phan, TLe, HLe, ro, Blk.owned, CLe, rr, given, mrg, exct, shr, ren, renL, renB, Nat.reduceAdd, Nat.reduceSub, Nat.reduceLT, Nat.reduceLeDiff, Nat.reduceEqDiff, Nat.reduceBEq, Nat.reduceBNe, reduceCtorEq, nmC, nmV, rBE, rd, rw, wrC, nmAt, wrAt, rX0, ofVal, ofVals, cellsV, vStore.isTup, eqL, eqV, Blk.deg, oneV, elApp, Nat.reduceAdd, Nat.reduceSub, Nat.reduceMul, Nat.reduceLT, Nat.reduceLeDiff, Nat.reduceEqDiff, Int.reduceToNat, Int.reduceGT, Int.reduceGE, Int.reduceMul, Int.reduceLT, Int.reduceLE, Int.reduceAdd, Int.reduceSub, Int.reduceNeg, reduceCtorEq, Sf.T3, Sf.T4, Sf.T26, Sf.T141, Sf.T5, Sf.T22, Sf.T27, Sf.T89, Sf.T54, Sf.T74, Sf.T163, Sf.T160, nmC, nmV, rBE, rd, rw, wrC, nmAt, wrAt]
  refine vframe (rthree_ok R (k + 3) c1 bad hR hc1) [0, 4] (by rfl) (by simp only [rX2, bd, bdL, bdB, bdH, bdT, front, VLe, VLeL, BLe, Phan, TLe, HLe, ro, Blk.owned, CLe, rr, given, mrg, exct, shr, ren, renL, renB, Nat.reduceAdd, Nat.reduceSub, Nat.reduceLT, Nat.reduceLeDiff, Nat.reduceEqDiff, Nat.reduceBEq, Nat.reduceBNe, reduceCtorEq, nmC, nmV, rBE, rd, rw, wrC, nmAt, wrAt]) ?_
  rintro v h ⟨c2, hc2, rfl, rfl⟩ -
  simp (implicitDefEqProofs := false) (maxSteps := 1000000) only [rX2, bd, bdL, bdB, bdH, bdT, front, VLe, VLeL, BLe, Phan, TLe, HLe, ro, Blk.owned, CLe, rr, given, mrg, exct, shr, ren, renL, renB, Nat.reduceAdd, Nat.reduceSub, Nat.reduceLT, Nat.reduceLeDiff, Nat.reduceEqDiff, Nat.reduceBEq, Nat.reduceBNe, reduceCtorEq, nmC, nmV, rBE, rd, rw, wrC, nmAt, wrAt, rX0, ofVal, ofVals, cellsV, vStore.isTup, eqL, eqV, Blk.deg, oneV, elApp, Nat.reduceAdd, Nat.reduceSub, Nat.reduceMul, Nat.reduceLT, Nat.reduceLeDiff, Nat.reduceEqDiff, Int.reduceToNat, Int.reduceGT, Int.reduceGE, Int.reduceMul, Int.reduceLT, Int.reduceLE, Int.reduceAdd, Int.reduceSub, Int.reduceNeg, reduceCtorEq, Sf.T3, Sf.T4, Sf.T26, Sf.T141, Sf.T5, Sf.T22, Sf.T27, Sf.T89, Sf.T54, Sf.T74, Sf.T163, Sf.T160, nmC, nmV, rBE, rd, rw, wrC, nmAt, wrAt]
  refine vframe (rthree_ok R (k + 6) c2 bad hR hc2) [0, 5] (by rfl) (by simp only [rX2, bd, bdL, bdB, bdH, bdT, front, VLe, VLeL, BLe, Phan, TLe, HLe, ro, Blk.owned, CLe, rr, given, mrg, exct, shr, ren, renL, renB, Nat.reduceAdd, Nat.reduceSub, Nat.reduceLT, Nat.reduceLeDiff, Nat.reduceEqDiff, Nat.reduceBEq, Nat.reduceBNe, reduceCtorEq, nmC, nmV, rBE, rd, rw, wrC, nmAt, wrAt]) ?_
  rintro v h ⟨c3, hc3, rfl, rfl⟩ -
  simp (implicitDefEqProofs := false) (maxSteps := 1000000) only [rX2, bd, bdL, bdB, bdH, bdT, front, VLe, VLeL, BLe, Phan, TLe, HLe, ro, Blk.owned, CLe, rr, given, mrg, exct, shr, ren, renL, renB, Nat.reduceAdd, Nat.reduceSub, Nat.reduceLT, Nat.reduceLeDiff, Nat.reduceEqDiff, Nat.reduceBEq, Nat.reduceBNe, reduceCtorEq, nmC, nmV, rBE, rd, rw, wrC, nmAt, wrAt, rX0, ofVal, ofVals, cellsV, vStore.isTup, eqL, eqV, Blk.deg, oneV, elApp, Nat.reduceAdd, Nat.reduceSub, Nat.reduceMul, Nat.reduceLT, Nat.reduceLeDiff, Nat.reduceEqDiff, Int.reduceToNat, Int.reduceGT, Int.reduceGE, Int.reduceMul, Int.reduceLT, Int.reduceLE, Int.reduceAdd, Int.reduceSub, Int.reduceNeg, reduceCtorEq, Sf.T3, Sf.T4, Sf.T26, Sf.T141, Sf.T5, Sf.T22, Sf.T27, Sf.T89, Sf.T54, Sf.T74, Sf.T163, Sf.T160, nmC, nmV, rBE, rd, rw, wrC, nmAt, wrAt]
  exact ⟨_, _, Le.off [some 0, some 1, some 6] (by rfl) (by rfl) (by simp only [rX2, bd, bdL, bdB, bdH, bdT, front, VLe, VLeL, BLe, Phan, TLe, HLe, ro, Blk.owned, CLe, rr, given, mrg, exct, shr, ren, renL, renB, Nat.reduceAdd, Nat.reduceSub, Nat.reduceLT, Nat.reduceLeDiff, Nat.reduceEqDiff, Nat.reduceBEq, Nat.reduceBNe, reduceCtorEq, nmC, nmV, rBE, rd, rw, wrC, nmAt, wrAt]), c3, hc3, rfl, rfl⟩
theorem rflag_ok (R : List Int) (k cap : Nat) (bad : Bool) (hR : Bys R) (hc : (R.drop k).length ≤ cap) :
    VCall Try.prog 121 [.ptr 0 0 0 0] [rd 1 (R.drop k).length cap (lack bad R k), rw (R.drop k)] fun v h => ∃ cap', (R.drop (k + 1)).length ≤ cap' ∧ v = .bool (R.getD k 0 == 1) ∧ h = [rd 2 (R.drop (k + 1)).length cap' (lack bad R (k + 1) || decide (R.getD k 0 > 1)), rw (R.drop k), rw (R.drop (k + 1))] := by
  unfold rd rw
  refine VC.out ?_
  refine wbody Try.func121 rfl (by kernel_rfl) ?_
  rw [Try.ntmps121, Try.results121]
  simp (implicitDefEqProofs := false) (maxSteps := 1000000) only [rX1, bd, bdL, bdB, bdH, bdT, front, VLe, VLeL, BLe, Phan, TLe, HLe, ro, Blk.owned, CLe, rr, given, mrg, exct, shr, ren, renL, renB, Nat.reduceBEq, Nat.reduceBNe, rX0, ofVal, ofVals, cellsV, vStore.isTup, eqL, eqV, Blk.deg, oneV, elApp, Nat.reduceAdd, Nat.reduceSub, Nat.reduceMul, Nat.reduceLT, Nat.reduceLeDiff, Nat.reduceEqDiff, Int.reduceToNat, Int.reduceGT, Int.reduceGE, Int.reduceMul, Int.reduceLT, Int.reduceLE, Int.reduceAdd, Int.reduceSub, Int.reduceNeg, reduceCtorEq, Sf.T3, Sf.T4, Sf.T26, Sf.T141, Sf.T5, Sf.T22, Sf.T27, Sf.T89, Sf.T54, Sf.T74, Sf.T163, Sf.T160, nmC, nmV, rBE, rd, rw, wrC, nmAt, wrAt]
  refine vframe (byteN R k cap bad hR hc) [0, 1] (by rfl) (by simp only [rX2, bd, bdL, bdB, bdH, bdT, front, VLe, VLeL, BLe, Phan, TLe, HLe, ro, Blk.owned, CLe, rr, given, mrg, exct, shr, ren, renL, renB, Nat.reduceAdd, Nat.reduceSub, Nat.reduceLT, Nat.reduceLeDiff, Nat.reduceEqDiff, Nat.reduceBEq, Nat.reduceBNe, reduceCtorEq, nmC, nmV, rBE, rd, rw, wrC, nmAt, wrAt]) ?_
  rintro v h ⟨c1, hc1, rfl, rfl⟩ -
  simp (implicitDefEqProofs := false) (maxSteps := 1000000) only [rX2, bd, bdL, bdB, bdH, bdT, front, VLe, VLeL, BLe, Phan, TLe, HLe, ro, Blk.owned, CLe, rr, given, mrg, exct, shr, ren, renL, renB, Nat.reduceAdd, Nat.reduceSub, Nat.reduceLT, Nat.reduceLeDiff, Nat.reduceEqDiff, Nat.reduceBEq, Nat.reduceBNe, reduceCtorEq, nmC, nmV, rBE, rd, rw, wrC, nmAt, wrAt, rX0, ofVal, ofVals, cellsV, vStore.isTup, eqL, eqV, Blk.deg, oneV, elApp, Nat.reduceAdd, Nat.reduceSub, Nat.reduceMul, Nat.reduceLT, Nat.reduceLeDiff, Nat.reduceEqDiff, Int.reduceToNat, Int.reduceGT, Int.reduceGE, Int.reduceMul, Int.reduceLT, Int.reduceLE, Int.reduceAdd, Int.reduceSub, Int.reduceNeg, reduceCtorEq, Sf.T3, Sf.T4, Sf.T26, Sf.T141, Sf.T5, Sf.T22, Sf.T27, Sf.T89, Sf.T54, Sf.T74, Sf.T163, Sf.T160, nmC, nmV, rBE, rd, rw, wrC, nmAt, wrAt]
  refine ⟨fun hb => ?_, fun hb => ?_⟩
  · simp (implicitDefEqProofs := false) (maxSteps := 1000000) only [rX2, bd, bdL, bdB, bdH, bdT, front, VLe, VLeL, BLe, Phan, TLe, HLe, ro, Blk.owned, CLe, rr, given, mrg, exct, shr, ren, renL, renB, Nat.reduceAdd, Nat.reduceSub, Nat.reduceLT, Nat.reduceLeDiff, Nat.reduceEqDiff, Nat.reduceBEq, Nat.reduceBNe, reduceCtorEq, nmC, nmV, rBE, rd, rw, wrC, nmAt, wrAt, rX0, ofVal, ofVals, cellsV, vStore.isTup, eqL, eqV, Blk.deg, oneV, elApp, Nat.reduceAdd, Nat.reduceSub, Nat.reduceMul, Nat.reduceLT, Nat.reduceLeDiff, Nat.reduceEqDiff, Int.reduceToNat, Int.reduceGT, Int.reduceGE, Int.reduceMul, Int.reduceLT, Int.reduceLE, Int.reduceAdd, Int.reduceSub, Int.reduceNeg, reduceCtorEq, Sf.T3, Sf.T4, Sf.T26, Sf.T141, Sf.T5, Sf.T22, Sf.T27, Sf.T89, Sf.T54, Sf.T74, Sf.T163, Sf.T160, nmC, nmV, rBE, rd, rw, wrC, nmAt, wrAt]
    simp only [hb, Bool.true_or]
    exact ⟨_, _, Le.off [some 0, some 1, some 2] (by rfl) (by rfl) (by simp only [rX2, bd, bdL, bdB, bdH, bdT, front, VLe, VLeL, BLe, Phan, TLe, HLe, ro, Blk.owned, CLe, rr, given, mrg, exct, shr, ren, renL, renB, Nat.reduceAdd, Nat.reduceSub, Nat.reduceLT, Nat.reduceLeDiff, Nat.reduceEqDiff, Nat.reduceBEq, Nat.reduceBNe, reduceCtorEq, nmC, nmV, rBE, rd, rw, wrC, nmAt, wrAt]), c1, hc1, rfl, rfl⟩
  · simp (implicitDefEqProofs := false) (maxSteps := 1000000) only [rX2, bd, bdL, bdB, bdH, bdT, front, VLe, VLeL, BLe, Phan, TLe, HLe, ro, Blk.owned, CLe, rr, given, mrg, exct, shr, ren, renL, renB, Nat.reduceAdd, Nat.reduceSub, Nat.reduceLT, Nat.reduceLeDiff, Nat.reduceEqDiff, Nat.reduceBEq, Nat.reduceBNe, reduceCtorEq, nmC, nmV, rBE, rd, rw, wrC, nmAt, wrAt, rX0, ofVal, ofVals, cellsV, vStore.isTup, eqL, eqV, Blk.deg, oneV, elApp, Nat.reduceAdd, Nat.reduceSub, Nat.reduceMul, Nat.reduceLT, Nat.reduceLeDiff, Nat.reduceEqDiff, Int.reduceToNat, Int.reduceGT, Int.reduceGE, Int.reduceMul, Int.reduceLT, Int.reduceLE, Int.reduceAdd, Int.reduceSub, Int.reduceNeg, reduceCtorEq, Sf.T3, Sf.T4, Sf.T26, Sf.T141, Sf.T5, Sf.T22, Sf.T27, Sf.T89, Sf.T54, Sf.T74, Sf.T163, Sf.T160, nmC, nmV, rBE, rd, rw, wrC, nmAt, wrAt]
    simp only [hb, Bool.false_or]
    exact ⟨_, _, Le.off [some 0, some 1, some 2] (by rfl) (by rfl) (by simp only [rX2, bd, bdL, bdB, bdH, bdT, front, VLe, VLeL, BLe, Phan, TLe, HLe, ro, Blk.owned, CLe, rr, given, mrg, exct, shr, ren, renL, renB, Nat.reduceAdd, Nat.reduceSub, Nat.reduceLT, Nat.reduceLeDiff, Nat.reduceEqDiff, Nat.reduceBEq, Nat.reduceBNe, reduceCtorEq, nmC, nmV, rBE, rd, rw, wrC, nmAt, wrAt]), c1, hc1, rfl, rfl⟩
theorem rwrite_ok (R : List Int) (k cap : Nat) (bad : Bool) (hR : Bys R) (hc : (R.drop k).length ≤ cap) :
    VCall Try.prog 151 [.ptr 0 0 0 0] [rd 1 (R.drop k).length cap (lack bad R k), rw (R.drop k)] fun v h => ∃ cap', (R.drop (k + 9)).length ≤ cap' ∧ v = .agg (wrC ⟨R.getD k 0, fun i => R.getD (k + 1 + i) 0⟩) ∧ h = [rd 2 (R.drop (k + 9)).length cap' (lack bad R (k + 9)), rw (R.drop k), rw (R.drop (k + 9))] := by
  have hw : ∀ i, IntKind.u8.wrap (R.getD i 0) = R.getD i 0 := fun i => IntWalk.u8_in _ (by have := hR.getD i; omega)
  unfold rd rw
  refine VC.out ?_
  refine wbody Try.func151 rfl (by kernel_rfl) ?_
  rw [Try.ntmps151, Try.results151]
  simp (implicitDefEqProofs := false) (maxSteps := 1000000) only [rX1, bd, bdL, bdB, bdH, bdT, front, VLe, VLeL, BLe, Phan, TLe, HLe, ro, Blk.owned, CLe, rr, given, mrg, exct, shr, ren, renL, renB, Nat.reduceBEq, Nat.reduceBNe, rX0, ofVal, ofVals, cellsV, vStore.isTup, eqL, eqV, Blk.deg, oneV, elApp, Nat.reduceAdd, Nat.reduceSub, Nat.reduceMul, Nat.reduceLT, Nat.reduceLeDiff, Nat.reduceEqDiff, Int.reduceToNat, Int.reduceGT, Int.reduceGE, Int.reduceMul, Int.reduceLT, Int.reduceLE, Int.reduceAdd, Int.reduceSub, Int.reduceNeg, reduceCtorEq, Sf.T3, Sf.T4, Sf.T26, Sf.T141, Sf.T5, Sf.T22, Sf.T27, Sf.T89, Sf.T54, Sf.T74, Sf.T163, Sf.T160, nmC, nmV, rBE, rd, rw, wrC, nmAt, wrAt]
  refine vframe (byteN R k cap bad hR hc) [0, 1] (by rfl) (by simp only [rX2, bd, bdL, bdB, bdH, bdT, front, VLe, VLeL, BLe, Phan, TLe, HLe, ro, Blk.owned, CLe, rr, given, mrg, exct, shr, ren, renL, renB, Nat.reduceAdd, Nat.reduceSub, Nat.reduceLT, Nat.reduceLeDiff, Nat.reduceEqDiff, Nat.reduceBEq, Nat.reduceBNe, reduceCtorEq, nmC, nmV, rBE, rd, rw, wrC, nmAt, wrAt]) ?_
  rintro v h ⟨c0, hc0, rfl, rfl⟩ -
  simp (implicitDefEqProofs := false) (maxSteps := 1000000) only [rX2, bd, bdL, bdB, bdH, bdT, front, VLe, VLeL, BLe, Phan, TLe, HLe, ro, Blk.owned, CLe, rr, given, mrg, exct, shr, ren, renL, renB, Nat.reduceAdd, Nat.reduceSub, Nat.reduceLT, Nat.reduceLeDiff, Nat.reduceEqDiff, Nat.reduceBEq, Nat.reduceBNe, reduceCtorEq, nmC, nmV, rBE, rd, rw, wrC, nmAt, wrAt, rX0, ofVal, ofVals, cellsV, vStore.isTup, eqL, eqV, Blk.deg, oneV, elApp, Nat.reduceAdd, Nat.reduceSub, Nat.reduceMul, Nat.reduceLT, Nat.reduceLeDiff, Nat.reduceEqDiff, Int.reduceToNat, Int.reduceGT, Int.reduceGE, Int.reduceMul, Int.reduceLT, Int.reduceLE, Int.reduceAdd, Int.reduceSub, Int.reduceNeg, reduceCtorEq, Sf.T3, Sf.T4, Sf.T26, Sf.T141, Sf.T5, Sf.T22, Sf.T27, Sf.T89, Sf.T54, Sf.T74, Sf.T163, Sf.T160, nmC, nmV, rBE, rd, rw, wrC, nmAt, wrAt]
  refine vrounds 9 ?_
  simp (implicitDefEqProofs := false) (maxSteps := 1000000) only [rX2, bd, bdL, bdB, bdH, bdT, front, VLe, VLeL, BLe, Phan, TLe, HLe, ro, Blk.owned, CLe, rr, given, mrg, exct, shr, ren, renL, renB, Nat.reduceAdd, Nat.reduceSub, Nat.reduceLT, Nat.reduceLeDiff, Nat.reduceEqDiff, Nat.reduceBEq, Nat.reduceBNe, reduceCtorEq, nmC, nmV, rBE, rd, rw, wrC, nmAt, wrAt, rX0, ofVal, ofVals, cellsV, vStore.isTup, eqL, eqV, Blk.deg, oneV, elApp, Nat.reduceAdd, Nat.reduceSub, Nat.reduceMul, Nat.reduceLT, Nat.reduceLeDiff, Nat.reduceEqDiff, Int.reduceToNat, Int.reduceGT, Int.reduceGE, Int.reduceMul, Int.reduceLT, Int.reduceLE, Int.reduceAdd, Int.reduceSub, Int.reduceNeg, reduceCtorEq, Sf.T3, Sf.T4, Sf.T26, Sf.T141, Sf.T5, Sf.T22, Sf.T27, Sf.T89, Sf.T54, Sf.T74, Sf.T163, Sf.T160, nmC, nmV, rBE, rd, rw, wrC, nmAt, wrAt]
  refine vframe (byteN R (k + 1) c0 bad hR hc0) [0, 3] (by rfl) (by simp only [rX2, bd, bdL, bdB, bdH, bdT, front, VLe, VLeL, BLe, Phan, TLe, HLe, ro, Blk.owned, CLe, rr, given, mrg, exct, shr, ren, renL, renB, Nat.reduceAdd, Nat.reduceSub, Nat.reduceLT, Nat.reduceLeDiff, Nat.reduceEqDiff, Nat.reduceBEq, Nat.reduceBNe, reduceCtorEq, nmC, nmV, rBE, rd, rw, wrC, nmAt, wrAt]) ?_
  rintro v h ⟨c1, hc1, rfl, rfl⟩ -
  simp (implicitDefEqProofs := false) (maxSteps := 1000000) only [hw, rX2, bd, bdL, bdB, bdH, bdT, front, VLe, VLeL, BLe, Phan, TLe, HLe, ro, Blk.owned, CLe, rr, given, mrg, exct, shr, ren, renL, renB, Nat.reduceAdd, Nat.reduceSub, Nat.reduceLT, Nat.reduceLeDiff, Nat.reduceEqDiff, Nat.reduceBEq, Nat.reduceBNe, reduceCtorEq, nmC, nmV, rBE, rd, rw, wrC, nmAt, wrAt, rX0, ofVal, ofVals, cellsV, vStore.isTup, eqL, eqV, Blk.deg, oneV, elApp, Nat.reduceAdd, Nat.reduceSub, Nat.reduceMul, Nat.reduceLT, Nat.reduceLeDiff, Nat.reduceEqDiff, Int.reduceToNat, Int.reduceGT, Int.reduceGE, Int.reduceMul, Int.reduceLT, Int.reduceLE, Int.reduceAdd, Int.reduceSub, Int.reduceNeg, reduceCtorEq, Sf.T3, Sf.T4, Sf.T26, Sf.T141, Sf.T5, Sf.T22, Sf.T27, Sf.T89, Sf.T54, Sf.T74, Sf.T163, Sf.T160, nmC, nmV, rBE, rd, rw, wrC, nmAt, wrAt]
  refine vframe (byteN R (k + 2) c1 bad hR hc1) [0, 5] (by rfl) (by simp only [rX2, bd, bdL, bdB, bdH, bdT, front, VLe, VLeL, BLe, Phan, TLe, HLe, ro, Blk.owned, CLe, rr, given, mrg, exct, shr, ren, renL, renB, Nat.reduceAdd, Nat.reduceSub, Nat.reduceLT, Nat.reduceLeDiff, Nat.reduceEqDiff, Nat.reduceBEq, Nat.reduceBNe, reduceCtorEq, nmC, nmV, rBE, rd, rw, wrC, nmAt, wrAt]) ?_
  rintro v h ⟨c2, hc2, rfl, rfl⟩ -
  simp (implicitDefEqProofs := false) (maxSteps := 1000000) only [hw, rX2, bd, bdL, bdB, bdH, bdT, front, VLe, VLeL, BLe, Phan, TLe, HLe, ro, Blk.owned, CLe, rr, given, mrg, exct, shr, ren, renL, renB, Nat.reduceAdd, Nat.reduceSub, Nat.reduceLT, Nat.reduceLeDiff, Nat.reduceEqDiff, Nat.reduceBEq, Nat.reduceBNe, reduceCtorEq, nmC, nmV, rBE, rd, rw, wrC, nmAt, wrAt, rX0, ofVal, ofVals, cellsV, vStore.isTup, eqL, eqV, Blk.deg, oneV, elApp, Nat.reduceAdd, Nat.reduceSub, Nat.reduceMul, Nat.reduceLT, Nat.reduceLeDiff, Nat.reduceEqDiff, Int.reduceToNat, Int.reduceGT, Int.reduceGE, Int.reduceMul, Int.reduceLT, Int.reduceLE, Int.reduceAdd, Int.reduceSub, Int.reduceNeg, reduceCtorEq, Sf.T3, Sf.T4, Sf.T26, Sf.T141, Sf.T5, Sf.T22, Sf.T27, Sf.T89, Sf.T54, Sf.T74, Sf.T163, Sf.T160, nmC, nmV, rBE, rd, rw, wrC, nmAt, wrAt]
  refine vframe (byteN R (k + 3) c2 bad hR hc2) [0, 6] (by rfl) (by simp only [rX2, bd, bdL, bdB, bdH, bdT, front, VLe, VLeL, BLe, Phan, TLe, HLe, ro, Blk.owned, CLe, rr, given, mrg, exct, shr, ren, renL, renB, Nat.reduceAdd, Nat.reduceSub, Nat.reduceLT, Nat.reduceLeDiff, Nat.reduceEqDiff, Nat.reduceBEq, Nat.reduceBNe, reduceCtorEq, nmC, nmV, rBE, rd, rw, wrC, nmAt, wrAt]) ?_
  rintro v h ⟨c3, hc3, rfl, rfl⟩ -
  simp (implicitDefEqProofs := false) (maxSteps := 1000000) only [hw, rX2, bd, bdL, bdB, bdH, bdT, front, VLe, VLeL, BLe, Phan, TLe, HLe, ro, Blk.owned, CLe, rr, given, mrg, exct, shr, ren, renL, renB, Nat.reduceAdd, Nat.reduceSub, Nat.reduceLT, Nat.reduceLeDiff, Nat.reduceEqDiff, Nat.reduceBEq, Nat.reduceBNe, reduceCtorEq, nmC, nmV, rBE, rd, rw, wrC, nmAt, wrAt, rX0, ofVal, ofVals, cellsV, vStore.isTup, eqL, eqV, Blk.deg, oneV, elApp, Nat.reduceAdd, Nat.reduceSub, Nat.reduceMul, Nat.reduceLT, Nat.reduceLeDiff, Nat.reduceEqDiff, Int.reduceToNat, Int.reduceGT, Int.reduceGE, Int.reduceMul, Int.reduceLT, Int.reduceLE, Int.reduceAdd, Int.reduceSub, Int.reduceNeg, reduceCtorEq, Sf.T3, Sf.T4, Sf.T26, Sf.T141, Sf.T5, Sf.T22, Sf.T27, Sf.T89, Sf.T54, Sf.T74, Sf.T163, Sf.T160, nmC, nmV, rBE, rd, rw, wrC, nmAt, wrAt]
  refine vframe (byteN R (k + 4) c3 bad hR hc3) [0, 7] (by rfl) (by simp only [rX2, bd, bdL, bdB, bdH, bdT, front, VLe, VLeL, BLe, Phan, TLe, HLe, ro, Blk.owned, CLe, rr, given, mrg, exct, shr, ren, renL, renB, Nat.reduceAdd, Nat.reduceSub, Nat.reduceLT, Nat.reduceLeDiff, Nat.reduceEqDiff, Nat.reduceBEq, Nat.reduceBNe, reduceCtorEq, nmC, nmV, rBE, rd, rw, wrC, nmAt, wrAt]) ?_
  rintro v h ⟨c4, hc4, rfl, rfl⟩ -
  simp (implicitDefEqProofs := false) (maxSteps := 1000000) only [hw, rX2, bd, bdL, bdB, bdH, bdT, front, VLe, VLeL, BLe, Phan, TLe, HLe, ro, Blk.owned, CLe, rr, given, mrg, exct, shr, ren, renL, renB, Nat.reduceAdd, Nat.reduceSub, Nat.reduceLT, Nat.reduceLeDiff, Nat.reduceEqDiff, Nat.reduceBEq, Nat.reduceBNe, reduceCtorEq, nmC, nmV, rBE, rd, rw, wrC, nmAt, wrAt, rX0, ofVal, ofVals, cellsV, vStore.isTup, eqL, eqV, Blk.deg, oneV, elApp, Nat.reduceAdd, Nat.reduceSub, Nat.reduceMul, Nat.reduceLT, Nat.reduceLeDiff, Nat.reduceEqDiff, Int.reduceToNat, Int.reduceGT, Int.reduceGE, Int.reduceMul, Int.reduceLT, Int.reduceLE, Int.reduceAdd, Int.reduceSub, Int.reduceNeg, reduceCtorEq, Sf.T3, Sf.T4, Sf.T26, Sf.T141, Sf.T5, Sf.T22, Sf.T27, Sf.T89, Sf.T54, Sf.T74, Sf.T163, Sf.T160, nmC, nmV, rBE, rd, rw, wrC, nmAt, wrAt]
  refine vframe (byteN R (k + 5) c4 bad hR hc4) [0, 8] (by rfl) (by simp only [rX2, bd, bdL, bdB, bdH, bdT, front, VLe, VLeL, BLe, Phan, TLe, HLe, ro, Blk.owned, CLe, rr, given, mrg, exct, shr, ren, renL, renB, Nat.reduceAdd, Nat.reduceSub, Nat.reduceLT, Nat.reduceLeDiff, Nat.reduceEqDiff, Nat.reduceBEq, Nat.reduceBNe, reduceCtorEq, nmC, nmV, rBE, rd, rw, wrC, nmAt, wrAt]) ?_
  rintro v h ⟨c5, hc5, rfl, rfl⟩ -
  simp (implicitDefEqProofs := false) (maxSteps := 1000000) only [hw, rX2, bd, bdL, bdB, bdH, bdT, front, VLe, VLeL, BLe, Phan, TLe, HLe, ro, Blk.owned, CLe, rr, given, mrg, exct, shr, ren, renL, renB, Nat.reduceAdd, Nat.reduceSub, Nat.reduceLT, Nat.reduceLeDiff, Nat.reduceEqDiff, Nat.reduceBEq, Nat.reduceBNe, reduceCtorEq, nmC, nmV, rBE, rd, rw, wrC, nmAt, wrAt, rX0, ofVal, ofVals, cellsV, vStore.isTup, eqL, eqV, Blk.deg, oneV, elApp, Nat.reduceAdd, Nat.reduceSub, Nat.reduceMul, Nat.reduceLT, Nat.reduceLeDiff, Nat.reduceEqDiff, Int.reduceToNat, Int.reduceGT, Int.reduceGE, Int.reduceMul, Int.reduceLT, Int.reduceLE, Int.reduceAdd, Int.reduceSub, Int.reduceNeg, reduceCtorEq, Sf.T3, Sf.T4, Sf.T26, Sf.T141, Sf.T5, Sf.T22, Sf.T27, Sf.T89, Sf.T54, Sf.T74, Sf.T163, Sf.T160, nmC, nmV, rBE, rd, rw, wrC, nmAt, wrAt]
  refine vframe (byteN R (k + 6) c5 bad hR hc5) [0, 9] (by rfl) (by simp only [rX2, bd, bdL, bdB, bdH, bdT, front, VLe, VLeL, BLe, Phan, TLe, HLe, ro, Blk.owned, CLe, rr, given, mrg, exct, shr, ren, renL, renB, Nat.reduceAdd, Nat.reduceSub, Nat.reduceLT, Nat.reduceLeDiff, Nat.reduceEqDiff, Nat.reduceBEq, Nat.reduceBNe, reduceCtorEq, nmC, nmV, rBE, rd, rw, wrC, nmAt, wrAt]) ?_
  rintro v h ⟨c6, hc6, rfl, rfl⟩ -
  simp (implicitDefEqProofs := false) (maxSteps := 1000000) only [hw, rX2, bd, bdL, bdB, bdH, bdT, front, VLe, VLeL, BLe, Phan, TLe, HLe, ro, Blk.owned, CLe, rr, given, mrg, exct, shr, ren, renL, renB, Nat.reduceAdd, Nat.reduceSub, Nat.reduceLT, Nat.reduceLeDiff, Nat.reduceEqDiff, Nat.reduceBEq, Nat.reduceBNe, reduceCtorEq, nmC, nmV, rBE, rd, rw, wrC, nmAt, wrAt, rX0, ofVal, ofVals, cellsV, vStore.isTup, eqL, eqV, Blk.deg, oneV, elApp, Nat.reduceAdd, Nat.reduceSub, Nat.reduceMul, Nat.reduceLT, Nat.reduceLeDiff, Nat.reduceEqDiff, Int.reduceToNat, Int.reduceGT, Int.reduceGE, Int.reduceMul, Int.reduceLT, Int.reduceLE, Int.reduceAdd, Int.reduceSub, Int.reduceNeg, reduceCtorEq, Sf.T3, Sf.T4, Sf.T26, Sf.T141, Sf.T5, Sf.T22, Sf.T27, Sf.T89, Sf.T54, Sf.T74, Sf.T163, Sf.T160, nmC, nmV, rBE, rd, rw, wrC, nmAt, wrAt]
  refine vframe (byteN R (k + 7) c6 bad hR hc6) [0, 10] (by rfl) (by simp only [rX2, bd, bdL, bdB, bdH, bdT, front, VLe, VLeL, BLe, Phan, TLe, HLe, ro, Blk.owned, CLe, rr, given, mrg, exct, shr, ren, renL, renB, Nat.reduceAdd, Nat.reduceSub, Nat.reduceLT, Nat.reduceLeDiff, Nat.reduceEqDiff, Nat.reduceBEq, Nat.reduceBNe, reduceCtorEq, nmC, nmV, rBE, rd, rw, wrC, nmAt, wrAt]) ?_
  rintro v h ⟨c7, hc7, rfl, rfl⟩ -
  simp (implicitDefEqProofs := false) (maxSteps := 1000000) only [hw, rX2, bd, bdL, bdB, bdH, bdT, front, VLe, VLeL, BLe, Phan, TLe, HLe, ro, Blk.owned, CLe, rr, given, mrg, exct, shr, ren, renL, renB, Nat.reduceAdd, Nat.reduceSub, Nat.reduceLT, Nat.reduceLeDiff, Nat.reduceEqDiff, Nat.reduceBEq, Nat.reduceBNe, reduceCtorEq, nmC, nmV, rBE, rd, rw, wrC, nmAt, wrAt, rX0, ofVal, ofVals, cellsV, vStore.isTup, eqL, eqV, Blk.deg, oneV, elApp, Nat.reduceAdd, Nat.reduceSub, Nat.reduceMul, Nat.reduceLT, Nat.reduceLeDiff, Nat.reduceEqDiff, Int.reduceToNat, Int.reduceGT, Int.reduceGE, Int.reduceMul, Int.reduceLT, Int.reduceLE, Int.reduceAdd, Int.reduceSub, Int.reduceNeg, reduceCtorEq, Sf.T3, Sf.T4, Sf.T26, Sf.T141, Sf.T5, Sf.T22, Sf.T27, Sf.T89, Sf.T54, Sf.T74, Sf.T163, Sf.T160, nmC, nmV, rBE, rd, rw, wrC, nmAt, wrAt]
  refine vframe (byteN R (k + 8) c7 bad hR hc7) [0, 11] (by rfl) (by simp only [rX2, bd, bdL, bdB, bdH, bdT, front, VLe, VLeL, BLe, Phan, TLe, HLe, ro, Blk.owned, CLe, rr, given, mrg, exct, shr, ren, renL, renB, Nat.reduceAdd, Nat.reduceSub, Nat.reduceLT, Nat.reduceLeDiff, Nat.reduceEqDiff, Nat.reduceBEq, Nat.reduceBNe, reduceCtorEq, nmC, nmV, rBE, rd, rw, wrC, nmAt, wrAt]) ?_
  rintro v h ⟨c8, hc8, rfl, rfl⟩ -
  simp (implicitDefEqProofs := false) (maxSteps := 1000000) only [hw, rX2, bd, bdL, bdB, bdH, bdT, front, VLe, VLeL, BLe, Phan, TLe, HLe, ro, Blk.owned, CLe, rr, given, mrg, exct, shr, ren, renL, renB, Nat.reduceAdd, Nat.reduceSub, Nat.reduceLT, Nat.reduceLeDiff, Nat.reduceEqDiff, Nat.reduceBEq, Nat.reduceBNe, reduceCtorEq, nmC, nmV, rBE, rd, rw, wrC, nmAt, wrAt, rX0, ofVal, ofVals, cellsV, vStore.isTup, eqL, eqV, Blk.deg, oneV, elApp, Nat.reduceAdd, Nat.reduceSub, Nat.reduceMul, Nat.reduceLT, Nat.reduceLeDiff, Nat.reduceEqDiff, Int.reduceToNat, Int.reduceGT, Int.reduceGE, Int.reduceMul, Int.reduceLT, Int.reduceLE, Int.reduceAdd, Int.reduceSub, Int.reduceNeg, reduceCtorEq, Sf.T3, Sf.T4, Sf.T26, Sf.T141, Sf.T5, Sf.T22, Sf.T27, Sf.T89, Sf.T54, Sf.T74, Sf.T163, Sf.T160, nmC, nmV, rBE, rd, rw, wrC, nmAt, wrAt]
  exact ⟨_, _, Le.off [some 0, some 1, some 12] (by rfl) (by rfl) (by simp only [rX2, bd, bdL, bdB, bdH, bdT, front, VLe, VLeL, BLe, Phan, TLe, HLe, ro, Blk.owned, CLe, rr, given, mrg, exct, shr, ren, renL, renB, Nat.reduceAdd, Nat.reduceSub, Nat.reduceLT, Nat.reduceLeDiff, Nat.reduceEqDiff, Nat.reduceBEq, Nat.reduceBNe, reduceCtorEq, nmC, nmV, rBE, rd, rw, wrC, nmAt, wrAt]), c8, hc8, rfl, rfl⟩
/-- So many blocks are read: till there are n, or till bytes lack. -/
def Reads (R : List Int) (bad : Bool) (k n m : Nat) : Prop := m ≤ n ∧ (m = n ∨ lack bad R (k + 9 * m) = true) ∧ ∀ i, i < m → lack bad R (k + 9 * i) = false
theorem rsome_ok (R : List Int) (k cap n : Nat) (bad : Bool) (hR : Bys R) (hn : n ≤ 1000) (hc : (R.drop k).length ≤ cap) :
    VCall Try.prog 150 [.int .i64 n, .func 151 [.ptr 0 0 0 0] [], .ptr 0 0 0 1] [rd 1 (R.drop k).length cap (lack bad R k), rw (R.drop k)] fun v h => ∃ m cap' co, Reads R bad k n m ∧ (R.drop (k + 9 * m)).length ≤ cap' ∧ v = .slice 3 m co ∧
      h = [rd 2 (R.drop (k + 9 * m)).length cap' (lack bad R (k + 9 * m)), rw (R.drop k), rw (R.drop (k + 9 * m)), .own 89 9 m co fun j => wrC (wrAt R (k + 9 * j))] := by
  unfold rd rw
  refine VC.out ?_
  refine wbody Try.func150 rfl (by kernel_rfl) ?_
  rw [Try.ntmps150, Try.results150]
  simp (implicitDefEqProofs := false) (maxSteps := 1000000) only [rX1, bd, bdL, bdB, bdH, bdT, front, VLe, VLeL, BLe, Phan, TLe, HLe, ro, Blk.owned, CLe, rr, given, mrg, exct, shr, ren, renL, renB, Nat.reduceBEq, Nat.reduceBNe, rX0, ofVal, ofVals, cellsV, vStore.isTup, eqL, eqV, Blk.deg, oneV, elApp, Nat.reduceAdd, Nat.reduceSub, Nat.reduceMul, Nat.reduceLT, Nat.reduceLeDiff, Nat.reduceEqDiff, Int.reduceToNat, Int.reduceGT, Int.reduceGE, Int.reduceMul, Int.reduceLT, Int.reduceLE, Int.reduceAdd, Int.reduceSub, Int.reduceNeg, reduceCtorEq, Sf.T3, Sf.T4, Sf.T26, Sf.T141, Sf.T5, Sf.T22, Sf.T27, Sf.T89, Sf.T54, Sf.T74, Sf.T163, Sf.T160, nmC, nmV, rBE, rd, rw, wrC, nmAt, wrAt]
  refine wloop (fun s : Nat × Nat × Nat => ⟨[some (.int .i64 n), some (.func 151 [.ptr 0 0 0 0] []), some (.ptr 0 0 0 1), none, none, none, none, some (.slice 3 s.1 s.2.2), none, none, none, none, none, none, none, none, none, none, none, none, none, none, none, none], [.cells true 74 [.slice 2 (R.drop (k + 9 * s.1)).length s.2.1, .bool (lack bad R (k + 9 * s.1))], .row 1 (R.drop k).length (bE (R.drop k)), .row 1 (R.drop (k + 9 * s.1)).length (bE (R.drop (k + 9 * s.1))), .own 89 9 s.1 s.2.2 fun j => wrC (wrAt R (k + 9 * j))]⟩) (fun s => s.1 ≤ n ∧ (∀ i, i < s.1 → lack bad R (k + 9 * i) = false) ∧ (R.drop (k + 9 * s.1)).length ≤ s.2.1) (fun s => n - s.1) (0, cap, 0) ⟨Nat.zero_le _, fun i hi => by omega, hc⟩ ?_ ?_
  · simp only [Nat.mul_zero, Nat.add_zero]
    refine Le.off [some 0, some 1, some 1, none] (by rfl) (by rfl) (by simp only [rX2, bd, bdL, bdB, bdH, bdT, front, VLe, VLeL, BLe, Phan, TLe, HLe, ro, Blk.owned, CLe, rr, given, mrg, exct, shr, ren, renL, renB, Nat.reduceAdd, Nat.reduceSub, Nat.reduceLT, Nat.reduceLeDiff, Nat.reduceEqDiff, Nat.reduceBEq, Nat.reduceBNe, reduceCtorEq, nmC, nmV, rBE, rd, rw, wrC, nmAt, wrAt])
  rintro ⟨i, c, co⟩ ⟨hi, hall, hci⟩
  simp only [] at hi hall hci ⊢
  have e9 : k + 9 * (i + 1) = k + 9 * i + 9 := by omega
  have key : ∀ j, j < i + 1 → elApp i (fun j => wrC (wrAt R (k + 9 * j))) (chunk 9 (wrC (wrAt R (k + 9 * i)))) j = wrC (wrAt R (k + 9 * j)) := fun j hj => by
    unfold elApp
    by_cases h : j < i
    · rw [if_pos h]
    · have e : j = i := by omega
      subst e
      rw [if_neg h, Nat.sub_self]; rfl
  simp only [wrC, wrAt, Nat.add_zero] at key
  simp (implicitDefEqProofs := false) (maxSteps := 1000000) only [rX2, bd, bdL, bdB, bdH, bdT, front, VLe, VLeL, BLe, Phan, TLe, HLe, ro, Blk.owned, CLe, rr, given, mrg, exct, shr, ren, renL, renB, Nat.reduceAdd, Nat.reduceSub, Nat.reduceLT, Nat.reduceLeDiff, Nat.reduceEqDiff, Nat.reduceBEq, Nat.reduceBNe, reduceCtorEq, nmC, nmV, rBE, rd, rw, wrC, nmAt, wrAt, rX0, ofVal, ofVals, cellsV, vStore.isTup, eqL, eqV, Blk.deg, oneV, elApp, Nat.reduceAdd, Nat.reduceSub, Nat.reduceMul, Nat.reduceLT, Nat.reduceLeDiff, Nat.reduceEqDiff, Int.reduceToNat, Int.reduceGT, Int.reduceGE, Int.reduceMul, Int.reduceLT, Int.reduceLE, Int.reduceAdd, Int.reduceSub, Int.reduceNeg, reduceCtorEq, Sf.T3, Sf.T4, Sf.T26, Sf.T141, Sf.T5, Sf.T22, Sf.T27, Sf.T89, Sf.T54, Sf.T74, Sf.T163, Sf.T160, nmC, nmV, rBE, rd, rw, wrC, nmAt, wrAt]
  refine ⟨fun hlt => ⟨fun hl => ?_, fun hl => ?_⟩, fun hge => ?_⟩
  · simp (implicitDefEqProofs := false) (maxSteps := 1000000) only [rX2, bd, bdL, bdB, bdH, bdT, front, VLe, VLeL, BLe, Phan, TLe, HLe, ro, Blk.owned, CLe, rr, given, mrg, exct, shr, ren, renL, renB, Nat.reduceAdd, Nat.reduceSub, Nat.reduceLT, Nat.reduceLeDiff, Nat.reduceEqDiff, Nat.reduceBEq, Nat.reduceBNe, reduceCtorEq, nmC, nmV, rBE, rd, rw, wrC, nmAt, wrAt, rX0, ofVal, ofVals, cellsV, vStore.isTup, eqL, eqV, Blk.deg, oneV, elApp, Nat.reduceAdd, Nat.reduceSub, Nat.reduceMul, Nat.reduceLT, Nat.reduceLeDiff, Nat.reduceEqDiff, Int.reduceToNat, Int.reduceGT, Int.reduceGE, Int.reduceMul, Int.reduceLT, Int.reduceLE, Int.reduceAdd, Int.reduceSub, Int.reduceNeg, reduceCtorEq, Sf.T3, Sf.T4, Sf.T26, Sf.T141, Sf.T5, Sf.T22, Sf.T27, Sf.T89, Sf.T54, Sf.T74, Sf.T163, Sf.T160, nmC, nmV, rBE, rd, rw, wrC, nmAt, wrAt]
    exact ⟨_, _, Le.off [some 0, some 1, some 2, some 3] (by rfl) (by rfl) (by simp only [rX2, bd, bdL, bdB, bdH, bdT, front, VLe, VLeL, BLe, Phan, TLe, HLe, ro, Blk.owned, CLe, rr, given, mrg, exct, shr, ren, renL, renB, Nat.reduceAdd, Nat.reduceSub, Nat.reduceLT, Nat.reduceLeDiff, Nat.reduceEqDiff, Nat.reduceBEq, Nat.reduceBNe, reduceCtorEq, nmC, nmV, rBE, rd, rw, wrC, nmAt, wrAt]), i, c, co, ⟨hi, .inr hl, hall⟩, hci, rfl, rfl⟩
  · simp (implicitDefEqProofs := false) (maxSteps := 1000000) only [rX2, bd, bdL, bdB, bdH, bdT, front, VLe, VLeL, BLe, Phan, TLe, HLe, ro, Blk.owned, CLe, rr, given, mrg, exct, shr, ren, renL, renB, Nat.reduceAdd, Nat.reduceSub, Nat.reduceLT, Nat.reduceLeDiff, Nat.reduceEqDiff, Nat.reduceBEq, Nat.reduceBNe, reduceCtorEq, nmC, nmV, rBE, rd, rw, wrC, nmAt, wrAt, rX0, ofVal, ofVals, cellsV, vStore.isTup, eqL, eqV, Blk.deg, oneV, elApp, Nat.reduceAdd, Nat.reduceSub, Nat.reduceMul, Nat.reduceLT, Nat.reduceLeDiff, Nat.reduceEqDiff, Int.reduceToNat, Int.reduceGT, Int.reduceGE, Int.reduceMul, Int.reduceLT, Int.reduceLE, Int.reduceAdd, Int.reduceSub, Int.reduceNeg, reduceCtorEq, Sf.T3, Sf.T4, Sf.T26, Sf.T141, Sf.T5, Sf.T22, Sf.T27, Sf.T89, Sf.T54, Sf.T74, Sf.T163, Sf.T160, nmC, nmV, rBE, rd, rw, wrC, nmAt, wrAt]
    have hall' : ∀ j, j < i + 1 → lack bad R (k + 9 * j) = false := fun j hj => by
      by_cases h : j < i
      · exact hall j h
      · rw [show j = i by omega]; exact hl
    refine vframe (rwrite_ok R (k + 9 * i) c bad hR hci) [0, 2] (by rfl) (by simp only [rX2, bd, bdL, bdB, bdH, bdT, front, VLe, VLeL, BLe, Phan, TLe, HLe, ro, Blk.owned, CLe, rr, given, mrg, exct, shr, ren, renL, renB, Nat.reduceAdd, Nat.reduceSub, Nat.reduceLT, Nat.reduceLeDiff, Nat.reduceEqDiff, Nat.reduceBEq, Nat.reduceBNe, reduceCtorEq, nmC, nmV, rBE, rd, rw, wrC, nmAt, wrAt]) ?_
    rintro v h ⟨c2, hc2, rfl, rfl⟩ -
    simp (implicitDefEqProofs := false) (maxSteps := 1000000) only [rX2, bd, bdL, bdB, bdH, bdT, front, VLe, VLeL, BLe, Phan, TLe, HLe, ro, Blk.owned, CLe, rr, given, mrg, exct, shr, ren, renL, renB, Nat.reduceAdd, Nat.reduceSub, Nat.reduceLT, Nat.reduceLeDiff, Nat.reduceEqDiff, Nat.reduceBEq, Nat.reduceBNe, reduceCtorEq, nmC, nmV, rBE, rd, rw, wrC, nmAt, wrAt, rX0, ofVal, ofVals, cellsV, vStore.isTup, eqL, eqV, Blk.deg, oneV, elApp, Nat.reduceAdd, Nat.reduceSub, Nat.reduceMul, Nat.reduceLT, Nat.reduceLeDiff, Nat.reduceEqDiff, Int.reduceToNat, Int.reduceGT, Int.reduceGE, Int.reduceMul, Int.reduceLT, Int.reduceLE, Int.reduceAdd, Int.reduceSub, Int.reduceNeg, reduceCtorEq, Sf.T3, Sf.T4, Sf.T26, Sf.T141, Sf.T5, Sf.T22, Sf.T27, Sf.T89, Sf.T54, Sf.T74, Sf.T163, Sf.T160, nmC, nmV, rBE, rd, rw, wrC, nmAt, wrAt]
    refine ⟨⟨by omega, by simp only [maxI]; omega⟩, fun co' _ _ => ⟨(i + 1, c2, co'), ⟨by simp only []; omega, hall', by simp only [e9]; exact hc2⟩, by simp only []; omega, ?_⟩⟩
    simp only [e9]
    refine Le.off [some 0, some 1, some 4, some 6] (by rfl) (by rfl) (by simp only [rX2, bd, bdL, bdB, bdH, bdT, front, VLe, VLeL, BLe, Phan, TLe, HLe, ro, Blk.owned, CLe, rr, given, mrg, exct, shr, ren, renL, renB, Nat.reduceAdd, Nat.reduceSub, Nat.reduceLT, Nat.reduceLeDiff, Nat.reduceEqDiff, Nat.reduceBEq, Nat.reduceBNe, reduceCtorEq, nmC, nmV, rBE, rd, rw, wrC, nmAt, wrAt]; intro j hj; rw [key j hj]; simp only [rX2, bd, bdL, bdB, bdH, bdT, front, VLe, VLeL, BLe, Phan, TLe, HLe, ro, Blk.owned, CLe, rr, given, mrg, exct, shr, ren, renL, renB, Nat.reduceAdd, Nat.reduceSub, Nat.reduceLT, Nat.reduceLeDiff, Nat.reduceEqDiff, Nat.reduceBEq, Nat.reduceBNe, reduceCtorEq, nmC, nmV, rBE, rd, rw, wrC, nmAt, wrAt])
  · have e : n = i := by omega
    subst e
    exact ⟨_, _, Le.off [some 0, some 1, some 2, some 3] (by rfl) (by rfl) (by simp only [rX2, bd, bdL, bdB, bdH, bdT, front, VLe, VLeL, BLe, Phan, TLe, HLe, ro, Blk.owned, CLe, rr, given, mrg, exct, shr, ren, renL, renB, Nat.reduceAdd, Nat.reduceSub, Nat.reduceLT, Nat.reduceLeDiff, Nat.reduceEqDiff, Nat.reduceBEq, Nat.reduceBNe, reduceCtorEq, nmC, nmV, rBE, rd, rw, wrC, nmAt, wrAt]), n, c, co, ⟨hi, .inl rfl, hall⟩, hci, rfl, rfl⟩
theorem rwrites_ok (R : List Int) (k cap : Nat) (bad : Bool) (hR : Bys R) (hc : (R.drop k).length ≤ cap) :
    VCall Try.prog 111 [.ptr 0 0 0 0] [rd 1 (R.drop k).length cap (lack bad R k), rw (R.drop k)] fun v h => ∃ m cap' co, Reads R bad (k + 1) (R.getD k 0).toNat m ∧ (R.drop (k + 1 + 9 * m)).length ≤ cap' ∧ v = .slice 3 m co ∧
      h = [rd 2 (R.drop (k + 1 + 9 * m)).length cap' (lack bad R (k + 1 + 9 * m)), rw (R.drop k), rw (R.drop (k + 1 + 9 * m)), .own 89 9 m co fun j => wrC (wrAt R (k + 1 + 9 * j))] := by
  have hx := hR.getD k
  have hn : ((R.getD k 0).toNat : Int) = R.getD k 0 := by omega
  unfold rd rw
  refine VC.out ?_
  refine wbody Try.func111 rfl (by kernel_rfl) ?_
  rw [Try.ntmps111, Try.results111]
  simp (implicitDefEqProofs := false) (maxSteps := 1000000) only [rX1, bd, bdL, bdB, bdH, bdT, front, VLe, VLeL, BLe, Phan, TLe, HLe, ro, Blk.owned, CLe, rr, given, mrg, exct, shr, ren, renL, renB, Nat.reduceBEq, Nat.reduceBNe, rX0, ofVal, ofVals, cellsV, vStore.isTup, eqL, eqV, Blk.deg, oneV, elApp, Nat.reduceAdd, Nat.reduceSub, Nat.reduceMul, Nat.reduceLT, Nat.reduceLeDiff, Nat.reduceEqDiff, Int.reduceToNat, Int.reduceGT, Int.reduceGE, Int.reduceMul, Int.reduceLT, Int.reduceLE, Int.reduceAdd, Int.reduceSub, Int.reduceNeg, reduceCtorEq, Sf.T3, Sf.T4, Sf.T26, Sf.T141, Sf.T5, Sf.T22, Sf.T27, Sf.T89, Sf.T54, Sf.T74, Sf.T163, Sf.T160, nmC, nmV, rBE, rd, rw, wrC, nmAt, wrAt]
  refine wdraw (.take 0 (.take 2 (.take 3 (.take 4 (.view 5 (.view 6 (.one 1 (.one 7 (.take 8 (.done)))))))))) [] (by kernel_rfl) (by kernel_rfl) (by simp only [rX2, bd, bdL, bdB, bdH, bdT, front, VLe, VLeL, BLe, Phan, TLe, HLe, ro, Blk.owned, CLe, rr, given, mrg, exct, shr, ren, renL, renB, Nat.reduceAdd, Nat.reduceSub, Nat.reduceLT, Nat.reduceLeDiff, Nat.reduceEqDiff, Nat.reduceBEq, Nat.reduceBNe, reduceCtorEq, nmC, nmV, rBE, rd, rw, wrC, nmAt, wrAt, m7y, m7z, m80, m81, m83, m82]) (by simp only [rX2, bd, bdL, bdB, bdH, bdT, front, VLe, VLeL, BLe, Phan, TLe, HLe, ro, Blk.owned, CLe, rr, given, mrg, exct, shr, ren, renL, renB, Nat.reduceAdd, Nat.reduceSub, Nat.reduceLT, Nat.reduceLeDiff, Nat.reduceEqDiff, Nat.reduceBEq, Nat.reduceBNe, reduceCtorEq, nmC, nmV, rBE, rd, rw, wrC, nmAt, wrAt]) ?_
  simp (implicitDefEqProofs := false) (maxSteps := 1000000) only [rX2, bd, bdL, bdB, bdH, bdT, front, VLe, VLeL, BLe, Phan, TLe, HLe, ro, Blk.owned, CLe, rr, given, mrg, exct, shr, ren, renL, renB, Nat.reduceAdd, Nat.reduceSub, Nat.reduceLT, Nat.reduceLeDiff, Nat.reduceEqDiff, Nat.reduceBEq, Nat.reduceBNe, reduceCtorEq, nmC, nmV, rBE, rd, rw, wrC, nmAt, wrAt, rX0, ofVal, ofVals, cellsV, vStore.isTup, eqL, eqV, Blk.deg, oneV, elApp, Nat.reduceAdd, Nat.reduceSub, Nat.reduceMul, Nat.reduceLT, Nat.reduceLeDiff, Nat.reduceEqDiff, Int.reduceToNat, Int.reduceGT, Int.reduceGE, Int.reduceMul, Int.reduceLT, Int.reduceLE, Int.reduceAdd, Int.reduceSub, Int.reduceNeg, reduceCtorEq, Sf.T3, Sf.T4, Sf.T26, Sf.T141, Sf.T5, Sf.T22, Sf.T27, Sf.T89, Sf.T54, Sf.T74, Sf.T163, Sf.T160, nmC, nmV, rBE, rd, rw, wrC, nmAt, wrAt]
  refine vframe (byteN R k cap bad hR hc) [0, 1] (by rfl) (by simp only [rX2, bd, bdL, bdB, bdH, bdT, front, VLe, VLeL, BLe, Phan, TLe, HLe, ro, Blk.owned, CLe, rr, given, mrg, exct, shr, ren, renL, renB, Nat.reduceAdd, Nat.reduceSub, Nat.reduceLT, Nat.reduceLeDiff, Nat.reduceEqDiff, Nat.reduceBEq, Nat.reduceBNe, reduceCtorEq, nmC, nmV, rBE, rd, rw, wrC, nmAt, wrAt]) ?_
  rintro v h ⟨c1, hc1, rfl, rfl⟩ -
  simp (implicitDefEqProofs := false) (maxSteps := 1000000) only [rX2, bd, bdL, bdB, bdH, bdT, front, VLe, VLeL, BLe, Phan, TLe, HLe, ro, Blk.owned, CLe, rr, given, mrg, exct, shr, ren, renL, renB, Nat.reduceAdd, Nat.reduceSub, Nat.reduceLT, Nat.reduceLeDiff, Nat.reduceEqDiff, Nat.reduceBEq, Nat.reduceBNe, reduceCtorEq, nmC, nmV, rBE, rd, rw, wrC, nmAt, wrAt, rX0, ofVal, ofVals, cellsV, vStore.isTup, eqL, eqV, Blk.deg, oneV, elApp, Nat.reduceAdd, Nat.reduceSub, Nat.reduceMul, Nat.reduceLT, Nat.reduceLeDiff, Nat.reduceEqDiff, Int.reduceToNat, Int.reduceGT, Int.reduceGE, Int.reduceMul, Int.reduceLT, Int.reduceLE, Int.reduceAdd, Int.reduceSub, Int.reduceNeg, reduceCtorEq, Sf.T3, Sf.T4, Sf.T26, Sf.T141, Sf.T5, Sf.T22, Sf.T27, Sf.T89, Sf.T54, Sf.T74, Sf.T163, Sf.T160, nmC, nmV, rBE, rd, rw, wrC, nmAt, wrAt]
  rw [← hn]
  refine vframe (rsome_ok R (k + 1) c1 (R.getD k 0).toNat bad hR (by omega) hc1) [0, 2] (by rfl) (by simp only [rX2, bd, bdL, bdB, bdH, bdT, front, VLe, VLeL, BLe, Phan, TLe, HLe, ro, Blk.owned, CLe, rr, given, mrg, exct, shr, ren, renL, renB, Nat.reduceAdd, Nat.reduceSub, Nat.reduceLT, Nat.reduceLeDiff, Nat.reduceEqDiff, Nat.reduceBEq, Nat.reduceBNe, reduceCtorEq, nmC, nmV, rBE, rd, rw, wrC, nmAt, wrAt]) ?_
  rintro v h ⟨m, c2, co, hm, hc2, rfl, rfl⟩ -
  simp (implicitDefEqProofs := false) (maxSteps := 1000000) only [rX2, bd, bdL, bdB, bdH, bdT, front, VLe, VLeL, BLe, Phan, TLe, HLe, ro, Blk.owned, CLe, rr, given, mrg, exct, shr, ren, renL, renB, Nat.reduceAdd, Nat.reduceSub, Nat.reduceLT, Nat.reduceLeDiff, Nat.reduceEqDiff, Nat.reduceBEq, Nat.reduceBNe, reduceCtorEq, nmC, nmV, rBE, rd, rw, wrC, nmAt, wrAt, rX0, ofVal, ofVals, cellsV, vStore.isTup, eqL, eqV, Blk.deg, oneV, elApp, Nat.reduceAdd, Nat.reduceSub, Nat.reduceMul, Nat.reduceLT, Nat.reduceLeDiff, Nat.reduceEqDiff, Int.reduceToNat, Int.reduceGT, Int.reduceGE, Int.reduceMul, Int.reduceLT, Int.reduceLE, Int.reduceAdd, Int.reduceSub, Int.reduceNeg, reduceCtorEq, Sf.T3, Sf.T4, Sf.T26, Sf.T141, Sf.T5, Sf.T22, Sf.T27, Sf.T89, Sf.T54, Sf.T74, Sf.T163, Sf.T160, nmC, nmV, rBE, rd, rw, wrC, nmAt, wrAt]
  exact ⟨_, _, Le.off [some 0, some 1, some 3, some 4] (by rfl) (by rfl) (by simp only [rX2, bd, bdL, bdB, bdH, bdT, front, VLe, VLeL, BLe, Phan, TLe, HLe, ro, Blk.owned, CLe, rr, given, mrg, exct, shr, ren, renL, renB, Nat.reduceAdd, Nat.reduceSub, Nat.reduceLT, Nat.reduceLeDiff, Nat.reduceEqDiff, Nat.reduceBEq, Nat.reduceBNe, reduceCtorEq, nmC, nmV, rBE, rd, rw, wrC, nmAt, wrAt]), m, c2, co, hm, hc2, rfl, rfl⟩
end Go.Proofs.Ytnlammgemaapnaa
