/- Layer 7: Read, whatever the bytes. -/
import Derived.Test.YtnlammgemaapnaaRO
set_option linter.unusedSimpArgs false
set_option linter.unusedVariables false
set_option maxRecDepth 100000
namespace Go.Proofs.Ytnlammgemaapnaa
open Go Go.Sx
def GetK (kd : Int) (R : List Int) (k' : Nat) (bad' : Bool) (r' : Rec) : Prop :=
  if kd = 1 then Glocal R 9 false kd (nmAt R 0) k' bad' r'
  else if kd = 2 then Gprep R 9 false kd (nmAt R 0) k' bad' r'
  else if kd = 3 then Gout R 9 false kd (nmAt R 0) k' bad' r'
  else if kd = 4 then Gcommit R 9 false kd (nmAt R 0) k' bad' r'
  else if kd = 5 then Gend R 9 false kd (nmAt R 0) k' bad' r'
  else Gnum R 0 false kd ⟨0, 0, 0⟩ k' bad' r'
/-- These bytes are this record's. -/
def Good (B : List Int) (r : Rec) : Prop := ∃ x R k', B = x :: R ∧ 1 ≤ x ∧ x ≤ 7 ∧ GetK x R k' false r ∧ R.length ≤ k' ∧ MayR r
theorem Reads.uniq {R : List Int} {bad : Bool} {k n m m' : Nat} (h : Reads R bad k n m) (h' : Reads R bad k n m') : m = m' := by
  have key : ∀ a b, Reads R bad k n a → Reads R bad k n b → ¬ a < b := fun a b ha hb hlt => by
    have h1 := hb.2.2 a hlt
    rcases ha.2.1 with e | e
    · have := hb.1; omega
    · rw [h1] at e; cases e
  have := key m m' h h'
  have := key m' m h' h
  omega
theorem getK_1 {kd : Int} (e : kd = 1) (R : List Int) (k' : Nat) (bad' : Bool) (r' : Rec) : GetK kd R k' bad' r' = Glocal R 9 false kd (nmAt R 0) k' bad' r' := by
  unfold GetK; rw [if_pos e]
theorem getK_2 {kd : Int} (e : kd = 2) (R : List Int) (k' : Nat) (bad' : Bool) (r' : Rec) : GetK kd R k' bad' r' = Gprep R 9 false kd (nmAt R 0) k' bad' r' := by
  unfold GetK; rw [if_neg (by omega)]; rw [if_pos e]
theorem getK_3 {kd : Int} (e : kd = 3) (R : List Int) (k' : Nat) (bad' : Bool) (r' : Rec) : GetK kd R k' bad' r' = Gout R 9 false kd (nmAt R 0) k' bad' r' := by
  unfold GetK; rw [if_neg (by omega)]; rw [if_neg (by omega)]; rw [if_pos e]
theorem getK_4 {kd : Int} (e : kd = 4) (R : List Int) (k' : Nat) (bad' : Bool) (r' : Rec) : GetK kd R k' bad' r' = Gcommit R 9 false kd (nmAt R 0) k' bad' r' := by
  unfold GetK; rw [if_neg (by omega)]; rw [if_neg (by omega)]; rw [if_neg (by omega)]; rw [if_pos e]
theorem getK_5 {kd : Int} (e : kd = 5) (R : List Int) (k' : Nat) (bad' : Bool) (r' : Rec) : GetK kd R k' bad' r' = Gend R 9 false kd (nmAt R 0) k' bad' r' := by
  unfold GetK; rw [if_neg (by omega)]; rw [if_neg (by omega)]; rw [if_neg (by omega)]; rw [if_neg (by omega)]; rw [if_pos e]
theorem getK_6 {kd : Int} (e : 6 ≤ kd) (R : List Int) (k' : Nat) (bad' : Bool) (r' : Rec) : GetK kd R k' bad' r' = Gnum R 0 false kd ⟨0, 0, 0⟩ k' bad' r' := by
  unfold GetK; rw [if_neg (by omega)]; rw [if_neg (by omega)]; rw [if_neg (by omega)]; rw [if_neg (by omega)]; rw [if_neg (by omega)]
theorem GetK.uniq {kd : Int} (hk : 1 ≤ kd ∧ kd ≤ 7) {R : List Int} {k1 k2 : Nat} {b1 b2 : Bool} {r1 r2 : Rec} (h : GetK kd R k1 b1 r1) (g : GetK kd R k2 b2 r2) : k1 = k2 ∧ b1 = b2 ∧ r1 = r2 := by
  have hc : kd = 1 ∨ kd = 2 ∨ kd = 3 ∨ kd = 4 ∨ kd = 5 ∨ 6 ≤ kd := by omega
  rcases hc with e | e | e | e | e | e
  · rw [getK_1 e] at h g
    obtain ⟨m, hm, rfl, rfl, rfl⟩ := h
    obtain ⟨m', hm', rfl, rfl, rfl⟩ := g
    obtain rfl := hm.uniq hm'
    exact ⟨rfl, rfl, rfl⟩
  · rw [getK_2 e] at h g
    obtain ⟨m, hm, rfl, rfl, rfl⟩ := h
    obtain ⟨m', hm', rfl, rfl, rfl⟩ := g
    obtain rfl := hm.uniq hm'
    exact ⟨rfl, rfl, rfl⟩
  · rw [getK_3 e] at h g
    obtain ⟨rfl, rfl, rfl⟩ := h
    obtain ⟨rfl, rfl, rfl⟩ := g
    exact ⟨rfl, rfl, rfl⟩
  · rw [getK_4 e] at h g
    obtain ⟨rfl, rfl, rfl⟩ := h
    obtain ⟨rfl, rfl, rfl⟩ := g
    exact ⟨rfl, rfl, rfl⟩
  · rw [getK_5 e] at h g
    obtain ⟨rfl, rfl, rfl⟩ := h
    obtain ⟨rfl, rfl, rfl⟩ := g
    exact ⟨rfl, rfl, rfl⟩
  · rw [getK_6 e] at h g
    obtain ⟨rfl, rfl, rfl⟩ := h
    obtain ⟨rfl, rfl, rfl⟩ := g
    exact ⟨rfl, rfl, rfl⟩
theorem recW0 {r : Rec} (h : r.n = 0) : RecW r := fun j hj => by omega
theorem reads_ok {R : List Int} (hR : Bys R) {k : Nat} {m : Nat} (hm : Reads R false (k + 1) (R.getD k 0).toNat m) : m ≤ 1000 := by
  have := hm.1
  have := hR.getD k
  omega
theorem gotLocal {R : List Int} (hR : Bys R) {k : Nat} {kd : Int} {nm : Nm} {k' : Nat} {bad' : Bool} {r' : Rec} (h : Glocal R k false kd nm k' bad' r') : GotOK r' kd := by
  obtain ⟨m, hm, rfl, rfl, rfl⟩ := h
  exact ⟨reads_ok hR hm, fun j hj i hi => hR.getD _, rfl⟩
theorem gotPrep {R : List Int} (hR : Bys R) {k : Nat} {kd : Int} {nm : Nm} {k' : Nat} {bad' : Bool} {r' : Rec} (h : Gprep R k false kd nm k' bad' r') : GotOK r' kd := by
  obtain ⟨m, hm, rfl, rfl, rfl⟩ := h
  exact ⟨reads_ok hR hm, fun j hj i hi => hR.getD _, rfl⟩
theorem gotOut {R : List Int} (hR : Bys R) {k : Nat} {kd : Int} {nm : Nm} {k' : Nat} {bad' : Bool} {r' : Rec} (h : Gout R k false kd nm k' bad' r') : GotOK r' kd := by
  obtain ⟨rfl, rfl, rfl⟩ := h
  exact ⟨Nat.zero_le _, recW0 rfl, rfl⟩
theorem gotCommit {R : List Int} (hR : Bys R) {k : Nat} {kd : Int} {nm : Nm} {k' : Nat} {bad' : Bool} {r' : Rec} (h : Gcommit R k false kd nm k' bad' r') : GotOK r' kd := by
  obtain ⟨rfl, rfl, rfl⟩ := h
  exact ⟨Nat.zero_le _, recW0 rfl, rfl⟩
theorem gotEnd {R : List Int} (hR : Bys R) {k : Nat} {kd : Int} {nm : Nm} {k' : Nat} {bad' : Bool} {r' : Rec} (h : Gend R k false kd nm k' bad' r') : GotOK r' kd := by
  obtain ⟨rfl, rfl, rfl⟩ := h
  exact ⟨Nat.zero_le _, recW0 rfl, rfl⟩
theorem gotNum {R : List Int} (hR : Bys R) {k : Nat} {kd : Int} {nm : Nm} {k' : Nat} {bad' : Bool} {r' : Rec} (h : Gnum R k false kd nm k' bad' r') : GotOK r' kd := by
  obtain ⟨rfl, rfl, rfl⟩ := h
  exact ⟨Nat.zero_le _, recW0 rfl, rfl⟩
theorem GetK.ok {kd : Int} (hk : 1 ≤ kd ∧ kd ≤ 7) {R : List Int} (hR : Bys R) {k' : Nat} {bad' : Bool} {r' : Rec} (h : GetK kd R k' bad' r') : GotOK r' kd := by
  have hc : kd = 1 ∨ kd = 2 ∨ kd = 3 ∨ kd = 4 ∨ kd = 5 ∨ 6 ≤ kd := by omega
  rcases hc with e | e | e | e | e | e
  · rw [getK_1 e] at h; exact gotLocal hR h
  · rw [getK_2 e] at h; exact gotPrep hR h
  · rw [getK_3 e] at h; exact gotOut hR h
  · rw [getK_4 e] at h; exact gotCommit hR h
  · rw [getK_5 e] at h; exact gotEnd hR h
  · rw [getK_6 e] at h; exact gotNum hR h
/-- What Read hands back. -/
def ReadV (B : List Int) (v : VV) (h : List Blk) : Prop := ∃ r e co, (Good B r ∧ e = 0 ∨ (∀ r', ¬ Good B r') ∧ r = zr ∧ e = 40) ∧
  v = .tup [.agg (recC r (.slice 1 r.n co)), .int .i64 e] ∧ h = [rw B, .own 89 9 r.n co fun j => wrC (r.w j)]
theorem read_nil (cap : Nat) : VCall Try.prog 15 [.slice 0 ([] : List Int).length cap] [rw []] (ReadV []) := by
  have hno : ∀ r', ¬ Good [] r' := fun r' ⟨x, R, k', e, _⟩ => by cases e
  unfold ReadV rw
  refine VC.out ?_
  refine wbody Try.func15 rfl (by kernel_rfl) ?_
  rw [Try.ntmps15, Try.results15]
  simp (implicitDefEqProofs := false) (maxSteps := 1000000) only [rX1, bd, bdL, bdB, bdH, bdT, front, VLe, VLeL, BLe, Phan, TLe, HLe, ro, Blk.owned, CLe, rr, given, mrg, exct, shr, ren, renL, renB, Nat.reduceBEq, Nat.reduceBNe, rX0, ofVal, ofVals, cellsV, vStore.isTup, eqL, eqV, Blk.deg, oneV, elApp, Nat.reduceAdd, Nat.reduceSub, Nat.reduceMul, Nat.reduceLT, Nat.reduceLeDiff, Nat.reduceEqDiff, Int.reduceToNat, Int.reduceGT, Int.reduceGE, Int.reduceMul, Int.reduceLT, Int.reduceLE, Int.reduceAdd, Int.reduceSub, Int.reduceNeg, reduceCtorEq, Sf.T3, Sf.T4, Sf.T24, Sf.T26, Sf.T5, Sf.T22, Sf.T27, Sf.T89, Sf.T139, Sf.T74, Sf.T29, Sf.T31, Sf.T75, Sf.T76, Sf.T77, Sf.T79, Sf.T70, nmC, nmV, rBE, wr, ow, wrC, recC, rc, fmN, fmM, rd, rw, xc, rk, zr, recC]
  exact ⟨_, _, Le.off [some 0, none] (by rfl) (by rfl) (by simp only [rX2, bd, bdL, bdB, bdH, bdT, front, VLe, VLeL, BLe, Phan, TLe, HLe, ro, Blk.owned, CLe, rr, given, mrg, exct, shr, ren, renL, renB, Nat.reduceAdd, Nat.reduceSub, Nat.reduceLT, Nat.reduceLeDiff, Nat.reduceEqDiff, Nat.reduceBEq, Nat.reduceBNe, reduceCtorEq, nmC, nmV, rBE, wr, ow, wrC, recC, rc, fmN, fmM, rd, rw, xc, rk, zr, recC]), zr, 40, 0, .inr ⟨hno, rfl, rfl⟩, rfl, rfl⟩
theorem read_great (x : Int) (R : List Int) (cap : Nat) (hx : 128 ≤ x) : VCall Try.prog 15 [.slice 0 (x :: R).length cap] [rw (x :: R)] (ReadV (x :: R)) := by
  have hno : ∀ r', ¬ Good (x :: R) r' := fun r' ⟨y, R', k', e, h1, h2, _⟩ => by injection e with e1 e2; omega
  unfold ReadV rw
  refine VC.out ?_
  refine wbody Try.func15 rfl (by kernel_rfl) ?_
  rw [Try.ntmps15, Try.results15]
  simp (implicitDefEqProofs := false) (maxSteps := 1000000) only [rX1, bd, bdL, bdB, bdH, bdT, front, VLe, VLeL, BLe, Phan, TLe, HLe, ro, Blk.owned, CLe, rr, given, mrg, exct, shr, ren, renL, renB, Nat.reduceBEq, Nat.reduceBNe, rX0, ofVal, ofVals, cellsV, vStore.isTup, eqL, eqV, Blk.deg, oneV, elApp, Nat.reduceAdd, Nat.reduceSub, Nat.reduceMul, Nat.reduceLT, Nat.reduceLeDiff, Nat.reduceEqDiff, Int.reduceToNat, Int.reduceGT, Int.reduceGE, Int.reduceMul, Int.reduceLT, Int.reduceLE, Int.reduceAdd, Int.reduceSub, Int.reduceNeg, reduceCtorEq, Sf.T3, Sf.T4, Sf.T24, Sf.T26, Sf.T5, Sf.T22, Sf.T27, Sf.T89, Sf.T139, Sf.T74, Sf.T29, Sf.T31, Sf.T75, Sf.T76, Sf.T77, Sf.T79, Sf.T70, nmC, nmV, rBE, wr, ow, wrC, recC, rc, fmN, fmM, rd, rw, xc, rk, zr, recC]
  refine ⟨fun h => by omega, fun _ => ⟨by omega, by omega, by omega, fun h => ?_, fun h => ?_⟩⟩
  · exact ⟨_, _, Le.off [some 0, none] (by rfl) (by rfl) (by simp only [rX2, bd, bdL, bdB, bdH, bdT, front, VLe, VLeL, BLe, Phan, TLe, HLe, ro, Blk.owned, CLe, rr, given, mrg, exct, shr, ren, renL, renB, Nat.reduceAdd, Nat.reduceSub, Nat.reduceLT, Nat.reduceLeDiff, Nat.reduceEqDiff, Nat.reduceBEq, Nat.reduceBNe, reduceCtorEq, nmC, nmV, rBE, wr, ow, wrC, recC, rc, fmN, fmM, rd, rw, xc, rk, zr, recC]), zr, 40, 0, .inr ⟨hno, rfl, rfl⟩, rfl, rfl⟩
  · rw [List.getD_cons_zero] at h; omega
theorem read_none (x : Int) (R : List Int) (cap : Nat) (hx : 0 ≤ x ∧ x ≤ 127) (hk : x ≤ 0 ∨ 8 ≤ x) : VCall Try.prog 15 [.slice 0 (x :: R).length cap] [rw (x :: R)] (ReadV (x :: R)) := by
  have hno : ∀ r', ¬ Good (x :: R) r' := fun r' ⟨y, R', k', e, h1, h2, _⟩ => by injection e with e1 e2; omega
  have hw : IntKind.i8.wrap x = x := IntWalk.i8_in _ (by omega)
  have hof := of_none x hk (IntWalk.i64_in _ (by omega))
  unfold ReadV rw
  refine VC.out ?_
  refine wbody Try.func15 rfl (by kernel_rfl) ?_
  rw [Try.ntmps15, Try.results15]
  simp (implicitDefEqProofs := false) (maxSteps := 1000000) only [rX1, bd, bdL, bdB, bdH, bdT, front, VLe, VLeL, BLe, Phan, TLe, HLe, ro, Blk.owned, CLe, rr, given, mrg, exct, shr, ren, renL, renB, Nat.reduceBEq, Nat.reduceBNe, rX0, ofVal, ofVals, cellsV, vStore.isTup, eqL, eqV, Blk.deg, oneV, elApp, Nat.reduceAdd, Nat.reduceSub, Nat.reduceMul, Nat.reduceLT, Nat.reduceLeDiff, Nat.reduceEqDiff, Int.reduceToNat, Int.reduceGT, Int.reduceGE, Int.reduceMul, Int.reduceLT, Int.reduceLE, Int.reduceAdd, Int.reduceSub, Int.reduceNeg, reduceCtorEq, Sf.T3, Sf.T4, Sf.T24, Sf.T26, Sf.T5, Sf.T22, Sf.T27, Sf.T89, Sf.T139, Sf.T74, Sf.T29, Sf.T31, Sf.T75, Sf.T76, Sf.T77, Sf.T79, Sf.T70, nmC, nmV, rBE, wr, ow, wrC, recC, rc, fmN, fmM, rd, rw, xc, rk, zr, recC]
  refine ⟨fun h => by omega, fun _ => ⟨by omega, by omega, by omega, fun h => ?_, fun _ => ?_⟩⟩
  · rw [List.getD_cons_zero] at h; omega
  simp only [List.getD_cons_zero, hw]
  refine ⟨by omega, by omega, by omega, ?_⟩
  refine vframe (hof) [] (by rfl) (by simp only [rX2, bd, bdL, bdB, bdH, bdT, front, VLe, VLeL, BLe, Phan, TLe, HLe, ro, Blk.owned, CLe, rr, given, mrg, exct, shr, ren, renL, renB, Nat.reduceAdd, Nat.reduceSub, Nat.reduceLT, Nat.reduceLeDiff, Nat.reduceEqDiff, Nat.reduceBEq, Nat.reduceBNe, reduceCtorEq, nmC, nmV, rBE, wr, ow, wrC, recC, rc, fmN, fmM, rd, rw, xc, rk, zr, recC]) ?_
  rintro v h ⟨rfl, rfl⟩ -
  simp (implicitDefEqProofs := false) (maxSteps := 1000000) only [rX2, bd, bdL, bdB, bdH, bdT, front, VLe, VLeL, BLe, Phan, TLe, HLe, ro, Blk.owned, CLe, rr, given, mrg, exct, shr, ren, renL, renB, Nat.reduceAdd, Nat.reduceSub, Nat.reduceLT, Nat.reduceLeDiff, Nat.reduceEqDiff, Nat.reduceBEq, Nat.reduceBNe, reduceCtorEq, nmC, nmV, rBE, wr, ow, wrC, recC, rc, fmN, fmM, rd, rw, xc, rk, zr, recC, rX0, ofVal, ofVals, cellsV, vStore.isTup, eqL, eqV, Blk.deg, oneV, elApp, Nat.reduceAdd, Nat.reduceSub, Nat.reduceMul, Nat.reduceLT, Nat.reduceLeDiff, Nat.reduceEqDiff, Int.reduceToNat, Int.reduceGT, Int.reduceGE, Int.reduceMul, Int.reduceLT, Int.reduceLE, Int.reduceAdd, Int.reduceSub, Int.reduceNeg, reduceCtorEq, Sf.T3, Sf.T4, Sf.T24, Sf.T26, Sf.T5, Sf.T22, Sf.T27, Sf.T89, Sf.T139, Sf.T74, Sf.T29, Sf.T31, Sf.T75, Sf.T76, Sf.T77, Sf.T79, Sf.T70, nmC, nmV, rBE, wr, ow, wrC, recC, rc, fmN, fmM, rd, rw, xc, rk, zr, recC]
  exact ⟨_, _, Le.off [some 0, none] (by rfl) (by rfl) (by simp only [rX2, bd, bdL, bdB, bdH, bdT, front, VLe, VLeL, BLe, Phan, TLe, HLe, ro, Blk.owned, CLe, rr, given, mrg, exct, shr, ren, renL, renB, Nat.reduceAdd, Nat.reduceSub, Nat.reduceLT, Nat.reduceLeDiff, Nat.reduceEqDiff, Nat.reduceBEq, Nat.reduceBNe, reduceCtorEq, nmC, nmV, rBE, wr, ow, wrC, recC, rc, fmN, fmM, rd, rw, xc, rk, zr, recC]), zr, 40, 0, .inr ⟨hno, rfl, rfl⟩, rfl, rfl⟩
theorem read_fin {x : Int} {R : List Int} (hx : 1 ≤ x ∧ x ≤ 7) {v : VV} {h : List Blk} (hh : ∃ k' bad' r' r'' e co, GetK x R k' bad' r' ∧ (bad' = false ∧ R.length ≤ k' ∧ MayR r' ∧ r'' = r' ∧ e = 0 ∨ ¬ (bad' = false ∧ R.length ≤ k' ∧ MayR r') ∧ r'' = zr ∧ e = 40) ∧
        v = .tup [.agg (recC r'' (.slice 1 r''.n co)), .int .i64 e] ∧ h = [rw (x :: R), .own 89 9 r''.n co fun j => wrC (r''.w j)]) : ReadV (x :: R) v h := by
  obtain ⟨k', bad', r', r'', e, co, hg, hc, hv, hh⟩ := hh
  refine ⟨r'', e, co, ?_, hv, hh⟩
  rcases hc with ⟨rfl, h1, h2, rfl, rfl⟩ | ⟨h1, rfl, rfl⟩
  · exact .inl ⟨⟨x, R, k', rfl, hx.1, hx.2, hg, h1, h2⟩, rfl⟩
  · refine .inr ⟨fun s ⟨y, S, k2, e, _, _, g1, g2, g3⟩ => ?_, rfl, rfl⟩
    injection e with e1 e2
    subst e1; subst e2
    obtain ⟨rfl, rfl, rfl⟩ := GetK.uniq hx hg g1
    exact h1 ⟨rfl, g2, g3⟩
theorem read_ok (B : List Int) (cap : Nat) (hB : Bys B) (hl : B.length ≤ 1000) (hc : B.length ≤ cap) : VCall Try.prog 15 [.slice 0 B.length cap] [rw B] (ReadV B) := by
  cases B with
  | nil => exact read_nil cap
  | cons x R =>
    have hR : Bys R := hB.tail
    have hx : 0 ≤ x ∧ x ≤ 255 := hB x (by simp)
    simp only [List.length_cons] at hl hc
    by_cases c1 : 128 ≤ x
    · exact read_great x R cap c1
    by_cases c2 : x ≤ 0 ∨ 8 ≤ x
    · exact read_none x R cap (by omega) c2
    have hx7 : 1 ≤ x ∧ x ≤ 7 := by omega
    have hc' : x = 1 ∨ x = 2 ∨ x = 3 ∨ x = 4 ∨ x = 5 ∨ x = 6 ∨ x = 7 := by omega
    rcases hc' with e | e | e | e | e | e | e
    · refine (read_named _ _ _ _ glocal_ok x R cap (by omega) hR (by omega) hc (by rw [e]; exact of_1) fun k' bad' r' hg => gotLocal hR hg).mono fun v h hh => read_fin hx7 ?_
      obtain ⟨k', bad', r', r'', e2, co, hg, hrest⟩ := hh
      exact ⟨k', bad', r', r'', e2, co, by rw [getK_1 e]; exact hg, hrest⟩
    · refine (read_named _ _ _ _ gprep_ok x R cap (by omega) hR (by omega) hc (by rw [e]; exact of_2) fun k' bad' r' hg => gotPrep hR hg).mono fun v h hh => read_fin hx7 ?_
      obtain ⟨k', bad', r', r'', e2, co, hg, hrest⟩ := hh
      exact ⟨k', bad', r', r'', e2, co, by rw [getK_2 e]; exact hg, hrest⟩
    · refine (read_named _ _ _ _ gout_ok x R cap (by omega) hR (by omega) hc (by rw [e]; exact of_3) fun k' bad' r' hg => gotOut hR hg).mono fun v h hh => read_fin hx7 ?_
      obtain ⟨k', bad', r', r'', e2, co, hg, hrest⟩ := hh
      exact ⟨k', bad', r', r'', e2, co, by rw [getK_3 e]; exact hg, hrest⟩
    · refine (read_named _ _ _ _ gcommit_ok x R cap (by omega) hR (by omega) hc (by rw [e]; exact of_4) fun k' bad' r' hg => gotCommit hR hg).mono fun v h hh => read_fin hx7 ?_
      obtain ⟨k', bad', r', r'', e2, co, hg, hrest⟩ := hh
      exact ⟨k', bad', r', r'', e2, co, by rw [getK_4 e]; exact hg, hrest⟩
    · refine (read_named _ _ _ _ gend_ok x R cap (by omega) hR (by omega) hc (by rw [e]; exact of_5) fun k' bad' r' hg => gotEnd hR hg).mono fun v h hh => read_fin hx7 ?_
      obtain ⟨k', bad', r', r'', e2, co, hg, hrest⟩ := hh
      exact ⟨k', bad', r', r'', e2, co, by rw [getK_5 e]; exact hg, hrest⟩
    · refine (read_num 1048577 x R cap (by omega) hR (by omega) hc (by rw [e]; exact of_6) fun k' bad' r' hg => gotNum hR hg).mono fun v h hh => read_fin hx7 ?_
      obtain ⟨k', bad', r', r'', e2, co, hg, hrest⟩ := hh
      exact ⟨k', bad', r', r'', e2, co, by rw [getK_6 (by omega)]; exact hg, hrest⟩
    · refine (read_num 1048576 x R cap (by omega) hR (by omega) hc (by rw [e]; exact of_7) fun k' bad' r' hg => gotNum hR hg).mono fun v h hh => read_fin hx7 ?_
      obtain ⟨k', bad', r', r'', e2, co, hg, hrest⟩ := hh
      exact ⟨k', bad', r', r'', e2, co, by rw [getK_6 (by omega)]; exact hg, hrest⟩
theorem Good.ok {B : List Int} {r : Rec} (hB : Bys B) (h : Good B r) : r.n ≤ 1000 ∧ RecW r ∧ 1 ≤ r.k ∧ r.k ≤ 7 := by
  obtain ⟨x, R, k', rfl, h1, h2, hg, _⟩ := h
  obtain ⟨a, b, c⟩ := GetK.ok ⟨h1, h2⟩ hB.tail hg
  exact ⟨a, b, by omega, by omega⟩
theorem Good.uniq {B : List Int} {r r' : Rec} (h : Good B r) (h' : Good B r') : r = r' := by
  obtain ⟨x, R, k', rfl, h1, h2, hg, _⟩ := h
  obtain ⟨x', R', k'', e, _, _, hg', _⟩ := h'
  injection e with e1 e2
  subst e1; subst e2
  exact (GetK.uniq ⟨h1, h2⟩ hg hg').2.2
end Go.Proofs.Ytnlammgemaapnaa
