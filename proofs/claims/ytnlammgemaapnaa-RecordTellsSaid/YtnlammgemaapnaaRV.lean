/- Layer 7: a record's bytes read as it. In plain Lean. -/
import Derived.Test.YtnlammgemaapnaaRU
set_option linter.unusedSimpArgs false
set_option linter.unusedVariables false
namespace Go.Proofs.Ytnlammgemaapnaa
open Go Go.Sx
def Reach1 (X : Rec → List Int) (G : GetR) (S : Rec → Prop) : Prop := ∀ (P : List Int) (r : Rec) (kd : Int) (nm : Nm), S r → ∃ k' bad' r', G (P ++ X r) P.length false kd nm k' bad' r'
theorem reach_ws (P T : List Int) (r : Rec) (hn : r.n ≤ 8) : Reads (P ++ (u8 r.n :: wsB r.w r.n ++ T)) false (P.length + 1) ((P ++ (u8 r.n :: wsB r.w r.n ++ T)).getD P.length 0).toNat r.n := by
  have e0 : (P ++ (u8 r.n :: wsB r.w r.n ++ T)).getD P.length 0 = r.n := by
    rw [getD_app0]; exact u8_in _ (by omega)
  rw [e0, Int.toNat_natCast]
  refine ⟨Nat.le_refl _, .inl rfl, fun i hi => ?_⟩
  rw [Nat.add_assoc, lack_at]
  simp only [List.cons_append, List.length_cons, List.length_append, wsB_length]
  exact decide_eq_false (by omega)
theorem reach_local : Reach1 (fun r => u8 r.n :: wsB r.w r.n) Glocal (fun r => Written r.n r.w) := fun P r kd nm h => by
  have := reach_ws P [] r h.2
  rw [List.append_nil] at this
  exact ⟨_, _, _, r.n, this, rfl, rfl, rfl⟩
theorem reach_prep : Reach1 (fun r => (u8 r.n :: wsB r.w r.n) ++ [u8 r.give, u8 r.take]) Gprep (fun r => Written r.n r.w ∧ Gives r) := fun P r kd nm h =>
  ⟨_, _, _, r.n, reach_ws P [u8 r.give, u8 r.take] r h.1.2, rfl, rfl, rfl⟩
theorem reach_out : Reach1 (fun r => [fB r.yes]) Gout (fun _ => True) := fun P r kd nm h => ⟨_, _, _, rfl, rfl, rfl⟩
theorem reach_commit : Reach1 (fun r => [u8 r.shards, u8 (IntKind.i64.wrap (r.st + 1)), u8 r.to_]) Gcommit Commits := fun P r kd nm h => ⟨_, _, _, rfl, rfl, rfl⟩
theorem reach_end : Reach1 (fun r => []) Gend (fun _ => True) := fun P r kd nm h => ⟨_, _, _, rfl, rfl, rfl⟩
theorem MayR.kinds {r : Rec} (hM : MayR r) : r.k = 1 ∨ r.k = 2 ∨ r.k = 3 ∨ r.k = 4 ∨ r.k = 5 ∨ r.k = 6 ∨ r.k = 7 := by
  by_cases c : r.k = 1 ∨ r.k = 2 ∨ r.k = 3 ∨ r.k = 4 ∨ r.k = 5 ∨ r.k = 6 ∨ r.k = 7
  · exact c
  · have hs := hM.1
    unfold Such at hs
    rw [if_neg (by omega), if_neg (by omega), if_neg (by omega), if_neg (by omega), if_neg (by omega), if_neg (by omega), if_neg (by omega)] at hs
    exact hs.elim
theorem getK_some {r : Rec} (hM : MayR r) : ∃ k' bad' r', GetK r.k (bX r) k' bad' r' := by
  have hs := hM.1
  rcases hM.kinds with e | e | e | e | e | e | e
  · rw [such_1 r e] at hs
    obtain ⟨k', b, s, h⟩ := reach_local (nB r.nm) r r.k (nmAt (bX r) 0) hs.2
    refine ⟨k', b, s, ?_⟩
    rw [getK_1 e]; rw [bX_1 r e] at h ⊢; exact h
  · rw [such_2 r e] at hs
    obtain ⟨k', b, s, h⟩ := reach_prep (nB r.nm) r r.k (nmAt (bX r) 0) hs.2
    refine ⟨k', b, s, ?_⟩
    rw [getK_2 e]; rw [bX_2 r e] at h ⊢; exact h
  · obtain ⟨k', b, s, h⟩ := reach_out (nB r.nm) r r.k (nmAt (bX r) 0) trivial
    refine ⟨k', b, s, ?_⟩
    rw [getK_3 e]; rw [bX_3 r e] at h ⊢; exact h
  · rw [such_4 r e] at hs
    obtain ⟨k', b, s, h⟩ := reach_commit (nB r.nm) r r.k (nmAt (bX r) 0) hs.2
    refine ⟨k', b, s, ?_⟩
    rw [getK_4 e]; rw [bX_4 r e] at h ⊢; exact h
  · obtain ⟨k', b, s, h⟩ := reach_end (nB r.nm) r r.k (nmAt (bX r) 0) trivial
    refine ⟨k', b, s, ?_⟩
    rw [getK_5 e]; rw [bX_5 r e] at h ⊢; exact h
  · exact ⟨_, _, _, by rw [getK_6 (by omega)]; exact ⟨rfl, rfl, rfl⟩⟩
  · exact ⟨_, _, _, by rw [getK_6 (by omega)]; exact ⟨rfl, rfl, rfl⟩⟩
theorem Written.same {n m : Nat} {w u : Nat → Wr} (h : SameW n w m u) (hw : Written n w) : Written m u := by
  obtain ⟨rfl, h⟩ := h
  have hb : ∀ j, j < n → (u j).b = (w j).b := fun j hj => ((wEq_iff _ _).1 (h j hj)).1.symm
  refine ⟨fun j hj => ?_, hw.2⟩
  have := hw.1 j hj
  rw [hb j hj]
  cases j with
  | zero => exact this
  | succ i =>
    have e : prev u (i + 1) = prev w (i + 1) := hb i (by omega)
    rw [e]; exact this
theorem MayR.same {r s : Rec} (h : SameR r s) (hM : MayR r) : MayR s := by
  have hrs := h
  obtain ⟨hw, hk, hn, hy, hg, ht, hsh, ⟨hst, hto⟩, hnum⟩ := h
  have hs := hM.1
  have hF := hM.2
  have hG : Gives r → Gives s := fun x => by unfold Gives at *; rw [← hg, ← ht]; exact x
  have hC : Commits r → Commits s := fun x => by unfold Commits at *; rw [← hsh, ← hst, ← hto]; exact x
  have fin : SameR (flds r) (flds s) → SameR s (flds s) := fun x => (hrs.symm.trans hF).trans x
  rcases hM.kinds with e | e | e | e | e | e | e
  · rw [such_1 r e] at hs
    refine ⟨by rw [such_1 s (by omega), ← hn]; exact ⟨hs.1, hs.2.same hw⟩, fin ?_⟩
    rw [flds_1 r e, flds_1 s (by omega)]
    exact ⟨hw, hk, hn, rfl, rfl, rfl, rfl, ⟨rfl, rfl⟩, rfl⟩
  · rw [such_2 r e] at hs
    refine ⟨by rw [such_2 s (by omega), ← hn]; exact ⟨hs.1, hs.2.1.same hw, hG hs.2.2⟩, fin ?_⟩
    rw [flds_2 r e, flds_2 s (by omega)]
    exact ⟨hw, hk, hn, rfl, hg, ht, rfl, ⟨rfl, rfl⟩, rfl⟩
  · rw [such_3 r e] at hs
    refine ⟨by rw [such_3 s (by omega), ← hn]; exact ⟨hs.1, trivial⟩, fin ?_⟩
    rw [flds_3 r e, flds_3 s (by omega)]
    exact ⟨SameW.refl _ _, hk, hn, hy, rfl, rfl, rfl, ⟨rfl, rfl⟩, rfl⟩
  · rw [such_4 r e] at hs
    refine ⟨by rw [such_4 s (by omega), ← hn]; exact ⟨hs.1, hC hs.2⟩, fin ?_⟩
    rw [flds_4 r e, flds_4 s (by omega)]
    exact ⟨SameW.refl _ _, hk, hn, rfl, rfl, rfl, hsh, ⟨hst, hto⟩, rfl⟩
  · rw [such_5 r e] at hs
    refine ⟨by rw [such_5 s (by omega), ← hn]; exact ⟨hs.1, trivial⟩, fin ?_⟩
    rw [flds_5 r e, flds_5 s (by omega)]
    exact ⟨SameW.refl _ _, hk, hn, rfl, rfl, rfl, rfl, ⟨rfl, rfl⟩, rfl⟩
  · rw [such_6 r e] at hs
    refine ⟨by rw [such_6 s (by omega), ← hnum]; exact hs, fin ?_⟩
    rw [flds_6 r e, flds_6 s (by omega)]
    exact ⟨SameW.refl _ _, hk, rfl, rfl, rfl, rfl, rfl, ⟨rfl, rfl⟩, hnum⟩
  · rw [such_7 r e] at hs
    refine ⟨by rw [such_7 s (by omega), ← hnum]; exact hs, fin ?_⟩
    rw [flds_7 r e, flds_7 s (by omega)]
    exact ⟨SameW.refl _ _, hk, rfl, rfl, rfl, rfl, rfl, ⟨rfl, rfl⟩, hnum⟩
/-- A record's bytes read as it. -/
theorem MayR.good {r : Rec} (hM : MayR r) : ∃ s, Good (rB r) s ∧ SameR r s := by
  obtain ⟨k', b, s, hg⟩ := getK_some hM
  have hb := getK_back hM [] (by rw [List.append_nil]; exact hg)
  obtain ⟨e1, e2, e3⟩ := hb
  have hS : SameR r s := hM.2.trans e3
  have hk := hM.kinds
  have e0 : rB r = u8 r.k :: bX r := if_pos hM
  refine ⟨s, ⟨r.k, bX r, k', ?_, by omega, by omega, by rw [← e2]; exact hg, by omega, hM.same hS⟩, hS⟩
  rw [e0, u8_in _ (by omega)]
theorem MayR.length {r : Rec} (hM : MayR r) : 1 ≤ (rB r).length ∧ (rB r).length ≤ 90 := by
  have hs := hM.1
  have e0 : rB r = u8 r.k :: bX r := if_pos hM
  rw [e0, List.length_cons]
  rcases hM.kinds with e | e | e | e | e | e | e
  · rw [such_1 r e] at hs; rw [bX_1 r e]
    have := hs.2.2
    simp [nB_length, wsB_length]; omega
  · rw [such_2 r e] at hs; rw [bX_2 r e]
    have := hs.2.1.2
    simp [nB_length, wsB_length]; omega
  · rw [bX_3 r e]; simp [nB_length]
  · rw [bX_4 r e]; simp [nB_length]
  · rw [bX_5 r e]; simp [nB_length]
  · rw [bX_6 r e]; simp [b3_length]
  · rw [bX_7 r e]; simp [b3_length]
end Go.Proofs.Ytnlammgemaapnaa
