/- The plain law behind AgeOrder. -/
import Derived.Test.YtjknlacpniehfaaWF
set_option linter.unusedSimpArgs false
set_option linter.unusedVariables false
namespace Go.Proofs.Ytjknlacpniehfaa
open Go Go.Sx
theorem ltN_irrefl (x : Nm) : ¬ ltN x x := by unfold ltN; omega
theorem ltN_trans {x y z : Nm} (h : ltN x y) (k : ltN y z) : ltN x z := by unfold ltN at *; omega
theorem ltN_tri {x y : Nm} (h : ¬ ltN x y) : ltN y x ∨ x = y := by
  by_cases e : x = y
  · exact .inr e
  · refine .inl ?_
    unfold ltN at *
    have : x.a ≠ y.a ∨ x.b ≠ y.b ∨ x.c ≠ y.c := by
      cases x; cases y
      simp only [Nm.mk.injEq] at e
      simp only []
      omega
    omega
/-! The oldest. -/
theorem oldAt_snd (f : Nat → Nm) : ∀ n, (oldAt f n).2 = decide (0 < n)
  | 0 => rfl
  | n + 1 => by simp [oldAt]
theorem oldAt_min (f : Nat → Nm) : ∀ n j, j < n → ¬ ltN (f j) (oldAt f n).1
  | 0, j, hj => by omega
  | n + 1, j, hj => by
    have ih := oldAt_min f n
    have hs := oldAt_snd f n
    simp only [oldAt]
    split
    · rename_i ht
      by_cases hjn : j = n
      · subst hjn; exact ltN_irrefl _
      · intro hl
        rcases ht with ht | ht
        · rw [hs] at ht
          have := of_decide_eq_false ht
          omega
        · exact ih j (by omega) (ltN_trans hl ht)
    · rename_i ht
      by_cases hjn : j = n
      · subst hjn
        exact fun hl => ht (.inr hl)
      · exact ih j (by omega)
theorem oldAt_stamp (f : Nat → Nm) (n j : Nat) (hj : j < n) : ¬ (f j).a < (oldAt f n).1.a := fun h => oldAt_min f n j hj (.inl h)
/-! The sorted row. -/
def Sor (L : List Nm) : Prop := L.Pairwise fun x y => ¬ ltN y x
theorem pos_spec (x : Nm) (L : List Nm) : ∀ k, k ≤ L.length → Sor L → (∀ j, k ≤ j → j < L.length → ltN x (lk L j)) →
    (∀ j, j < pos x L k → ¬ ltN x (lk L j)) ∧ ∀ j, pos x L k ≤ j → j < L.length → ltN x (lk L j)
  | 0, _, _, h => ⟨fun j hj => by simp [pos] at hj, by simpa [pos] using h⟩
  | k + 1, hk, hs, h => by
    unfold pos
    split
    · rename_i hl
      refine pos_spec x L k (by omega) hs fun j hj hj2 => ?_
      by_cases e : j = k
      · subst e; exact hl
      · exact h j (by omega) hj2
    · rename_i hl
      refine ⟨fun j hj => ?_, h⟩
      by_cases e : j = k
      · subst e; exact hl
      · intro hx
        have hjk : j < k := by omega
        have hp := List.pairwise_iff_getElem.1 hs j k (by omega) (by omega) hjk
        have e1 : lk L j = L[j]'(by omega) := by simp [lk, show j < L.length by omega]
        have e2 : lk L k = L[k]'(by omega) := by simp [lk, show k < L.length by omega]
        rw [e1] at hx
        rw [e2] at hl
        rcases ltN_tri hp with h1 | h1
        · exact hl (ltN_trans hx h1)
        · exact hl (h1 ▸ hx)
theorem insA_sor (x : Nm) (L : List Nm) (hs : Sor L) : Sor (insA x L) := by
  obtain ⟨h1, h2⟩ := pos_spec x L L.length (Nat.le_refl _) hs (fun j hj hj2 => by omega)
  have hp := pos_le x L L.length
  unfold insA Sor
  generalize pos x L L.length = p at h1 h2 hp
  have hsplit : L.take p ++ L.drop p = L := List.take_append_drop p L
  have hs' : Sor (L.take p ++ L.drop p) := by rw [hsplit]; exact hs
  have hs' := List.pairwise_append.1 hs'
  refine List.pairwise_append.2 ⟨hs'.1, List.pairwise_cons.2 ⟨fun y hy => ?_, hs'.2.1⟩, fun y hy z hz => ?_⟩
  · obtain ⟨j, hj, rfl⟩ := List.mem_iff_getElem.1 hy
    simp only [List.length_drop] at hj
    have := h2 (p + j) (by omega) (by omega)
    rw [show lk L (p + j) = (L.drop p)[j]'(by simp; omega) by simp [lk, show p + j < L.length by omega]] at this
    exact fun h => ltN_irrefl _ (ltN_trans this h)
  · rcases List.mem_cons.1 hz with rfl | hz
    · obtain ⟨j, hj, rfl⟩ := List.mem_iff_getElem.1 hy
      simp only [List.length_take] at hj
      have := h1 j (by omega)
      rw [show lk L j = (L.take p)[j]'(by simp; omega) by simp [lk, show j < L.length by omega]] at this
      exact this
    · exact hs'.2.2 y hy z hz
theorem sortAt_sor (f : Nat → Nm) : ∀ n, Sor (sortAt f n)
  | 0 => List.Pairwise.nil
  | n + 1 => insA_sor _ _ (sortAt_sor f n)
theorem insA_mem (x y : Nm) (L : List Nm) : y ∈ insA x L ↔ y = x ∨ y ∈ L := by
  unfold insA
  generalize pos x L L.length = p
  have e : y ∈ L ↔ y ∈ L.take p ∨ y ∈ L.drop p := by rw [← List.mem_append, List.take_append_drop]
  rw [e]
  simp only [List.mem_append, List.mem_cons]
  constructor
  · rintro (h | h | h)
    · exact .inr (.inl h)
    · exact .inl h
    · exact .inr (.inr h)
  · rintro (h | h | h)
    · exact .inr (.inl h)
    · exact .inl h
    · exact .inr (.inr h)
theorem sortAt_mem (f : Nat → Nm) (y : Nm) : ∀ n, y ∈ sortAt f n ↔ ∃ j, j < n ∧ f j = y
  | 0 => by simp [sortAt]
  | n + 1 => by
    rw [sortAt, insA_mem, sortAt_mem f y n]
    constructor
    · rintro (h | ⟨j, h1, h2⟩)
      · exact ⟨n, by omega, h.symm⟩
      · exact ⟨j, by omega, h2⟩
    · rintro ⟨j, h1, h2⟩
      by_cases e : j = n
      · subst e; exact .inl h2.symm
      · exact .inr ⟨j, by omega, h2⟩
/-! Each once. -/
theorem dd_mem (S : List Nm) (y : Nm) : ∀ i, i ≤ S.length → (y ∈ dd S i ↔ ∃ j, j < i ∧ lk S j = y)
  | 0, _ => by simp [dd]
  | i + 1, hi => by
    have ih := dd_mem S y i (by omega)
    have key : y ∈ dd S (i + 1) ↔ y ∈ dd S i ∨ lk S i = y := by
      rw [show dd S (i + 1) = if lk S i ∈ dd S i then dd S i else dd S i ++ [lk S i] from rfl]
      split
      · rename_i h
        exact ⟨.inl, fun h' => h'.elim id fun e => e ▸ h⟩
      · simp [eq_comm]
    rw [key, ih]
    constructor
    · rintro (⟨j, h1, h2⟩ | h)
      · exact ⟨j, by omega, h2⟩
      · exact ⟨i, by omega, h⟩
    · rintro ⟨j, h1, h2⟩
      by_cases e : j = i
      · subst e; exact .inr h2
      · exact .inl ⟨j, by omega, h2⟩
theorem dd_rise (S : List Nm) (hs : Sor S) : ∀ i, i ≤ S.length → (dd S i).Pairwise ltN
  | 0, _ => List.Pairwise.nil
  | i + 1, hi => by
    have ih := dd_rise S hs i (by omega)
    unfold dd
    split
    · exact ih
    · rename_i hx
      refine List.pairwise_append.2 ⟨ih, List.pairwise_singleton _ _, fun y hy z hz => ?_⟩
      obtain rfl := List.mem_singleton.1 hz
      obtain ⟨j, hj, rfl⟩ := (dd_mem S y i (by omega)).1 hy
      have hp := List.pairwise_iff_getElem.1 hs j i (by omega) (by omega) hj
      have e1 : lk S j = S[j]'(by omega) := by simp [lk, show j < S.length by omega]
      have e2 : lk S i = S[i]'(by omega) := by simp [lk, show i < S.length by omega]
      rcases ltN_tri hp with h | h
      · rw [e1, e2]; exact h
      · exact (hx (by rw [e2, h, ← e1]; exact hy)).elim
/-- What age.Sort hands back. -/
def sorted1 (f : Nat → Nm) (n : Nat) : List Nm := dd (sortAt f n) n
theorem sorted1_rise (f : Nat → Nm) (n : Nat) : (sorted1 f n).Pairwise ltN := dd_rise _ (sortAt_sor f n) n (by rw [sortAt_length]; exact Nat.le_refl _)
theorem sorted1_mem (f : Nat → Nm) (n : Nat) (j : Nat) (hj : j < n) : f j ∈ sorted1 f n := by
  refine (dd_mem _ _ n (by rw [sortAt_length]; exact Nat.le_refl _)).2 ?_
  have := (sortAt_mem f (f j) n).2 ⟨j, hj, rfl⟩
  obtain ⟨k, hk, he⟩ := mem_lk _ _ this
  exact ⟨k, by rw [sortAt_length] at hk; exact hk, he⟩
/-- How many of the first k are x. -/
def cnt (L : List Nm) (x : Nm) : Nat → Nat
  | 0 => 0
  | k + 1 => if lk L k = x then cnt L x k + 1 else cnt L x k
theorem cnt_le (L : List Nm) (x : Nm) : ∀ k, cnt L x k ≤ k
  | 0 => Nat.le_refl _
  | k + 1 => by
    have := cnt_le L x k
    unfold cnt
    split <;> omega
theorem cnt_zero (L : List Nm) (x : Nm) : ∀ k, (∀ j, j < k → lk L j ≠ x) → cnt L x k = 0
  | 0, _ => rfl
  | k + 1, h => by
    unfold cnt
    rw [if_neg (h k (by omega)), cnt_zero L x k fun j hj => h j (by omega)]
theorem cnt_one (L : List Nm) (x : Nm) (q : Nat) (hq : lk L q = x) (hu : ∀ j, j < L.length → lk L j = x → j = q) : ∀ k, k ≤ L.length → cnt L x k = if q < k then 1 else 0
  | 0, _ => by simp [cnt]
  | k + 1, hk => by
    unfold cnt
    rw [cnt_one L x q hq hu k (by omega)]
    by_cases h : lk L k = x
    · have := hu k (by omega) h
      subst this
      simp [h]
    · have : q ≠ k := fun e => h (e ▸ hq)
      rw [if_neg h]
      by_cases h2 : q < k
      · rw [if_pos h2, if_pos (by omega)]
      · rw [if_neg h2, if_neg (by omega)]
theorem cnt_sorted (f : Nat → Nm) (n j : Nat) (hj : j < n) : cnt (sorted1 f n) (f j) (sorted1 f n).length = 1 := by
  obtain ⟨q, hq, he⟩ := mem_lk _ _ (sorted1_mem f n j hj)
  rw [cnt_one (sorted1 f n) (f j) q he (fun i hi hx => ?_) _ (Nat.le_refl _), if_pos hq]
  have hr := List.pairwise_iff_getElem.1 (sorted1_rise f n)
  have e1 : lk (sorted1 f n) i = (sorted1 f n)[i]'hi := by simp [lk, hi]
  have e2 : lk (sorted1 f n) q = (sorted1 f n)[q]'hq := by simp [lk, hq]
  rcases Nat.lt_trichotomy i q with h | h | h
  · have := hr i q hi hq h
    rw [← e1, ← e2, hx, he] at this
    exact (ltN_irrefl _ this).elim
  · exact h
  · have := hr q i hq hi h
    rw [← e1, ← e2, hx, he] at this
    exact (ltN_irrefl _ this).elim
end Go.Proofs.Ytjknlacpniehfaa
