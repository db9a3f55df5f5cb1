/- A part of a block, looked at as a row of one. -/
import Derived.Test.YtnlammgemaapnaaSxN
set_option linter.unusedVariables false
namespace Go.Sx
open Go
variable {P : Program}
theorem Le.part {n0 : N0} {h h2 : List Blk} {l sg : List VV} (i fo sz : Nat) {o : Bool} {ty : TypeId} (hi : nth h i = some (.cells o ty l)) (hsg : seg l fo sz = sg) (hlen : sg.length = sz) (hsz : 0 < sz)
    (h2e : h2 = lset h i .gone ++ [.row sz 1 fun _ => sg]) : Le n0 ⟨[some (.ptr i 0 0 fo)], h⟩ ⟨[some (.ptr h.length 0 sz 0)], h2⟩ := by
  intro E β a w he R
  rw [nth_eq] at hi
  rw [lset_eq] at h2e
  rw [seg_eq] at hsg
  have hil : i < h.length := (List.getElem?_eq_some_iff.1 hi).1
  obtain ⟨⟨g, hg, hh⟩, hgd, h1⟩ := R.h.blk i _ hi
  have hl2 : h2.length = h.length + 1 := by rw [h2e]; simp
  let β' : Val := ⟨fun k => if k = h.length then some (g, fo) else β k, β.fz⟩
  have ext : ∀ k, k < h.length → β' k = β k := fun k hk => if_neg (by omega)
  have new : β' h.length = some (g, fo) := if_pos rfl
  have hF : FLe β.fz β'.fz := FLe.refl _
  have get : ∀ k b, h2[k]? = some b → (k < h.length ∧ ((k = i ∧ b = .gone) ∨ (k ≠ i ∧ h[k]? = some b))) ∨ (k = h.length ∧ b = .row sz 1 fun _ => sg) := fun k b hb => by
    rw [h2e] at hb
    rcases Nat.lt_or_ge k h.length with c | c
    · refine .inl ⟨c, ?_⟩
      rw [List.getElem?_append_left (by simpa using c)] at hb
      by_cases e : k = i
      · subst e
        rw [List.getElem?_set_self (by omega)] at hb
        injection hb with hb
        exact .inl ⟨rfl, hb.symm⟩
      · rw [List.getElem?_set_ne (by omega)] at hb
        exact .inr ⟨e, hb⟩
    · rw [List.getElem?_append_right (by simpa using c)] at hb
      simp only [List.length_set] at hb
      have e : k = h.length := by
        rcases Nat.eq_or_lt_of_le c with c' | c'
        · exact c'.symm
        · rw [List.getElem?_eq_none (by simp; omega)] at hb; cases hb
      subst e
      rw [Nat.sub_self] at hb
      simp at hb
      exact .inr ⟨rfl, hb.symm⟩
  have mem : ∀ u ∈ sg, u ∈ l := fun u hu => by rw [← hsg] at hu; exact List.mem_of_mem_drop (List.mem_of_mem_take hu)
  have gsg : gdL β h.length sg := by
    refine ⟨(bdL_iff _ _).2 fun u hu => (bdL_iff _ _).1 hgd.1 u (mem u hu), ?_⟩
    exact (okL_iff _ _).2 fun u hu => (okL_iff _ _).1 hgd.2 u (mem u hu)
  have bn : ∀ k, k < h.length → bno β' k = bno β k := fun k hk => by simp only [bno, ext k hk]
  have bnew : bno β' h.length = some g := by simp only [bno, new]; rfl
  have bi : bno β i = some g := by simp only [bno, hg]; rfl
  have live : Blk.held (.cells o ty l) := .inr trivial
  refine ⟨β', ⟨?_, fun k v hv => ?_⟩, R.d, ⟨fun k b hb => ?_, fun k j b c hk hj hkj hbo hch q hq hq' => ?_, R.h.fz, fun k b hb hbo q hq => ?_⟩, ⟨?_, fun k hk => ?_, R.l.fz, R.l.fzn, R.l.fr, fun k b hb ho q hq => ?_, fun k b hb ho q hq => ?_⟩, R.s⟩
  · exact R.t.1
  · cases k with
    | succ k => simp at hv
    | zero =>
      simp only [List.getElem?_cons_zero, Option.some.injEq] at hv
      subst hv
      have := (R.t.2 0 (.ptr i 0 0 fo) rfl).1
      refine ⟨?_, ⟨by simp only [bd]; omega, trivial⟩⟩
      rw [this]
      simp only [den, adr, hg, new, Option.map_some, Nat.zero_mul, Nat.zero_add, Nat.add_zero]
  · rcases get k b hb with ⟨hk, ⟨e, rfl⟩ | ⟨e, hb'⟩⟩ | ⟨e, rfl⟩
    · trivial
    · exact (R.h.blk k b hb').move (by show h.length ≤ h2.length; omega) hk ext hF fun q _ => rfl
    · subst e
      refine ⟨by simp [maxI], fun j hj => ⟨hlen, gdL_mono (by show h.length ≤ h2.length; omega) hF gsg, fun u hu => h1 u (mem u hu)⟩, fun _ _ => ⟨g, fo, new, fun j hj q u hu => ?_⟩⟩
      have hj0 : j = 0 := by omega
      subst hj0
      rw [cell_of_row w g _ _ _ _ hh, Nat.zero_mul, Nat.zero_add]
      have hq : q < sz := by rw [← hlen]; exact (List.getElem?_eq_some_iff.1 hu).1
      rw [← hsg, List.getElem?_take_of_lt hq, List.getElem?_drop] at hu
      simp only [List.getElem?_toArray, denL_get, hu, Option.map_some]
      rw [den_congr ext u (gd_mem hgd hu).1]
  · rcases get k b hk with ⟨hkl, ⟨e, rfl⟩ | ⟨e, hb'⟩⟩ | ⟨e, rfl⟩
    · simp [Blk.owned] at hbo
    · rw [bn k hkl] at hq
      rcases get j c hj with ⟨hjl, ⟨e', rfl⟩ | ⟨e', hc'⟩⟩ | ⟨e', rfl⟩
      · exact (gone_held hch).elim
      · rw [bn j hjl] at hq'
        exact R.h.sep k j b c hb' hc' hkj hbo hch q hq hq'
      · subst e'
        rw [bnew] at hq'
        injection hq' with hq'
        subst hq'
        exact R.h.sep k i b _ hb' hi e hbo live g hq bi
    · simp [Blk.owned] at hbo
  · rcases get k b hb with ⟨hkl, ⟨e, rfl⟩ | ⟨e, hb'⟩⟩ | ⟨e, rfl⟩
    · simp [Blk.owned] at hbo
    · rw [bn k hkl] at hq
      exact R.h.fsep k b hb' hbo q hq
    · simp [Blk.owned] at hbo
  · have := R.l.len; simp only at this ⊢; omega
  · have h3 := R.l.len
    rw [ext k (by simp only at h3; omega)]
    exact R.l.ext k hk
  · rcases get k b hb with ⟨hkl, ⟨e, rfl⟩ | ⟨e, hb'⟩⟩ | ⟨e, rfl⟩
    · simp [Blk.owned] at ho
    · rw [bn k hkl] at hq
      exact R.l.fresh k b hb' ho q hq
    · simp [Blk.owned] at ho
  · rcases get k b hb with ⟨hkl, ⟨e, rfl⟩ | ⟨e, hb'⟩⟩ | ⟨e, rfl⟩
    · exact (gone_held ho).elim
    · rw [bn k hkl] at hq
      exact R.l.views k b hb' ho q hq
    · subst e
      rw [bnew] at hq
      injection hq with hq
      subst hq
      exact R.l.views i _ hi live g bi
theorem exPart {n0 : N0} {h : List Blk} {K : VV → List Blk → Prop} {l : List VV} (i fo sz N : Nat) (sg : List VV) {o : Bool} {ty : TypeId} (hi : nth h i = some (.cells o ty l)) (hsg : seg l fo sz = sg) (hlen : sg.length = sz) (hsz : 0 < sz) (hN : h.length = N)
    (k : ∃ v2 h3, Le n0 ⟨[some (.ptr N 0 sz 0)], lset h i .gone ++ [.row sz 1 fun _ => sg]⟩ ⟨[some v2], h3⟩ ∧ K v2 h3) : ∃ v2 h3, Le n0 ⟨[some (.ptr i 0 0 fo)], h⟩ ⟨[some v2], h3⟩ ∧ K v2 h3 := by
  obtain ⟨v2, h3, hl, hK⟩ := k
  subst hN
  exact ⟨v2, h3, (Le.part i fo sz hi hsg hlen hsz rfl).trans hl, hK⟩
/-- What rows of the call's own hold fits in them. -/
theorem VC.facts {fr : Bool} {f : FuncId} {args : List VV} {h : List Blk} {K : VV → List Blk → Prop} (hc : VC P fr f args h K) :
    VC P fr f args h fun v h' => K v h' ∧ ∀ (i : Nat) ty sz m cap el, h'[i]? = some (.own ty sz m cap el) → m ≤ cap ∧ cap ≤ maxI :=
  ⟨hc.1, fun β w r hg => (hc.2 β w r hg).mono fun e w' ⟨v, β', h', h1, h2, h3, h4, h5, h6⟩ => ⟨v, β', h', h1, h2, h3, h4, h5, h6, fun i ty sz m cap el hi => by
    have := h2.blk i _ hi
    exact ⟨this.1, this.2.1⟩⟩⟩
end Go.Sx
