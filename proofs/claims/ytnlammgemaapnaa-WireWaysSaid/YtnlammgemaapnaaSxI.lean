/- A call within a greater heap; what is left of a heap; a state told with less. -/
import Derived.Test.YtnlammgemaapnaaSxH
set_option linter.unusedSimpArgs false
set_option linter.unusedVariables false
namespace Go.Sx
open Go

/-- All names in a block are below n. -/
def bdB (n : Nat) : Blk → Prop
  | .gone => True
  | .cells _ _ l => bdL n l
  | .row _ m el => ∀ j, j < m → bdL n (el j)
  | .own _ _ m _ el => ∀ j, j < m → bdL n (el j)
  | .map _ es _ => bdE n es
theorem BlkRep.trim {n m : Nat} {β : Val} {w : World} {id : Nat} {b : Blk} (h : BlkRep n β w id b) (hb : bdB m b) : BlkRep m β w id b := by
  cases b with
  | gone => trivial
  | cells o ty l => exact ⟨h.1, ⟨hb, h.2.1.2⟩, h.2.2⟩
  | row sz k el => exact ⟨h.1, fun j hj => ⟨(h.2.1 j hj).1, ⟨hb j hj, (h.2.1 j hj).2.1.2⟩, (h.2.1 j hj).2.2⟩, h.2.2⟩
  | own ty sz k cap el => exact ⟨h.1, h.2.1, fun j hj => ⟨(h.2.2.1 j hj).1, ⟨hb j hj, (h.2.2.1 j hj).2.1.2⟩, (h.2.2.1 j hj).2.2⟩, h.2.2.2⟩
  | map o es ck => exact ⟨h.1, fun e he => ⟨⟨(hb e he).1, (h.2 e he).1.2⟩, ⟨(hb e he).2, (h.2 e he).2.2⟩⟩⟩
def bdH (n : Nat) : List Blk → Prop
  | [] => True
  | b :: h => bdB n b ∧ bdH n h
theorem bdH_get {n : Nat} : ∀ {h : List Blk}, bdH n h → ∀ (i : Nat) b, h[i]? = some b → bdB n b
  | [], _, i, b, hb => by simp at hb
  | c :: h, hh, i, b, hb => by
    cases i with
    | zero => simp at hb; subst hb; exact hh.1
    | succ i => exact bdH_get hh.2 i b (by simpa using hb)
theorem bdH_mem {n : Nat} {h : List Blk} (hh : bdH n h) : ∀ b ∈ h, bdB n b := fun b hb => by
  obtain ⟨i, hi⟩ := List.getElem?_of_mem hb
  exact bdH_get hh i b hi
def front {α : Type} : Nat → List α → List α
  | 0, _ => []
  | _ + 1, [] => []
  | n + 1, x :: l => x :: front n l
theorem front_eq {α : Type} : ∀ (n : Nat) (l : List α), front n l = l.take n
  | 0, _ => rfl
  | n + 1, [] => rfl
  | n + 1, x :: l => by simp [front, front_eq n l]
/-- The last blocks are forgotten. -/
theorem VCall.trim {P : Program} {fr : Bool} {f : FuncId} {args : List VV} {h : List Blk} {K : VV → List Blk → Prop} (m : Nat) (hm : h.length ≤ m)
    (hv : VC P fr f args h fun v h' => bd m v ∧ bdH m (front m h') ∧ m ≤ h'.length ∧ K v (front m h')) : VC P fr f args h K := by
  refine ⟨hv.1, fun β w r hb => (hv.2 β w r hb).mono ?_⟩
  rintro e w' ⟨v, β', h', rfl, r', l', hbv, hs', h1, h2, h3, h4⟩
  rw [front_eq] at h2 h4
  have hget : ∀ (i : Nat) b, (h'.take m)[i]? = some b → i < m ∧ h'[i]? = some b := fun i b hi => by
    rw [List.getElem?_take] at hi
    split at hi
    · exact ⟨by assumption, hi⟩
    · cases hi
  have hlen : (h'.take m).length = m := by simp; omega
  refine ⟨v, β', h'.take m, rfl, ⟨fun i b hi => ?_, fun i j b c hi hj => ?_, r'.fz, fun i b hi => r'.fsep i b (hget i b hi).2⟩, ⟨by rw [hlen]; exact hm, l'.ext, l'.fz, l'.fzn, l'.fr, fun i b hi => l'.fresh i b (hget i b hi).2, fun i b hi => l'.views i b (hget i b hi).2⟩, by rw [hlen]; exact ⟨h1, hbv.2⟩, hs', h4⟩
  · rw [hlen]
    exact (r'.blk i b (hget i b hi).2).trim (bdH_get h2 i b hi)
  · exact r'.sep i j b c (hget i b hi).2 (hget j c hj).2

/-! ### Blocks with other names -/
def renE (ρ : Nat → Nat) (es : List (VV × VV × Nat)) : List (VV × VV × Nat) := es.map fun e => (ren ρ e.1, ren ρ e.2.1, e.2.2)
def renB (ρ : Nat → Nat) : Blk → Blk
  | .gone => .gone
  | .cells o ty l => .cells o ty (renL ρ l)
  | .row sz n el => .row sz n fun j => renL ρ (el j)
  | .own ty sz n cap el => .own ty sz n cap fun j => renL ρ (el j)
  | .map o es ck => .map o (renE ρ es) ck
theorem renB_owned (ρ : Nat → Nat) (b : Blk) : (renB ρ b).owned = b.owned := by cases b <;> rfl
theorem renB_held (ρ : Nat → Nat) (b : Blk) : (renB ρ b).held ↔ b.held := by cases b <;> rfl
mutual
theorem bd_ren {n m : Nat} {ρ : Nat → Nat} (h : ∀ i, i < n → ρ i < m) : ∀ v, bd n v → bd m (ren ρ v)
  | .bool _, _ | .int _ _, _ | .str _, _ | .nilPtr, _ | .nilSlice, _ | .nilMap, _ | .nilFunc, _ | .nilIface, _ | .ro _ _ _ _ _, _ | .rp _ _ _ _ _ _, _ => trivial
  | .asl id _ _ _ _ _ _, hb => h id hb
  | .ptr id _ _ _, hb => h id hb
  | .slice id _ _, hb => h id hb
  | .map id, hb => h id hb
  | .func _ a b, hb => ⟨bdL_ren h a hb.1, bdL_ren h b hb.2⟩
  | .agg l, hb => bdL_ren h l hb
  | .tup l, hb => bdL_ren h l hb
theorem bdL_ren {n m : Nat} {ρ : Nat → Nat} (h : ∀ i, i < n → ρ i < m) : ∀ l, bdL n l → bdL m (renL ρ l)
  | [], _ => trivial
  | v :: l, hb => ⟨bd_ren h v hb.1, bdL_ren h l hb.2⟩
end
theorem gd_ren {β β' : Val} {n m : Nat} {ρ : Nat → Nat} (h : ∀ i, i < n → ρ i < m) (hF : FLe β.fz β'.fz) {v : VV} (hb : gd β n v) : gd β' m (ren ρ v) := ⟨bd_ren h v hb.1, okV_ren ρ v (okV_mono hF v hb.2)⟩
theorem gdL_ren {β β' : Val} {n m : Nat} {ρ : Nat → Nat} (h : ∀ i, i < n → ρ i < m) (hF : FLe β.fz β'.fz) {l : List VV} (hb : gdL β n l) : gdL β' m (renL ρ l) := ⟨bdL_ren h l hb.1, okL_ren ρ l (okL_mono hF l hb.2)⟩
theorem oneV_ren (ρ : Nat → Nat) (v : VV) : oneV (ren ρ v) = oneV v := by cases v <;> rfl
theorem one_renL {ρ : Nat → Nat} {l : List VV} (h : ∀ u ∈ l, oneV u = true) : ∀ u ∈ renL ρ l, oneV u = true := fun u hu => by
  rw [renL_map] at hu
  obtain ⟨x, hx, rfl⟩ := List.mem_map.1 hu
  rw [oneV_ren]; exact h x hx
theorem renL_get (ρ : Nat → Nat) (l : List VV) (i : Nat) : (renL ρ l)[i]? = l[i]?.map (ren ρ) := by rw [renL_map]; simp

theorem mapE_ren (β : Val) (ρ : Nat → Nat) (es : List (VV × VV × Nat)) : mapE β (renE ρ es) = mapE (β.via ρ) es := by
  unfold mapE renE
  rw [List.map_map]
  congr 1
  apply List.map_congr_left
  intro e _
  simp only [Function.comp, den_ren]
/-- A block under a new name. -/
theorem BlkRep.ren {n N : Nat} {β β' : Val} {w : World} {i c : Nat} {ρ : Nat → Nat} {b : Blk} (hρ : ∀ k, k < n → ρ k < N) (hβ : ∀ k, k < n → β' (ρ k) = β k) (hF : FLe β.fz β'.fz) (hi : β' i = β c) (h : BlkRep n β w c b) : BlkRep N β' w i (renB ρ b) := by
  have hd : ∀ v, bd n v → den β' (Sx.ren ρ v) = den β v := fun v hv => by rw [den_ren]; exact den_congr hβ v hv
  have hdl : ∀ l, bdL n l → denL β' (renL ρ l) = denL β l := fun l hl => by rw [denL_ren]; exact denL_congr hβ l hl
  have hels : ∀ {sz m : Nat} {el : Nat → List VV}, Els β n sz m el → Els β' N sz m fun j => renL ρ (el j) := fun he j hj => ⟨by rw [renL_length]; exact (he j hj).1, gdL_ren hρ hF (he j hj).2.1, one_renL (he j hj).2.2⟩
  cases b with
  | gone => trivial
  | cells o ty l =>
    obtain ⟨⟨g, hg, hh⟩, hb, h1⟩ := h
    exact ⟨⟨g, by rw [hi]; exact hg, by rw [hdl l hb.1]; exact hh⟩, gdL_ren hρ hF hb, one_renL h1⟩
  | row sz m el =>
    obtain ⟨hm, he, hc⟩ := h
    refine ⟨hm, hels he, fun h0 h1 => ?_⟩
    obtain ⟨g, o, hg, hcell⟩ := hc h0 h1
    refine ⟨g, o, by rw [hi]; exact hg, fun j hj q u hu => ?_⟩
    rw [renL_get, Option.map_eq_some_iff] at hu
    obtain ⟨x, hx, rfl⟩ := hu
    rw [hd x (gd_mem (he j hj).2.1 hx).1]; exact hcell j hj q x hx
  | own ty sz m cap el =>
    obtain ⟨h1, h2, he, hcase⟩ := h
    refine ⟨h1, h2, hels he, ?_⟩
    rcases hcase with ⟨h3, h4⟩ | ⟨g, cur, hg, hh, hs, hc⟩
    · exact .inl ⟨by rw [hi]; exact h3, h4⟩
    · refine .inr ⟨g, cur, by rw [hi]; exact hg, hh, hs, fun j hj q u hu => ?_⟩
      rw [renL_get, Option.map_eq_some_iff] at hu
      obtain ⟨x, hx, rfl⟩ := hu
      rw [hd x (gd_mem (he j hj).2.1 hx).1]; exact hc j hj q x hx
  | map o es ck =>
    obtain ⟨⟨g, hg, hh⟩, hb⟩ := h
    refine ⟨⟨g, by rw [hi]; exact hg, ?_⟩, fun e he => ?_⟩
    · have e : mapE β' (renE ρ es) = mapE β es := by
        rw [mapE_ren]; exact mapE_congr hβ hb.bd
      rw [e]; exact hh
    · obtain ⟨x, hx, rfl⟩ := List.mem_map.1 he
      exact ⟨gd_ren hρ hF (hb x hx).1, gd_ren hρ hF (hb x hx).2⟩

/-- What the caller's block b2 gives the callee as b. -/
def CLe (ρ : Nat → Nat) (b2 b : Blk) : Prop :=
  match b, b2 with
  | .gone, _ => True
  | .cells o ty l, .cells o2 ty2 l2 => ty2 = ty ∧ l2 = renL ρ l ∧ (o = true → o2 = true)
  | .row sz n el, .row sz2 n2 el2 => sz2 = sz ∧ n2 = n ∧ ∀ j, j < n → el2 j = renL ρ (el j)
  | .row sz n el, .own _ sz2 n2 _ el2 => sz2 = sz ∧ n2 = n ∧ ∀ j, j < n → el2 j = renL ρ (el j)
  | .own ty sz n cap el, .own ty2 sz2 n2 cap2 el2 => ty2 = ty ∧ sz2 = sz ∧ n2 = n ∧ cap2 = cap ∧ ∀ j, j < n → el2 j = renL ρ (el j)
  | .map o es ck, .map o2 es2 ck2 => ck2 = ck ∧ es2 = renE ρ es ∧ (o = true → o2 = true)
  | _, _ => False
theorem CLe.owned {ρ : Nat → Nat} {b2 b : Blk} (h : CLe ρ b2 b) (ho : b.owned = true) : b2.owned = true := by
  cases b <;> cases b2 <;> simp_all [CLe, Blk.owned]
theorem CLe.held {ρ : Nat → Nat} {b2 b : Blk} (h : CLe ρ b2 b) (ho : b.held) : b2.held := by
  cases b <;> cases b2 <;> simp_all [CLe, Blk.owned, Blk.held, Blk.live]
theorem BlkRep.give {n N : Nat} {β β' : Val} {w : World} {i id : Nat} {ρ : Nat → Nat} {b b2 : Blk} (hβ : ∀ k, k < n → β (ρ k) = β' k) (hF : FLe β.fz β'.fz) (hi : β id = β' i) (hb : bdB n b) (hc : CLe ρ b2 b) (h : BlkRep N β w id b2) : BlkRep n β' w i b := by
  have hd : ∀ v, bd n v → den β (Sx.ren ρ v) = den β' v := fun v hv => by rw [den_ren]; exact den_congr hβ v hv
  have hdl : ∀ l, bdL n l → denL β (renL ρ l) = denL β' l := fun l hl => by rw [denL_ren]; exact denL_congr hβ l hl
  have one : ∀ l, (∀ u ∈ renL ρ l, oneV u = true) → ∀ u ∈ l, oneV u = true := fun l hl u hu => by
    have := hl (Sx.ren ρ u) (by rw [renL_map]; exact List.mem_map_of_mem hu)
    rwa [oneV_ren] at this
  have okr : ∀ {l : List VV} {N : Nat}, gdL β N (renL ρ l) → okL β'.fz l := fun h => okL_mono hF _ (okL_of_ren ρ _ h.2)
  have row : ∀ (sz m : Nat) (el el2 : Nat → List VV), (∀ j, j < m → bdL n (el j)) → (∀ j, j < m → el2 j = renL ρ (el j)) → BlkRep N β w id (.row sz m el2) → BlkRep n β' w i (.row sz m el) := fun sz m el el2 hb he h => by
    obtain ⟨hm, hels, hcell⟩ := h
    refine ⟨hm, fun j hj => ?_, fun h0 h1 => ?_⟩
    · have := hels j hj
      rw [he j hj] at this
      exact ⟨by rw [← this.1, renL_length], ⟨hb j hj, okr this.2.1⟩, one _ this.2.2⟩
    · obtain ⟨g, o, hg, hcell⟩ := hcell h0 h1
      refine ⟨g, o, by rw [← hi]; exact hg, fun j hj q u hu => ?_⟩
      rw [← hd u (bd_mem (hb j hj) hu)]
      exact hcell j hj q _ (by rw [he j hj, renL_get, hu]; rfl)
  cases b with
  | gone => trivial
  | cells o ty l =>
    cases b2 with
    | cells o2 ty2 l2 =>
      obtain ⟨rfl, rfl, _⟩ := hc
      obtain ⟨⟨g, hg, hh⟩, hbr, h1⟩ := h
      exact ⟨⟨g, by rw [← hi]; exact hg, by rw [← hdl l hb]; exact hh⟩, ⟨hb, okr hbr⟩, one l h1⟩
    | _ => exact hc.elim
  | row sz m el =>
    cases b2 with
    | row sz2 m2 el2 => obtain ⟨rfl, rfl, he⟩ := hc; exact row _ _ el el2 hb he h
    | own ty2 sz2 m2 cap2 el2 => obtain ⟨rfl, rfl, he⟩ := hc; exact row _ _ el el2 hb he h.deg
    | _ => exact hc.elim
  | own ty sz m cap el =>
    cases b2 with
    | own ty2 sz2 m2 cap2 el2 =>
      obtain ⟨rfl, rfl, rfl, rfl, he⟩ := hc
      obtain ⟨h1, h2, hels, hcase⟩ := h
      refine ⟨h1, h2, fun j hj => ?_, ?_⟩
      · have := hels j hj
        rw [he j hj] at this
        exact ⟨by rw [← this.1, renL_length], ⟨hb j hj, okr this.2.1⟩, one _ this.2.2⟩
      · rcases hcase with ⟨h3, h4⟩ | ⟨g, cur, hg, hh, hs, hcell⟩
        · exact .inl ⟨by rw [← hi]; exact h3, h4⟩
        · refine .inr ⟨g, cur, by rw [← hi]; exact hg, hh, hs, fun j hj q u hu => ?_⟩
          rw [← hd u (bd_mem (hb j hj) hu)]
          exact hcell j hj q _ (by rw [he j hj, renL_get, hu]; rfl)
    | _ => exact hc.elim
  | map o es ck =>
    cases b2 with
    | map o2 es2 ck2 =>
      obtain ⟨rfl, rfl, _⟩ := hc
      obtain ⟨⟨g, hg, hh⟩, hgd⟩ := h
      refine ⟨⟨g, by rw [← hi]; exact hg, ?_⟩, fun e he => ?_⟩
      have e : mapE β (renE ρ es) = mapE β' es := by rw [mapE_ren]; exact mapE_congr hβ hb
      rw [← e]; exact hh
      have hx := hgd _ (List.mem_map_of_mem he)
      exact ⟨⟨(hb e he).1, okV_mono hF _ (okV_of_ren ρ _ hx.1.2)⟩, ⟨(hb e he).2, okV_mono hF _ (okV_of_ren ρ _ hx.2.2)⟩⟩
    | _ => exact hc.elim

/-! ### The call within a greater heap -/
def rr (r : List Nat) (L i : Nat) : Nat := match nth r i with | some k => k | none => L + (i - r.length)
/-- No owned block is given twice. -/
def shr : List (Nat × Bool) → Bool
  | [] => true
  | (i, o) :: l => (l.all fun x => !(o || x.2) || i != x.1) && shr l
def given (ρ : Nat → Nat) (h : List Blk) : List Nat → List Blk → Prop
  | [], [] => True
  | id :: r, b :: hc => (match nth h id with | some b2 => CLe ρ b2 b | none => False) ∧ given ρ h r hc
  | _, _ => False
def mrg (ρ : Nat → Nat) : List Nat → List Blk → List Blk → List Blk → List Blk
  | id :: r, b :: hc, b' :: h', h => mrg ρ r hc h' (match b.owned with | true => lset h id (renB ρ b') | false => h)
  | _, _, h', h => h ++ h'.map (renB ρ)
/-- Blocks that are only read are only read by the caller, too. -/
def exct (h : List Blk) : List Nat → List Blk → Bool
  | id :: r, b :: hc => (b.owned || (match nth h id with | some b2 => !b2.owned | none => true)) && exct h r hc
  | _, _ => true
theorem given_get {ρ : Nat → Nat} {h : List Blk} : ∀ {r : List Nat} {hc : List Blk}, given ρ h r hc → r.length = hc.length ∧ ∀ (i : Nat) b, hc[i]? = some b → ∃ id b2, r[i]? = some id ∧ h[id]? = some b2 ∧ CLe ρ b2 b
  | [], [], _ => ⟨rfl, fun i b hi => by simp at hi⟩
  | id :: r, b :: hc, hg => by
    obtain ⟨h1, h2⟩ := hg
    obtain ⟨e1, e2⟩ := given_get h2
    refine ⟨by simp [e1], fun i c hi => ?_⟩
    cases i with
    | zero =>
      rw [nth_eq] at h1
      split at h1
      · rename_i b2 hb2
        obtain rfl : b = c := by simpa using hi
        exact ⟨id, b2, rfl, hb2, h1⟩
      · exact h1.elim
    | succ i => simpa using e2 i c (by simpa using hi)
theorem shr_get : ∀ {l : List (Nat × Bool)}, shr l = true → ∀ (i j : Nat) a b, l[i]? = some a → l[j]? = some b → i ≠ j → (a.2 = true ∨ b.2 = true) → a.1 ≠ b.1
  | [], _, i, j, a, b, hi, _, _, _ => by simp at hi
  | (k, o) :: l, hs, i, j, a, b, hi, hj, hij, ho => by
    simp only [shr, Bool.and_eq_true, List.all_eq_true] at hs
    cases i with
    | zero =>
      cases j with
      | zero => exact (hij rfl).elim
      | succ j =>
        simp only [List.getElem?_cons_zero, Option.some.injEq, List.getElem?_cons_succ] at hi hj
        subst hi
        have := hs.1 b (List.mem_of_getElem? hj)
        rcases ho with ho | ho <;> simp_all
    | succ i =>
      cases j with
      | zero =>
        simp only [List.getElem?_cons_zero, Option.some.injEq, List.getElem?_cons_succ] at hi hj
        subst hj
        have := hs.1 a (List.mem_of_getElem? hi)
        rcases ho with ho | ho <;> simp_all [Ne.symm] <;> exact fun e => this e.symm
      | succ j =>
        simp only [List.getElem?_cons_succ] at hi hj
        exact shr_get hs.2 i j a b hi hj (by omega) ho
theorem mrg_get {ρ : Nat → Nat} : ∀ {r : List Nat} {hc h' h : List Blk}, r.length = hc.length → hc.length ≤ h'.length →
    (mrg ρ r hc h' h).length = h.length + (h'.length - hc.length) ∧
    (∀ (i : Nat), i < h.length → (∃ (c : Nat) (b : Blk), hc[c]? = some b ∧ b.owned = true ∧ r[c]? = some i ∧ (mrg ρ r hc h' h)[i]? = h'[c]?.map (renB ρ)) ∨ ((∀ (c : Nat) (b : Blk), hc[c]? = some b → b.owned = true → r[c]? ≠ some i) ∧ (mrg ρ r hc h' h)[i]? = h[i]?)) ∧
    (∀ (i : Nat), h.length ≤ i → (mrg ρ r hc h' h)[i]? = h'[hc.length + (i - h.length)]?.map (renB ρ))
  | [], [], h', h, _, _ => by
    have e : mrg ρ [] [] h' h = h ++ h'.map (renB ρ) := by cases h' <;> rfl
    rw [e]
    refine ⟨by simp, fun i hi => .inr ⟨fun c b hb => by simp at hb, by rw [List.getElem?_append_left hi]⟩, fun i hi => ?_⟩
    rw [List.getElem?_append_right hi]; simp
  | id :: r, b :: hc, b' :: h', h, he, hl => by
    obtain ⟨h1, hh1⟩ : ∃ h1, h1 = (match b.owned with | true => lset h id (renB ρ b') | false => h) := ⟨_, rfl⟩
    have hlen : h1.length = h.length := by rw [hh1]; split <;> simp [lset_eq]
    have hm : mrg ρ (id :: r) (b :: hc) (b' :: h') h = mrg ρ r hc h' h1 := by rw [mrg, hh1]
    obtain ⟨g1, g2, g3⟩ := mrg_get (ρ := ρ) (r := r) (hc := hc) (h' := h') (h := h1) (by simpa using he) (by simpa using hl)
    rw [hm]
    refine ⟨by rw [g1, hlen]; simp, fun i hi => ?_, fun i hi => ?_⟩
    · rcases g2 i (by rw [hlen]; exact hi) with ⟨c, x, a1, a2, a3, a4⟩ | ⟨a1, a2⟩
      · exact .inl ⟨c + 1, x, by simpa using a1, a2, by simpa using a3, by simpa using a4⟩
      · cases hbo : b.owned with
        | true =>
          rw [hbo] at hh1
          simp only at hh1
          by_cases hid : id = i
          · subst hid
            refine .inl ⟨0, b, rfl, hbo, rfl, ?_⟩
            rw [a2, hh1, lset_eq, List.getElem?_set_self hi]; rfl
          · refine .inr ⟨fun c x hx ho => ?_, by rw [a2, hh1, lset_eq, List.getElem?_set_ne hid]⟩
            cases c with
            | zero => simpa using hid
            | succ c => simpa using a1 c x (by simpa using hx) ho
        | false =>
          rw [hbo] at hh1
          simp only at hh1
          refine .inr ⟨fun c x hx ho => ?_, by rw [a2, hh1]⟩
          cases c with
          | zero => simp at hx; subst hx; rw [hbo] at ho; cases ho
          | succ c => simpa using a1 c x (by simpa using hx) ho
    · rw [g3 i (by rw [hlen]; exact hi), hlen]
      have e : (b :: hc).length + (i - h.length) = (hc.length + (i - h.length)) + 1 := by simp; omega
      rw [e]; simp
  | [], _ :: _, _, _, he, _ => by simp at he
  | _ :: _, [], _, _, he, _ => by simp at he
  | _ :: _, _ :: _, [], _, _, hl => by simp at hl
theorem exct_get {h : List Blk} : ∀ {r : List Nat} {hc : List Blk}, exct h r hc = true → ∀ (i : Nat) b id b2, hc[i]? = some b → r[i]? = some id → h[id]? = some b2 → b.owned = false → b2.owned = false
  | id :: r, b :: hc, hx, i, c, k, b2, hi, hr, hb, ho => by
    simp only [exct, Bool.and_eq_true, Bool.or_eq_true] at hx
    cases i with
    | zero =>
      simp only [List.getElem?_cons_zero, Option.some.injEq] at hi hr
      subst hi; subst hr
      rcases hx.1 with e | e
      · rw [ho] at e; cases e
      · rw [nth_eq, hb] at e; simpa using e
    | succ i => exact exct_get hx.2 i c k b2 (by simpa using hi) (by simpa using hr) hb ho
  | [], _, _, i, _, _, _, _, hr, _, _ => by simp at hr
  | _ :: _, [], _, i, _, _, _, hi, _, _, _ => by simp at hi

/-- THE RULE: a contract over the heap hc, called where the heap is h; callee's block i is the caller's block r i. -/
theorem VCall.frame {P : Program} {fr : Bool} {f : FuncId} {args : List VV} {hc : List Blk} {Q : VV → List Blk → Prop} (hv : VC P fr f args hc Q) (r : List Nat) {h : List Blk} {K : VV → List Blk → Prop} {args' : List VV}
    (ha : args' = renL (rr r h.length) args) (hg : given (rr r h.length) h r hc) (hs : shr (r.zip (hc.map Blk.owned)) = true) (hb : bdL hc.length args) (hbc : bdH hc.length hc)
    (hK : ∀ v h', Q v h' → hc.length ≤ h'.length → (exct h r hc = true ∨ (h'.drop hc.length).all Blk.owned = true) ∧ K (ren (rr r h.length) v) (mrg (rr r h.length) r hc h' h)) :
    VC P fr f args' h K := by
  subst ha
  obtain ⟨hrl, hgg⟩ := given_get hg
  refine ⟨hv.1, fun β w R hba => ?_⟩
  obtain ⟨ρ, hρ⟩ : ∃ ρ, ρ = rr r h.length := ⟨_, rfl⟩
  rw [← hρ] at hg hK hgg hba ⊢
  have ρlt : ∀ i, i < hc.length → ∃ k, r[i]? = some k ∧ ρ i = k ∧ k < h.length := fun i hi => by
    obtain ⟨b, hbi⟩ : ∃ b, hc[i]? = some b := ⟨hc[i]'(by omega), List.getElem?_eq_getElem _⟩
    obtain ⟨id, b2, h1, h2, _⟩ := hgg i b hbi
    exact ⟨id, h1, by rw [hρ, rr, nth_eq, h1], bd_lt h2⟩
  have ρge : ∀ i, hc.length ≤ i → ρ i = h.length + (i - hc.length) := fun i hi => by
    have : r[i]? = none := List.getElem?_eq_none (by omega)
    rw [hρ, rr, nth_eq, this, hrl]
  obtain ⟨βc, hβc⟩ : ∃ βc : Val, βc = β.via ρ := ⟨_, rfl⟩
  have hFc : βc.fz = β.fz := by rw [hβc]; rfl
  have hat : ∀ k, βc k = β (ρ k) := fun k => by rw [hβc]; rfl
  have hβρ : ∀ k, k < hc.length → β (ρ k) = βc k := fun k _ => (hat k).symm
  -- the callee's heap
  have Rc : RepH βc hc w := by
    constructor
    · intro i b hi
      obtain ⟨id, b2, h1, h2, h3⟩ := hgg i b hi
      obtain ⟨k, e1, e2, _⟩ := ρlt i (bd_lt hi)
      rw [h1] at e1; injection e1 with e1
      exact BlkRep.give hβρ (by rw [hFc]; exact FLe.refl _) (by rw [hat, e2, e1]) (bdH_get hbc i b hi) h3 (R.blk id b2 h2)
    · intro i j b c hi hj hij hbo hch k hki hkj
      obtain ⟨id, b2, h1, h2, h3⟩ := hgg i b hi
      obtain ⟨id', c2, h1', h2', h3'⟩ := hgg j c hj
      obtain ⟨_, e1, e2, _⟩ := ρlt i (bd_lt hi)
      obtain ⟨_, e1', e2', _⟩ := ρlt j (bd_lt hj)
      rw [h1] at e1; injection e1 with e1
      rw [h1'] at e1'; injection e1' with e1'
      have hne : id ≠ id' := by
        have := shr_get hs i j (id, b.owned) (id', c.owned) (by rw [List.getElem?_zip_eq_some]; exact ⟨h1, by simp [hi]⟩) (by rw [List.getElem?_zip_eq_some]; exact ⟨h1', by simp [hj]⟩) hij (.inl hbo)
        exact this
      simp only [bno, hat, e2, e2', ← e1, ← e1'] at hki hkj
      exact R.sep id id' b2 c2 h2 h2' hne (h3.owned hbo) (h3'.held hch) k hki hkj
    · rw [hFc]; exact R.fz
    · intro i b hi hbo k hk
      obtain ⟨id, b2, h1, h2, h3⟩ := hgg i b hi
      obtain ⟨_, e1, e2, _⟩ := ρlt i (bd_lt hi)
      rw [h1] at e1; injection e1 with e1
      rw [hFc]
      exact R.fsep id b2 h2 (h3.owned hbo) k (by rw [← hk]; simp only [bno, hat, e2, e1])
  have hargs : denL β (renL ρ args) = denL βc args := by rw [denL_ren, hβc]
  have hokc : okL βc.fz args := by rw [hFc]; exact okL_of_ren ρ args hba.2
  rw [hargs]
  refine (hv.2 βc w Rc ⟨hb, hokc⟩).mono ?_
  rintro e w' ⟨v, βc', h', rfl, R', l', hbv, hsc, hQ⟩
  have hlen := l'.len
  obtain ⟨hex, hK⟩ := hK v h' hQ (hlen)
  obtain ⟨β2, hβ2⟩ : ∃ β2 : Val, β2 = ⟨fun i => if i < h.length then β i else βc' (i - h.length + hc.length), βc'.fz⟩ := ⟨_, rfl⟩
  have hF2 : β2.fz = βc'.fz := by rw [hβ2]
  have hFF : FLe β.fz β2.fz := by rw [hF2, ← hFc]; exact l'.fz
  have β2lt : ∀ i, i < h.length → β2 i = β i := fun i hi => by rw [hβ2]; simp [hi]
  have β2ge : ∀ i, h.length ≤ i → β2 i = βc' (i - h.length + hc.length) := fun i hi => by rw [hβ2]; simp; omega
  have β2ρ : ∀ i, β2 (ρ i) = βc' i := fun i => by
    rcases Nat.lt_or_ge i hc.length with c | c
    · obtain ⟨k, _, e2, e3⟩ := ρlt i c
      rw [e2, β2lt k e3, l'.ext i (c), hat, e2]
    · rw [ρge i c, β2ge _ (by omega)]; congr 1; omega
  obtain ⟨M, hM⟩ : ∃ M, M = mrg ρ r hc h' h := ⟨_, rfl⟩
  rw [← hM] at hK
  obtain ⟨g1, g2, g3⟩ := mrg_get (ρ := ρ) (h := h) (h' := h') (r := r) (hc := hc) (hrl) hlen
  rw [← hM] at g1 g2 g3
  have ρM : ∀ k, k < h'.length → ρ k < M.length := fun k hk => by
    rw [g1]
    rcases Nat.lt_or_ge k hc.length with c | c
    · obtain ⟨_, _, e2, e3⟩ := ρlt k c; rw [e2]; omega
    · rw [ρge k c]; omega
  -- whence a block of M comes
  have from_ : ∀ i b, M[i]? = some b → (∃ c b', h'[c]? = some b' ∧ b = renB ρ b' ∧ ρ c = i ∧ (hc.length ≤ c ∨ ∃ x, hc[c]? = some x ∧ x.owned = true)) ∨ (i < h.length ∧ h[i]? = some b ∧ ∀ c x, hc[c]? = some x → x.owned = true → ρ c ≠ i) := fun i b hi => by
    rcases Nat.lt_or_ge i h.length with c | c
    · rcases g2 i c with ⟨q, x, a1, a2, a3, a4⟩ | ⟨a1, a2⟩
      · rw [hi] at a4
        obtain ⟨b', hb', e⟩ := Option.map_eq_some_iff.1 a4.symm
        obtain ⟨k, e1, e2, _⟩ := ρlt q (bd_lt a1)
        rw [a3] at e1; injection e1 with e1
        exact .inl ⟨q, b', hb', e.symm, by rw [e2, e1], .inr ⟨x, a1, a2⟩⟩
      · rw [a2] at hi
        refine .inr ⟨c, hi, fun q x hx ho e => ?_⟩
        obtain ⟨k, e1, e2, _⟩ := ρlt q (bd_lt hx)
        exact a1 q x hx ho (by rw [e1, ← e2, e])
    · have := g3 i c
      rw [hi] at this
      obtain ⟨b', hb', e⟩ := Option.map_eq_some_iff.1 this.symm
      exact .inl ⟨_, b', hb', e.symm, by rw [ρge _ (by omega)]; omega, .inl (by omega)⟩
  have ownUp : ∀ k, ownNo βc hc k → ∃ c x y, hc[c]? = some x ∧ x.owned = true ∧ h[ρ c]? = some y ∧ y.owned = true ∧ bno β (ρ c) = some k := fun k ⟨c, x, h1, h2, h3⟩ => by
    obtain ⟨id, b2, a1, a2, a3⟩ := hgg c x h1
    obtain ⟨_, e1, e2, _⟩ := ρlt c (bd_lt h1)
    rw [a1] at e1; injection e1 with e1
    simp only [bno, hat] at h3
    exact ⟨c, x, b2, h1, h2, by rw [e2, ← e1]; exact a2, a3.owned h2, h3⟩
  have keep : ∀ i b, h[i]? = some b → (∀ c x, hc[c]? = some x → x.owned = true → ρ c ≠ i) → b.held → ∀ k, bno β i = some k → w'.heap[k]? = w.heap[k]? := fun i b hi hno hh k hk => by
    refine l'.fr.keep k ((R.blk i b hi).lt' hh k hk) (fun ho => ?_)
    obtain ⟨c, x, y, a1, a2, a3, a4, a5⟩ := ownUp k ho
    exact R.sep (ρ c) i y b a3 hi (hno c x a1 a2) a4 hh k a5 hk
  have RM : RepH β2 M w' := by
    constructor
    · intro i b hi
      rcases from_ i b hi with ⟨c, b', hb', rfl, hc', _⟩ | ⟨hlt, hb0, hno⟩
      · exact BlkRep.ren ρM (fun k hk => β2ρ k) (by rw [hF2]; exact FLe.refl _) (by rw [← hc', β2ρ]) (R'.blk c b' hb')
      · have hr := R.blk i b hb0
        have hMl : h.length ≤ M.length := by rw [g1]; omega
        cases b with
        | gone => trivial
        | row sz n el =>
          refine ⟨hr.1, hr.2.1.mono hMl hFF, fun h0 h1 => ?_⟩
          exact (BlkRep.move (b := .row sz n el) hMl hlt β2lt hFF (keep i _ hb0 hno (.inr ⟨h0, h1⟩)) hr).2.2 h0 h1
        | cells o ty l => exact BlkRep.move hMl hlt β2lt hFF (keep i _ hb0 hno (.inr trivial)) hr
        | own ty sz n cap el => exact BlkRep.move hMl hlt β2lt hFF (keep i _ hb0 hno (.inl rfl)) hr
        | map o es ck => exact BlkRep.move hMl hlt β2lt hFF (keep i _ hb0 hno (.inr trivial)) hr
    · intro i j b c hi hj hij hbo hch k hki hkj
      have side : ∀ i b j c' d', h[i]? = some b → i < h.length → (∀ c x, hc[c]? = some x → x.owned = true → ρ c ≠ i) → b.held → bno β2 i = some k → h'[c']? = some d' → ρ c' = j → (hc.length ≤ c' ∨ ∃ x, hc[c']? = some x ∧ x.owned = true) → bno β2 j = some k →
          (d'.owned = true ∨ (b.owned = true ∧ d'.held)) → False := fun i b j c' d' hb0 hlt hno hh hki hd' hρj horg hkj hcase => by
        have hkb : bno β i = some k := by rw [← hki]; simp only [bno, β2lt i hlt]
        have hks := (R.blk i b hb0).lt' hh k hkb
        have hkc : bno βc' c' = some k := by rw [← hkj, ← hρj]; simp only [bno, β2ρ]
        have byOwn : ownNo βc hc k → False := fun ho => by
          obtain ⟨q, x, y, a1, a2, a3, a4, a5⟩ := ownUp k ho
          exact R.sep (ρ q) i y b a3 hb0 (hno q x a1 a2) a4 hh k a5 hkb
        rcases hcase with ho | ⟨hbo, hdh⟩
        · rcases l'.fresh c' d' hd' ho k hkc with h1 | h1
          · exact byOwn h1
          · omega
        · cases hdo : d'.owned with
          | true =>
            rcases l'.fresh c' d' hd' hdo k hkc with h1 | h1
            · exact byOwn h1
            · omega
          | false =>
            rcases l'.views c' d' hd' hdh k hkc with ⟨q, x, h1, h2, h3⟩ | h1
            · obtain ⟨id, b2, a1, a2, a3⟩ := hgg q x h1
              obtain ⟨_, e1, e2, _⟩ := ρlt q (bd_lt h1)
              rw [a1] at e1; injection e1 with e1
              have hkq : bno β id = some k := by rw [← h3]; simp only [bno, hat, e2, e1]
              by_cases hid : i = id
              · subst hid
                cases hxo : x.owned with
                | true => exact hno q x h1 hxo (by rw [e2, ← e1])
                | false =>
                  rcases hex with hex | hex
                  · have := exct_get hex q x i b2 h1 a1 a2 hxo
                    rw [hb0] at a2; injection a2 with a2; subst a2
                    rw [hbo] at this; cases this
                  · rcases horg with horg | ⟨x', hx', hxo'⟩
                    · have := List.all_eq_true.1 hex d' (by
                        have : (h'.drop hc.length)[c' - hc.length]? = some d' := by rw [List.getElem?_drop]; rw [← hd']; congr 1; omega
                        exact List.mem_of_getElem? this)
                      rw [hdo] at this; cases this
                    · exact byOwn ⟨c', x', hx', hxo', by rw [← hkc]; simp only [bno, l'.ext c' (bd_lt hx')]⟩
              · exact R.sep i id b b2 hb0 a2 hid hbo (a3.held h2) k hkb hkq
            · omega
      rcases from_ i b hi with ⟨ci, bi, hbi, rfl, hρi, hoi⟩ | ⟨hlti, hb0, hnoi⟩ <;> rcases from_ j c hj with ⟨cj, bj, hbj, rfl, hρj, hoj⟩ | ⟨hltj, hc0, hnoj⟩
      · refine R'.sep ci cj bi bj hbi hbj (fun e => hij (by rw [← hρi, ← hρj, e])) (by rwa [renB_owned] at hbo) ((renB_held _ _).1 hch) k ?_ ?_
        · rw [← hki, ← hρi]; simp only [bno, β2ρ]
        · rw [← hkj, ← hρj]; simp only [bno, β2ρ]
      · exact side j c i ci bi hc0 hltj hnoj hch hkj hbi hρi hoi hki (.inl (by rwa [renB_owned] at hbo))
      · exact side i b j cj bj hb0 hlti hnoi (.inl hbo) hki hbj hρj hoj hkj (.inr ⟨hbo, (renB_held _ _).1 hch⟩)
      · simp only [bno, β2lt i hlti] at hki
        simp only [bno, β2lt j hltj] at hkj
        exact R.sep i j b c hb0 hc0 hij hbo hch k hki hkj
    · rw [hF2]; exact R'.fz
    · intro i b hi hbo k hk
      rw [hF2]
      rcases from_ i b hi with ⟨ci, bi, hbi, rfl, hρi, hoi⟩ | ⟨hlti, hb0, hnoi⟩
      · exact R'.fsep ci bi hbi (by rwa [renB_owned] at hbo) k (by rw [← hk, ← hρi]; simp only [bno, β2ρ])
      · simp only [bno, β2lt i hlti] at hk
        cases hf : βc'.fz k with
        | none => rfl
        | some x =>
          rcases l'.fzn k x hf with h1 | h1 | h1
          · rw [hFc, R.fsep i b hb0 hbo k hk] at h1; cases h1
          · obtain ⟨q, y, z, a1, a2, a3, a4, a5⟩ := ownUp k h1
            exact (R.sep (ρ q) i z b a3 hb0 (hnoi q y a1 a2) a4 (.inl hbo) k a5 hk).elim
          · have := (R.blk i b hb0).lt' (.inl hbo) k hk
            omega
  have heldUp : ∀ c x, hc[c]? = some x → x.held → ∃ y, h[ρ c]? = some y ∧ y.held := fun c x h1 h2 => by
    obtain ⟨id, b2, a1, a2, a3⟩ := hgg c x h1
    obtain ⟨_, e1, e2, _⟩ := ρlt c (bd_lt h1)
    rw [a1] at e1; injection e1 with e1
    exact ⟨b2, by rw [e2, ← e1]; exact a2, a3.held h2⟩
  refine ⟨ren ρ v, β2, M, ?_, RM, ⟨by rw [g1]; omega, β2lt, hFF, fun k x hx => ?_, ⟨l'.fr.os, l'.fr.tape, l'.fr.output, l'.fr.size, fun k hk hO => l'.fr.keep k hk (fun ho => ?_)⟩, fun i b hi ho k hk => ?_, fun i b hi ho k hk => ?_⟩, gd_ren ρM (by rw [hF2]; exact FLe.refl _) hbv, fun e => by rw [hF2, hsc e, hFc], hK⟩
  · rw [den_ren, den_congr (β := βc') (β' := β2.via ρ) (n := h'.length) (fun i _ => β2ρ i) v hbv.1]
  · rw [hF2] at hx
    rcases l'.fzn k x hx with h1 | h1 | h1
    · rw [hFc] at h1; exact .inl h1
    · obtain ⟨c, y, z, a1, a2, a3, a4, a5⟩ := ownUp k h1
      exact .inr (.inl ⟨ρ c, z, a3, a4, a5⟩)
    · exact .inr (.inr h1)
  · obtain ⟨c, x, y, a1, a2, a3, a4, a5⟩ := ownUp k ho
    exact hO ⟨ρ c, y, a3, a4, a5⟩
  · rcases from_ i b hi with ⟨c, b', hb', rfl, hc', _⟩ | ⟨hlt, hb0, hno⟩
    · rcases l'.fresh c b' hb' (by rwa [renB_owned] at ho) k (by rw [← hk, ← hc']; simp only [bno, β2ρ]) with h1 | h1
      · obtain ⟨q, x, y, a1, a2, a3, a4, a5⟩ := ownUp k h1
        exact .inl ⟨ρ q, y, a3, a4, a5⟩
      · exact .inr h1
    · exact .inl ⟨i, b, hb0, ho, by rw [← hk]; simp only [bno, β2lt i hlt]⟩
  · rcases from_ i b hi with ⟨c, b', hb', rfl, hc', _⟩ | ⟨hlt, hb0, hno⟩
    · rcases l'.views c b' hb' ((renB_held _ _).1 ho) k (by rw [← hk, ← hc']; simp only [bno, β2ρ]) with ⟨q, x, a1, a2, a3⟩ | h1
      · obtain ⟨y, a4, a5⟩ := heldUp q x a1 a2
        exact .inl ⟨ρ q, y, a4, a5, by rw [← a3]; simp only [bno, hat]⟩
      · exact .inr h1
    · exact .inl ⟨i, b, hb0, ho, by rw [← hk]; simp only [bno, β2lt i hlt]⟩
end Go.Sx
