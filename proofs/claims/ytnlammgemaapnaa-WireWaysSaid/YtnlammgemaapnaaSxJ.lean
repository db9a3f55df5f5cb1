/- A state told with less: slots left out, blocks left out, named anew. -/
import Derived.Test.YtnlammgemaapnaaSxI
set_option linter.unusedSimpArgs false
set_option linter.unusedVariables false
namespace Go.Sx
open Go

/-- Where the new state's block i was. -/
def ro (r : List (Option Nat)) (i : Nat) : Option Nat := match nth r i with | some o => o | none => none
def bo (r : List (Option Nat)) (β : Val) : Val := ⟨fun i => match ro r i with | some j => β j | none => none, β.fz⟩
mutual
/-- The value of the old state that the new one's is. -/
def VLe (r : List (Option Nat)) : VV → VV → Prop
  | .ptr id idx sz fo, v => match ro r id with | some j => v = .ptr j idx sz fo | none => False
  | .slice id len cap, v => match ro r id with | some j => v = .slice j len cap | none => v = .nilSlice ∧ len = 0 ∧ cap = 0
  | .map id, v => match ro r id with | some j => v = .map j | none => v = .nilMap
  | .func f a b, v => match v with | .func f' a' b' => f' = f ∧ VLeL r a a' ∧ VLeL r b b' | _ => False
  | .agg l, v => match v with | .agg l' => VLeL r l l' | _ => False
  | .tup l, v => match v with | .tup l' => VLeL r l l' | _ => False
  | .bool b, v => v = .bool b
  | .int k n, v => v = .int k n
  | .str s, v => v = .str s
  | .nilPtr, v => v = .nilPtr
  | .nilSlice, v => v = .nilSlice
  | .nilMap, v => v = .nilMap
  | .nilFunc, v => v = .nilFunc
  | .nilIface, v => v = .nilIface
  | .ro p sz n cap el, v => v = .ro p sz n cap el
  | .rp p idx sz fo n el, v => v = .rp p idx sz fo n el
  | .asl id idx sz fo esz n cap, v => match ro r id with | some j => v = .asl j idx sz fo esz n cap | none => False
def VLeL (r : List (Option Nat)) : List VV → List VV → Prop
  | [], l => l = []
  | v :: vs, l => match l with | u :: us => VLe r v u ∧ VLeL r vs us | [] => False
end
mutual
theorem VLe.den {r : List (Option Nat)} (β : Val) : ∀ v u, VLe r v u → den (bo r β) v = Sx.den β u
  | .ptr id idx sz fo, u, h => by
    simp only [VLe] at h
    cases hr : ro r id with
    | none => rw [hr] at h; exact h.elim
    | some j => rw [hr] at h; simp only at h; subst h; simp only [Sx.den, adr, bo, hr]
  | .slice id len cap, u, h => by
    simp only [VLe] at h
    cases hr : ro r id with
    | none => rw [hr] at h; simp only at h; obtain ⟨rfl, rfl, rfl⟩ := h; simp only [Sx.den, adr, bo, hr, Option.map_none]
    | some j => rw [hr] at h; simp only at h; subst h; simp only [Sx.den, adr, bo, hr]
  | .map id, u, h => by
    simp only [VLe] at h
    cases hr : ro r id with
    | none => rw [hr] at h; simp only at h; subst h; simp only [Sx.den, bo, hr, Option.map_none]
    | some j => rw [hr] at h; simp only at h; subst h; simp only [Sx.den, bo, hr]
  | .func f a b, u, h => by
    simp only [VLe] at h
    split at h
    · obtain ⟨rfl, h1, h2⟩ := h; simp only [Sx.den, VLeL.den β a _ h1, VLeL.den β b _ h2]
    · exact h.elim
  | .agg l, u, h => by
    simp only [VLe] at h
    split at h
    · simp only [Sx.den, VLeL.den β l _ h]
    · exact h.elim
  | .tup l, u, h => by
    simp only [VLe] at h
    split at h
    · simp only [Sx.den, VLeL.den β l _ h]
    · exact h.elim
  | .bool b, u, h => by simp only [VLe] at h; subst h; rfl
  | .int k n, u, h => by simp only [VLe] at h; subst h; rfl
  | .str s, u, h => by simp only [VLe] at h; subst h; rfl
  | .nilPtr, u, h => by simp only [VLe] at h; subst h; rfl
  | .nilSlice, u, h => by simp only [VLe] at h; subst h; rfl
  | .nilMap, u, h => by simp only [VLe] at h; subst h; rfl
  | .nilFunc, u, h => by simp only [VLe] at h; subst h; rfl
  | .nilIface, u, h => by simp only [VLe] at h; subst h; rfl
  | .ro _ _ _ _ _, u, h => by simp only [VLe] at h; subst h; rfl
  | .rp _ _ _ _ _ _, u, h => by simp only [VLe] at h; subst h; rfl
  | .asl id idx sz fo esz n cap, u, h => by
    simp only [VLe] at h
    cases hr : ro r id with
    | none => rw [hr] at h; exact h.elim
    | some j => rw [hr] at h; simp only at h; subst h; simp only [Sx.den, adr, bo, hr]
theorem VLeL.den {r : List (Option Nat)} (β : Val) : ∀ vs us, VLeL r vs us → denL (bo r β) vs = denL β us
  | [], us, h => by simp only [VLeL] at h; subst h; rfl
  | v :: vs, us, h => by
    simp only [VLeL] at h
    split at h
    · simp only [denL, VLe.den β v _ h.1, VLeL.den β vs _ h.2]
    · exact h.elim
end
theorem VLeL.length {r : List (Option Nat)} : ∀ vs us, VLeL r vs us → vs.length = us.length
  | [], us, h => by simp only [VLeL] at h; subst h; rfl
  | v :: vs, us, h => by
    simp only [VLeL] at h
    split at h
    · simp [VLeL.length vs _ h.2]
    · exact h.elim
theorem VLeL.get {r : List (Option Nat)} : ∀ {vs us}, VLeL r vs us → ∀ (i : Nat) v, vs[i]? = some v → ∃ u, us[i]? = some u ∧ VLe r v u
  | [], us, h, i, v, hv => by simp at hv
  | x :: vs, us, h, i, v, hv => by
    simp only [VLeL] at h
    split at h
    · cases i with
      | zero => simp at hv; subst hv; exact ⟨_, rfl, h.1⟩
      | succ i => simpa using VLeL.get h.2 i v (by simpa using hv)
    · exact h.elim
mutual
theorem VLe.ok {r : List (Option Nat)} {F : Nat → Option Obj} : ∀ v u, VLe r v u → okV F u → okV F v
  | .bool _, u, h, k | .int _ _, u, h, k | .str _, u, h, k | .nilPtr, u, h, k | .nilSlice, u, h, k | .nilMap, u, h, k | .nilFunc, u, h, k | .nilIface, u, h, k => trivial
  | .ptr _ _ _ _, u, h, k | .slice _ _ _, u, h, k | .map _, u, h, k | .asl _ _ _ _ _ _ _, u, h, k => trivial
  | .ro _ _ _ _ _, u, h, k => by simp only [VLe] at h; subst h; exact k
  | .rp _ _ _ _ _ _, u, h, k => by simp only [VLe] at h; subst h; exact k
  | .func f a b, u, h, k => by
    simp only [VLe] at h
    split at h
    · exact ⟨VLeL.ok a _ h.2.1 k.1, VLeL.ok b _ h.2.2 k.2⟩
    · exact h.elim
  | .agg l, u, h, k => by
    simp only [VLe] at h
    split at h
    · exact VLeL.ok l _ h k
    · exact h.elim
  | .tup l, u, h, k => by
    simp only [VLe] at h
    split at h
    · exact VLeL.ok l _ h k
    · exact h.elim
theorem VLeL.ok {r : List (Option Nat)} {F : Nat → Option Obj} : ∀ vs us, VLeL r vs us → okL F us → okL F vs
  | [], us, h, k => trivial
  | v :: vs, us, h, k => by
    simp only [VLeL] at h
    split at h
    · exact ⟨VLe.ok v _ h.1 k.1, VLeL.ok vs _ h.2 k.2⟩
    · exact h.elim
end
theorem VLe.one {r : List (Option Nat)} {v u : VV} (h : VLe r v u) (h1 : oneV u = true) : oneV v = true := by
  cases v <;> simp only [VLe] at h <;> first | rfl | (split at h <;> first | (simp [oneV] at h1; done) | exact h.elim)

def ELe (r : List (Option Nat)) (es2 es : List (VV × VV × Nat)) : Prop := (∀ β : Val, mapE (bo r β) es2 = mapE β es) ∧ ∀ (β : Val) (n : Nat), gdE β n es → ∀ e ∈ es2, okV β.fz e.1 ∧ okV β.fz e.2.1
theorem ELe.closed (r : List (Option Nat)) {es : List (VV × VV × Nat)} (h : bdE 0 es) : ELe r es es := ⟨fun β => mapE_congr (fun i hi => by omega) h, fun β n hg e he => ⟨(hg e he).1.2, (hg e he).2.2⟩⟩
def BLe (r : List (Option Nat)) (b2 b : Blk) : Prop :=
  match b2, b with
  | .gone, _ => True
  | .cells o2 ty2 l2, .cells o ty l => ty2 = ty ∧ VLeL r l2 l ∧ (o2 = true → o = true)
  | .row sz2 n2 el2, .row sz n el => sz2 = sz ∧ n2 = n ∧ ∀ j, j < n2 → VLeL r (el2 j) (el j)
  | .row sz2 n2 el2, .own _ sz n _ el => sz2 = sz ∧ n2 = n ∧ ∀ j, j < n2 → VLeL r (el2 j) (el j)
  | .own ty2 sz2 n2 cap2 el2, .own ty sz n cap el => ty2 = ty ∧ sz2 = sz ∧ n2 = n ∧ cap2 = cap ∧ ∀ j, j < n2 → VLeL r (el2 j) (el j)
  | .map o2 es2 ck2, .map o es ck => ck2 = ck ∧ ELe r es2 es ∧ (o2 = true → o = true)
  | _, _ => False
/-- A nil row, newly named. -/
def Phan : Blk → Prop
  | .gone => True
  | .row _ n _ => n = 0
  | .own _ _ n cap _ => n = 0 ∧ cap = 0
  | _ => False
theorem BLe.owned {r : List (Option Nat)} {b2 b : Blk} (h : BLe r b2 b) (ho : b2.owned = true) : b.owned = true := by
  cases b2 <;> cases b <;> simp_all [BLe, Blk.owned]
theorem BLe.held {r : List (Option Nat)} {b2 b : Blk} (h : BLe r b2 b) (ho : b2.held) : b.held := by
  cases b2 <;> cases b <;> simp_all [BLe, Blk.owned, Blk.held, Blk.live]
theorem BLe.rep {r : List (Option Nat)} {n n2 : Nat} {β : Val} {w : World} {i j : Nat} {b2 b : Blk} (hij : ro r i = some j) (hb : bdB n2 b2) (h : BLe r b2 b) (hr : BlkRep n β w j b) : BlkRep n2 (bo r β) w i b2 := by
  have hi : bo r β i = β j := by simp only [bo, hij]
  have okr : ∀ {l2 l : List VV}, VLeL r l2 l → gdL β n l → okL (bo r β).fz l2 := fun h k => VLeL.ok _ _ h k.2
  have els : ∀ {sz m : Nat} {el el2 : Nat → List VV}, (∀ k, k < m → bdL n2 (el2 k)) → (∀ k, k < m → VLeL r (el2 k) (el k)) → Els β n sz m el → Els (bo r β) n2 sz m el2 := fun hbd hle he k hk =>
    ⟨by rw [(hle k hk).length]; exact (he k hk).1, ⟨hbd k hk, okr (hle k hk) (he k hk).2.1⟩, fun u hu => by
      obtain ⟨q, hq⟩ := List.getElem?_of_mem hu
      obtain ⟨x, hx, hux⟩ := (hle k hk).get q u hq
      exact hux.one ((he k hk).2.2 x (List.mem_of_getElem? hx))⟩
  have row : ∀ (sz m : Nat) (el el2 : Nat → List VV), (∀ k, k < m → bdL n2 (el2 k)) → (∀ k, k < m → VLeL r (el2 k) (el k)) → BlkRep n β w j (.row sz m el) → BlkRep n2 (bo r β) w i (.row sz m el2) := fun sz m el el2 hbd hle ⟨h1, h2, h3⟩ => by
    refine ⟨h1, els hbd hle h2, fun h0 h0' => ?_⟩
    obtain ⟨g, o, hg, hc⟩ := h3 h0 h0'
    refine ⟨g, o, by rw [hi]; exact hg, fun k hk q u hu => ?_⟩
    obtain ⟨x, hx, hux⟩ := (hle k hk).get q u hu
    rw [hux.den β]; exact hc k hk q x hx
  cases b2 with
  | gone => trivial
  | cells o2 ty2 l2 =>
    cases b with
    | cells o ty l =>
      obtain ⟨rfl, hl, _⟩ := h
      obtain ⟨⟨g, hg, hh⟩, hbr, h1⟩ := hr
      refine ⟨⟨g, by rw [hi]; exact hg, by rw [hl.den β]; exact hh⟩, ⟨hb, okr hl hbr⟩, fun u hu => ?_⟩
      obtain ⟨q, hq⟩ := List.getElem?_of_mem hu
      obtain ⟨x, hx, hux⟩ := hl.get q u hq
      exact hux.one (h1 x (List.mem_of_getElem? hx))
    | _ => exact h.elim
  | row sz2 m2 el2 =>
    cases b with
    | row sz m el => obtain ⟨rfl, rfl, hl⟩ := h; exact row _ _ el el2 hb hl hr
    | own ty sz m cap el => obtain ⟨rfl, rfl, hl⟩ := h; exact row _ _ el el2 hb hl hr.deg
    | _ => exact h.elim
  | own ty2 sz2 m2 cap2 el2 =>
    cases b with
    | own ty sz m cap el =>
      obtain ⟨rfl, rfl, rfl, rfl, hl⟩ := h
      obtain ⟨h1, h2, he, hcase⟩ := hr
      refine ⟨h1, h2, els hb hl he, ?_⟩
      rcases hcase with ⟨h3, h4⟩ | ⟨g, cur, hg, hh, hs, hc⟩
      · exact .inl ⟨by rw [hi]; exact h3, h4⟩
      · refine .inr ⟨g, cur, by rw [hi]; exact hg, hh, hs, fun k hk q u hu => ?_⟩
        obtain ⟨x, hx, hux⟩ := (hl k hk).get q u hu
        rw [hux.den β]; exact hc k hk q x hx
    | _ => exact h.elim
  | map o2 es2 ck2 =>
    cases b with
    | map o es ck =>
      obtain ⟨rfl, hl, _⟩ := h
      obtain ⟨⟨g, hg, hh⟩, hgd⟩ := hr
      exact ⟨⟨g, by rw [hi]; exact hg, by rw [hl.1 β]; exact hh⟩, fun e he => ⟨⟨(hb e he).1, (hl.2 β n hgd e he).1⟩, ⟨(hb e he).2, (hl.2 β n hgd e he).2⟩⟩⟩
    | _ => exact h.elim
theorem Phan.rep {r : List (Option Nat)} {n2 : Nat} {β : Val} {w : World} {i : Nat} {b2 : Blk} (hi : ro r i = none) (h : Phan b2) : BlkRep n2 (bo r β) w i b2 := by
  have hb : bo r β i = none := by simp only [bo, hi]
  cases b2 with
  | gone => trivial
  | cells o ty l => exact h.elim
  | map o es ck => exact h.elim
  | row sz n el => simp only [Phan] at h; subst h; exact ⟨by simp [maxI], fun j hj => by omega, fun h0 => by omega⟩
  | own ty sz n cap el => obtain ⟨rfl, rfl⟩ := h; exact ⟨Nat.le_refl _, by simp [maxI], fun j hj => by omega, .inl ⟨hb, rfl⟩⟩

def TLe (r : List (Option Nat)) : List (Option VV) → List (Option VV) → Prop
  | [], [] => True
  | x :: t2, y :: t => (match x with | none => True | some v => match y with | some u => VLe r v u | none => False) ∧ TLe r t2 t
  | _, _ => False
theorem TLe.get {r : List (Option Nat)} : ∀ {t2 t : List (Option VV)}, TLe r t2 t → t2.length = t.length ∧ ∀ (i : Nat) v, t2[i]? = some (some v) → ∃ u, t[i]? = some (some u) ∧ VLe r v u
  | [], [], _ => ⟨rfl, fun i v hv => by simp at hv⟩
  | x :: t2, y :: t, h => by
    obtain ⟨h1, h2⟩ := h
    obtain ⟨e1, e2⟩ := h2.get
    refine ⟨by simp [e1], fun i v hv => ?_⟩
    cases i with
    | zero =>
      simp only [List.getElem?_cons_zero, Option.some.injEq] at hv
      subst hv
      cases y with
      | none => exact h1.elim
      | some u => exact ⟨u, rfl, h1⟩
    | succ i => simpa using e2 i v (by simpa using hv)
  | [], _ :: _, h => h.elim
  | _ :: _, [], h => h.elim
def HLe (r : List (Option Nat)) (h : List Blk) : List (Option Nat) → List Blk → Prop
  | [], [] => True
  | o :: q, b2 :: h2 => (match o with | some j => (match nth h j with | some b => BLe r b2 b | none => False) | none => Phan b2) ∧ HLe r h q h2
  | _, _ => False
theorem HLe.get {r : List (Option Nat)} {h : List Blk} : ∀ {q : List (Option Nat)} {h2 : List Blk}, HLe r h q h2 → q.length = h2.length ∧ ∀ (i : Nat) b2, h2[i]? = some b2 → ∃ o, q[i]? = some o ∧ ((∃ j b, o = some j ∧ h[j]? = some b ∧ BLe r b2 b) ∨ (o = none ∧ Phan b2))
  | [], [], _ => ⟨rfl, fun i b hb => by simp at hb⟩
  | o :: q, b :: h2, hh => by
    obtain ⟨h1, h2'⟩ := hh
    obtain ⟨e1, e2⟩ := h2'.get
    refine ⟨by simp [e1], fun i c hc => ?_⟩
    cases i with
    | zero =>
      simp only [List.getElem?_cons_zero, Option.some.injEq] at hc
      subst hc
      refine ⟨o, rfl, ?_⟩
      cases o with
      | none => exact .inr ⟨rfl, h1⟩
      | some j =>
        simp only [nth_eq] at h1
        split at h1
        · rename_i b' hb'; exact .inl ⟨j, b', rfl, hb', h1⟩
        · exact h1.elim
    | succ i => simpa using e2 i c (by simpa using hc)
  | [], _ :: _, h => h.elim
  | _ :: _, [], h => h.elim
/-- No block twice, where one of the two is owned. -/
def dst : List (Option Nat × Bool) → Bool
  | [] => true
  | (some i, o) :: l => (l.all fun x => !(o || x.2) || x.1 != some i) && dst l
  | (none, _) :: l => dst l
theorem dst_get : ∀ {l : List (Option Nat × Bool)}, dst l = true → ∀ (i j : Nat) k a b, l[i]? = some (some k, a) → l[j]? = some (some k, b) → i ≠ j → (a = true ∨ b = true) → False
  | [], _, i, j, k, a, b, hi, _, _, _ => by simp at hi
  | (none, o) :: l, hs, i, j, k, a, b, hi, hj, hij, ho => by
    cases i with
    | zero => simp at hi
    | succ i =>
      cases j with
      | zero => simp at hj
      | succ j => exact dst_get (l := l) (by simpa [dst] using hs) i j k a b (by simpa using hi) (by simpa using hj) (by omega) ho
  | (some q, o) :: l, hs, i, j, k, a, b, hi, hj, hij, ho => by
    simp only [dst, Bool.and_eq_true, List.all_eq_true] at hs
    cases i with
    | zero =>
      cases j with
      | zero => exact hij rfl
      | succ j =>
        simp only [List.getElem?_cons_zero, Option.some.injEq, Prod.mk.injEq, List.getElem?_cons_succ] at hi hj
        obtain ⟨rfl, rfl⟩ := hi
        have := hs.1 _ (List.mem_of_getElem? hj)
        rcases ho with ho | ho <;> simp_all
    | succ i =>
      cases j with
      | zero =>
        simp only [List.getElem?_cons_zero, Option.some.injEq, Prod.mk.injEq, List.getElem?_cons_succ] at hi hj
        obtain ⟨rfl, rfl⟩ := hj
        have := hs.1 _ (List.mem_of_getElem? hi)
        rcases ho with ho | ho <;> simp_all
      | succ j => exact dst_get hs.2 i j k a b (by simpa using hi) (by simpa using hj) (by omega) ho
/-- Which old block each new one is; those that are gone do not count. -/
def zipD : List (Option Nat) → List Blk → List (Option Nat × Bool)
  | _ :: r, .gone :: h => (none, false) :: zipD r h
  | o :: r, b :: h => (o, b.owned) :: zipD r h
  | _, _ => []
theorem zipD_get : ∀ {r : List (Option Nat)} {h : List Blk} {i : Nat} {o : Option Nat} {b : Blk}, r[i]? = some o → h[i]? = some b → b.held → (zipD r h)[i]? = some (o, b.owned)
  | [], _, i, o, b, hr, _, _ => by simp at hr
  | _ :: _, [], i, o, b, _, hb, _ => by simp at hb
  | o' :: r, c :: h, 0, o, b, hr, hb, hh => by
    simp only [List.getElem?_cons_zero, Option.some.injEq] at hr hb
    subst hr; subst hb
    cases c with
    | gone => exact (gone_held hh).elim
    | _ => rfl
  | o' :: r, c :: h, i + 1, o, b, hr, hb, hh => by
    simp only [List.getElem?_cons_succ] at hr hb
    have ih := zipD_get hr hb hh
    cases c <;> simpa [zipD] using ih
/-- The first n names stay. -/
def keepN (r : List (Option Nat)) : Nat → Bool
  | 0 => true
  | n + 1 => keepN r n && (ro r n == some n)
theorem keepN_get {r : List (Option Nat)} : ∀ {n : Nat}, keepN r n = true → ∀ i, i < n → ro r i = some i
  | 0, _, i, hi => by omega
  | n + 1, h, i, hi => by
    simp only [keepN, Bool.and_eq_true, beq_iff_eq] at h
    rcases Nat.lt_or_ge i n with c | c
    · exact keepN_get h.1 i c
    · have : i = n := by omega
      subst this; exact h.2
def bdT (n : Nat) : List (Option VV) → Prop
  | [] => True
  | none :: t => bdT n t
  | some v :: t => bd n v ∧ bdT n t
theorem bdT_get {n : Nat} : ∀ {t : List (Option VV)}, bdT n t → ∀ (i : Nat) v, t[i]? = some (some v) → bd n v
  | [], _, i, v, hv => by simp at hv
  | none :: t, h, i, v, hv => by
    cases i with
    | zero => simp at hv
    | succ i => exact bdT_get (t := t) h i v (by simpa using hv)
  | some u :: t, h, i, v, hv => by
    cases i with
    | zero => simp at hv; subst hv; exact h.1
    | succ i => exact bdT_get h.2 i v (by simpa using hv)
/-- THE RULE: block i of the new state was block r i of the old one (none: a nil row that is named now). -/
theorem Le.of {n0 : N0} {st st2 : St} (r : List (Option Nat)) (hk : keepN r n0.n = true) (ht : TLe r st2.t st.t) (hh : HLe r st.h r st2.h) (hd : dst (zipD r st2.h) = true)
    (hbt : bdT st2.h.length st2.t) (hbh : bdH st2.h.length st2.h) : Le n0 st st2 := by
  intro E β a w he R
  obtain ⟨t1, t2⟩ := ht.get
  obtain ⟨h1, h2⟩ := hh.get
  have org : ∀ i b2, st2.h[i]? = some b2 → (∃ j b, ro r i = some j ∧ st.h[j]? = some b ∧ BLe r b2 b) ∨ (ro r i = none ∧ Phan b2) := fun i b2 hi => by
    obtain ⟨o, ho, hcase⟩ := h2 i b2 hi
    have hro : ro r i = o := by simp only [ro, nth_eq, ho]
    rcases hcase with ⟨j, b, e, hj, hb⟩ | ⟨e, hb⟩
    · exact .inl ⟨j, b, by rw [hro, e], hj, hb⟩
    · exact .inr ⟨by rw [hro, e], hb⟩
  have he' : E.h.length = n0.n := by rw [← he]; rfl
  have hn0 : n0.n ≤ st2.h.length := by
    rcases Nat.lt_or_ge st2.h.length n0.n with c | c
    · have := keepN_get hk st2.h.length c
      simp only [ro, nth_eq] at this
      rw [List.getElem?_eq_none (by omega)] at this
      cases this
    · exact c
  have bn : ∀ i j, ro r i = some j → bno (bo r β) i = bno β j := fun i j e => by simp only [bno, bo, e]
  have bnn : ∀ i, ro r i = none → bno (bo r β) i = none := fun i e => by simp only [bno, bo, e, Option.map_none]
  refine ⟨bo r β, ⟨t1.trans R.t.1, fun i v hv => ?_⟩, R.d, ⟨fun i b2 hi => ?_, fun i j b c hi hj hij hbo hch k hki hkj => ?_, R.h.fz, fun i b hi hbo k hk' => ?_⟩, ⟨by rw [he']; exact hn0, fun i hi => ?_, R.l.fz, R.l.fzn, R.l.fr, fun i b hi ho k hk' => ?_, fun i b hi ho k hk' => ?_⟩, R.s⟩
  · obtain ⟨u, hu, hvu⟩ := t2 i v hv
    exact ⟨by rw [hvu.den β]; exact (R.t.2 i u hu).1, bdT_get hbt i v hv, hvu.ok _ _ (R.t.2 i u hu).2.2⟩
  · rcases org i b2 hi with ⟨j, b, e1, e2, e3⟩ | ⟨e1, e2⟩
    · exact e3.rep e1 (bdH_get hbh i b2 hi) (R.h.blk j b e2)
    · exact e2.rep e1
  · rcases org i b hi with ⟨i', b', e1, e2, e3⟩ | ⟨e1, e2⟩
    · rcases org j c hj with ⟨j', c', f1, f2, f3⟩ | ⟨f1, f2⟩
      · rw [bn i i' e1] at hki
        rw [bn j j' f1] at hkj
        refine R.h.sep i' j' b' c' e2 f2 (fun e => ?_) (e3.owned hbo) (f3.held hch) k hki hkj
        subst e
        have g1 : r[i]? = some (some i') := by
          have := e1
          simp only [ro, nth_eq] at this
          split at this
          · rename_i o ho; rw [ho, this]
          · cases this
        have g2 : r[j]? = some (some i') := by
          have := f1
          simp only [ro, nth_eq] at this
          split at this
          · rename_i o ho; rw [ho, this]
          · cases this
        exact dst_get hd i j i' b.owned c.owned (zipD_get g1 hi (.inl hbo)) (zipD_get g2 hj hch) hij (.inl hbo)
      · rw [bnn j f1] at hkj; cases hkj
    · rw [bnn i e1] at hki; cases hki
  · rcases org i b hi with ⟨j, b', e1, e2, e3⟩ | ⟨e1, e2⟩
    · rw [bn i j e1] at hk'
      exact R.h.fsep j b' e2 (e3.owned hbo) k hk'
    · rw [bnn i e1] at hk'; cases hk'
  · have hi' : i < n0.n := by rw [← he']; exact hi
    simp only [bo, keepN_get hk i hi']
    exact R.l.ext i hi
  · rcases org i b hi with ⟨j, b', e1, e2, e3⟩ | ⟨e1, e2⟩
    · rw [bn i j e1] at hk'
      exact R.l.fresh j b' e2 (e3.owned ho) k hk'
    · rw [bnn i e1] at hk'; cases hk'
  · rcases org i b hi with ⟨j, b', e1, e2, e3⟩ | ⟨e1, e2⟩
    · rw [bn i j e1] at hk'
      exact R.l.views j b' e2 (e3.held ho) k hk'
    · rw [bnn i e1] at hk'; cases hk'
/-- The same, what is to be shown in one. -/
theorem Le.off {n0 : N0} {st st2 : St} (r : List (Option Nat)) (hk : keepN r n0.n = true) (hd : dst (zipD r st2.h) = true)
    (hh : (TLe r st2.t st.t ∧ bdT st2.h.length st2.t ∧ bdH st2.h.length st2.h) ∧ HLe r st.h r st2.h) : Le n0 st st2 := Le.of r hk hh.1.1 hh.2 hd hh.1.2.1 hh.1.2.2
end Go.Sx
