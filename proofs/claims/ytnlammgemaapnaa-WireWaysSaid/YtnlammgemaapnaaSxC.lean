/- The operations on virtual values: what each asks, what it yields; and that the machine's own operation does just that. -/
import Derived.Test.YtnlammgemaapnaaSxB
set_option linter.unusedSimpArgs false
set_option linter.unusedVariables false
namespace Go.Sx
open Go

/-! ### What the types say -/
section
variable (P : Program)
mutual
def ofVal : Value → Option VV
  | .bool b => some (.bool b)
  | .int k n => some (.int k n)
  | .string s => some (.str s)
  | .pointer none => some .nilPtr
  | .slice none 0 0 => some .nilSlice
  | .map none => some .nilMap
  | .nilFunc => some .nilFunc
  | .nilIface => some .nilIface
  | .agg ⟨l⟩ => (ofVals l).map .agg
  | _ => none
def ofVals : List Value → Option (List VV)
  | [] => some []
  | v :: l => match ofVal v, ofVals l with
    | some x, some xs => some (x :: xs)
    | _, _ => none
end
def tsz (t : TypeId) : Option Nat := (P.info? t).map (·.size)
def tzero (t : TypeId) : Option (List VV) := ((P.info? t).bind (·.zero)).bind fun z => ofVals z.cells.toList
def tagg (t : TypeId) : Option Bool := (P.underlying t).map fun | .struct _ | .array _ _ => true | _ => false
def tfld (t : TypeId) (f : Nat) : Option (Nat × TypeId × Nat) := match P.underlying t with
  | some (.struct fs) => match fs[f]? with
    | some x => (tsz P x.type).map fun s => (x.offset, x.type, s)
    | none => none
  | _ => none
def tarr (t : TypeId) : Option (Nat × TypeId × Nat) := match P.underlying t with
  | some (.array n e) => (tsz P e).map fun s => (n, e, s)
  | _ => none
def tsl (t : TypeId) : Option (TypeId × Nat) := match P.underlying t with
  | some (.slice e) => (tsz P e).map fun s => (e, s)
  | _ => none
def tint (t : TypeId) : Option IntKind := match P.underlying t with
  | some (.int k) => some k
  | _ => none
end

def nth {α : Type} : List α → Nat → Option α
  | [], _ => none
  | x :: _, 0 => some x
  | _ :: l, n + 1 => nth l n
theorem nth_eq {α : Type} : ∀ (l : List α) (n : Nat), nth l n = l[n]?
  | [], _ => rfl
  | _ :: _, 0 => rfl
  | _ :: l, n + 1 => by simp [nth, nth_eq l n]
def lset {α : Type} : List α → Nat → α → List α
  | [], _, _ => []
  | _ :: l, 0, y => y :: l
  | x :: l, n + 1, y => x :: lset l n y
theorem lset_eq {α : Type} : ∀ (l : List α) (n : Nat) (y : α), lset l n y = l.set n y
  | [], _, _ => rfl
  | _ :: _, 0, _ => rfl
  | x :: l, n + 1, y => by simp [lset, lset_eq l n y]
def seg {α : Type} : List α → Nat → Nat → List α
  | _, _, 0 => []
  | [], _, _ + 1 => []
  | x :: l, 0, n + 1 => x :: seg l 0 n
  | _ :: l, o + 1, n + 1 => seg l o (n + 1)
theorem seg_eq {α : Type} : ∀ (l : List α) (o n : Nat), seg l o n = (l.drop o).take n
  | l, o, 0 => by cases l <;> cases o <;> simp [seg]
  | [], o, n + 1 => by simp [seg]
  | x :: l, 0, n + 1 => by simp [seg, seg_eq l 0 n]
  | x :: l, o + 1, n + 1 => by simp [seg, seg_eq l o (n + 1)]
def splice {α : Type} : List α → Nat → List α → List α
  | l, _, [] => l
  | [], _, _ :: _ => []
  | _ :: l, 0, v :: vs => v :: splice l 0 vs
  | x :: l, o + 1, v :: vs => x :: splice l o (v :: vs)
theorem splice_eq {α : Type} : ∀ (l : List α) (o : Nat) (vs : List α), o + vs.length ≤ l.length → splice l o vs = l.take o ++ vs ++ l.drop (o + vs.length)
  | l, o, [], _ => by cases l <;> cases o <;> simp [splice]
  | [], o, v :: vs, h => by simp at h
  | x :: l, 0, v :: vs, h => by
    have := splice_eq l 0 vs (by simp at h ⊢; omega)
    simp [splice, this]
  | x :: l, o + 1, v :: vs, h => by
    have := splice_eq l o (v :: vs) (by simp at h ⊢; omega)
    have e : o + 1 + (v :: vs).length = (o + (v :: vs).length) + 1 := by omega
    rw [e]
    simp [splice, this]
theorem splice_length {α : Type} (l : List α) (o : Nat) (vs : List α) (h : o + vs.length ≤ l.length) : (splice l o vs).length = l.length := by
  rw [splice_eq l o vs h]; simp; omega
theorem mem_splice {α : Type} {l : List α} {o : Nat} {vs : List α} (h : o + vs.length ≤ l.length) {u : α} (hu : u ∈ splice l o vs) : u ∈ l ∨ u ∈ vs := by
  rw [splice_eq l o vs h] at hu
  simp only [List.mem_append] at hu
  rcases hu with (hu | hu) | hu
  · exact .inl (List.mem_of_mem_take hu)
  · exact .inr hu
  · exact .inl (List.mem_of_mem_drop hu)

def cellsV : VV → List VV
  | .agg l => l
  | v => [v]
theorem den_cells (β : Val) (v : VV) (h : oneV v = true ∨ ∃ l, v = .agg l) : (den β v).cells = (denL β (cellsV v)).toArray := by
  rcases h with h | ⟨l, rfl⟩
  · cases v <;> first | rfl | (simp [oneV] at h)
  · rfl
theorem gd_cells {β : Val} {n : Nat} {v : VV} (h : gd β n v) : gdL β n (cellsV v) := by
  cases v <;> first | exact gdL_cons h gdL_nil | exact h

mutual
theorem ofVal_den (β : Val) : ∀ (v : Value) (u : VV), ofVal v = some u → den β u = v ∧ gd β 0 u
  | .bool _, u, h | .int _ _, u, h | .string _, u, h | .nilFunc, u, h | .nilIface, u, h => by simp [ofVal] at h; subst h; exact ⟨rfl, trivial, trivial⟩
  | .pointer none, u, h | .map none, u, h => by simp [ofVal] at h; subst h; exact ⟨rfl, trivial, trivial⟩
  | .slice none 0 0, u, h => by simp [ofVal] at h; subst h; exact ⟨rfl, trivial, trivial⟩
  | .agg ⟨l⟩, u, h => by
    simp only [ofVal, Option.map_eq_some_iff] at h
    obtain ⟨xs, hxs, rfl⟩ := h
    have := ofVals_den β l xs hxs
    exact ⟨by simp only [den, this.1], this.2⟩
  | .pointer (some _), u, h | .map (some _), u, h | .float _ _, u, h | .complex _ _ _, u, h | .chan _, u, h | .func _ _ _, u, h | .iface _ _, u, h | .tuple _, u, h => by simp [ofVal] at h
  | .slice (some _) _ _, u, h | .slice none (_ + 1) _, u, h | .slice none 0 (_ + 1), u, h => by simp [ofVal] at h
theorem ofVals_den (β : Val) : ∀ (l : List Value) (us : List VV), ofVals l = some us → denL β us = l ∧ gdL β 0 us
  | [], us, h => by simp [ofVals] at h; subst h; exact ⟨rfl, trivial, trivial⟩
  | v :: l, us, h => by
    simp only [ofVals] at h
    split at h
    · rename_i x xs hx hxs
      injection h with h
      subst h
      have h1 := ofVal_den β v x hx
      have h2 := ofVals_den β l xs hxs
      exact ⟨by simp only [denL, h1.1, h2.1], gdL_cons h1.2 h2.2⟩
    · cases h
end

/-! ### The operations -/
/-- The run of an operation comes to a virtual value of which K holds. -/
def Yld (P : Program) (s : Sem Next) (β : Val) (h : List Blk) (w : World) (K : VV → List Blk → Prop) : Prop :=
  ∃ β' h' w' v, (s.run P w = .ok (.value (den β' v)) w' ∨ s.run P w = .ok .skip w' ∧ v = .tup []) ∧ RepH β' h' w' ∧ LinkN β h w β' h' w' ∧ gd β' h'.length v ∧ K v h'
/-- The same of a value's own run. -/
def YldV (P : Program) (s : Sem Value) (β : Val) (h : List Blk) (w : World) (K : VV → List Blk → Prop) : Prop :=
  ∃ β' h' w' v, s.run P w = .ok (den β' v) w' ∧ RepH β' h' w' ∧ LinkN β h w β' h' w' ∧ gd β' h'.length v ∧ K v h'
section
variable {P : Program} {β : Val} {h : List Blk} {w : World} {K : VV → List Blk → Prop}
theorem Yld.of {s : Sem Value} (hs : YldV P s β h w K) : Yld P (do pure (.value (← s))) β h w K := by
  obtain ⟨β', h', w', v, hr, rest⟩ := hs
  exact ⟨β', h', w', v, .inl (by simp [hr]), rest⟩
theorem YldV.here {s : Sem Value} {v : VV} (r : RepH β h w) (hs : s.run P w = .ok (den β v) w) (hb : gd β h.length v) (hK : K v h) : YldV P s β h w K :=
  ⟨β, h, w, v, hs, r, LinkN.refl _ _ _, hb, hK⟩
theorem YldV.here' {s : Sem Value} {v : VV} (r : RepH β h w) (hK : K v h) (hb : gd β h.length v) (hs : s.run P w = .ok (den β v) w) : YldV P s β h w K :=
  ⟨β, h, w, v, hs, r, LinkN.refl _ _ _, hb, hK⟩
theorem Yld.here {s : Sem Next} {v : VV} (r : RepH β h w) (hs : s.run P w = .ok (.value (den β v)) w) (hb : gd β h.length v) (hK : K v h) : Yld P s β h w K :=
  ⟨β, h, w, v, .inl hs, r, LinkN.refl _ _ _, hb, hK⟩

/-- The run hands back a value and leaves the world alone. -/
def Here (P : Program) (s : Sem Value) (β : Val) (h : List Blk) (w : World) (K : VV → List Blk → Prop) : Prop :=
  ∃ v, s.run P w = .ok (den β v) w ∧ gd β h.length v ∧ K v h
theorem Here.here {s : Sem Value} {v : VV} (_ : RepH β h w) (hs : s.run P w = .ok (den β v) w) (hb : gd β h.length v) (hK : K v h) : Here P s β h w K := ⟨v, hs, hb, hK⟩
theorem Here.here' {s : Sem Value} {v : VV} (_ : RepH β h w) (hK : K v h) (hb : gd β h.length v) (hs : s.run P w = .ok (den β v) w) : Here P s β h w K := ⟨v, hs, hb, hK⟩
/-- The run hands back one value in any world. -/
def HereA (P : Program) (s : Sem Value) (β : Val) (h : List Blk) (K : VV → List Blk → Prop) : Prop :=
  ∃ v, (∀ w : World, s.run P w = .ok (den β v) w) ∧ gd β h.length v ∧ K v h
theorem HereA.here {s : Sem Value} {v : VV} (hs : ∀ w : World, s.run P w = .ok (den β v) w) (hb : gd β h.length v) (hK : K v h) : HereA P s β h K := ⟨v, hs, hb, hK⟩
theorem HereA.at {s : Sem Value} (hh : HereA P s β h K) : Here P s β h w K := by
  obtain ⟨v, h1, h2, h3⟩ := hh
  exact ⟨v, h1 w, h2, h3⟩
theorem Here.yld {s : Sem Value} (hh : Here P s β h w K) (r : RepH β h w) : YldV P s β h w K := by
  obtain ⟨v, h1, h2, h3⟩ := hh
  exact YldV.here r h1 h2 h3
/-! #### Reading -/
/-- A part of a row of cells, as the type t takes it. -/
def vTake (P : Program) (t : TypeId) (l : List VV) (fo : Nat) (K : VV → Prop) : Prop :=
  match tagg P t, tsz P t with
  | some true, some s => (fo + s ≤ l.length ∧ 0 < s) ∧ K (.agg (seg l fo s))
  | some false, _ => match nth l fo with | some v => K v | none => False
  | _, _ => False
def vCont (b : Blk) (idx sz : Nat) (K : List VV → Prop) : Prop :=
  match b with
  | .cells _ _ l => idx = 0 ∧ K l
  | .row sz' n el => sz = sz' ∧ idx < n ∧ K (el idx)
  | .own _ sz' n _ el => sz = sz' ∧ idx < n ∧ K (el idx)
  | .gone => False
  | .map .. => False
def vLoad (P : Program) (t : TypeId) (p : VV) (h : List Blk) (K : VV → List Blk → Prop) : Prop :=
  match p with
  | .ptr id idx sz fo => match nth h id with
    | some b => vCont b idx sz fun l => vTake P t l fo fun v => K v h
    | none => False
  | .rp _ idx _ fo _ el => vTake P t (el idx) fo fun v => K v h
  | _ => False

theorem isAgg_run (t : TypeId) (b : Bool) (ht : tagg P t = some b) : (isAgg t).run P w = .ok b w := by
  unfold tagg at ht
  cases hu : P.underlying t with
  | none => simp [hu] at ht
  | some d =>
    simp only [hu, Option.map_some, Option.some.injEq] at ht
    unfold isAgg
    simp only [Sem.run_bind, run_underlying hu, Result.andThen_ok]
    cases d <;> simp_all
theorem sizeOf_run (t : TypeId) (s : Nat) (ht : tsz P t = some s) : (sizeOf t).run P w = .ok s w := by
  unfold tsz at ht
  cases hu : P.info? t with
  | none => simp [hu] at ht
  | some i =>
    simp only [hu, Option.map_some, Option.some.injEq] at ht
    simp [sizeOf, typeInfo, hu, ht]

/-- The cells at a pointer. -/
theorem cont_cells {id idx sz : Nat} {b : Blk} {K' : List VV → Prop} (r : RepH β h w) (hb : h[id]? = some b) (hc : vCont b idx sz K') :
    ∃ l, K' l ∧ gdL β h.length l ∧ (∀ u ∈ l, oneV u = true) ∧ (0 < l.length → ∃ g o, β id = some (g, o) ∧ ∀ i u, l[i]? = some u → w.cell? ⟨g, o + (idx * sz + i), none⟩ = some (den β u)) := by
  have hr := r.blk id b hb
  cases b with
  | gone => exact hc.elim
  | map o es ck => exact hc.elim
  | cells o ty l =>
    obtain ⟨rfl, hK⟩ := hc
    obtain ⟨⟨g, hg, hh⟩, hbd, h1⟩ := hr
    refine ⟨l, hK, hbd, h1, fun _ => ⟨g, 0, hg, fun i u hu => ?_⟩⟩
    rw [cell_of_row w g _ _ _ _ hh]
    simp [denL_get, hu]
  | row sz' n el =>
    obtain ⟨rfl, hi, hK⟩ := hc
    obtain ⟨_, he, hcell⟩ := hr
    have he := he idx hi
    refine ⟨el idx, hK, he.2.1, he.2.2, fun hp => ?_⟩
    obtain ⟨g, o, hg, hc⟩ := hcell (by omega) (by rw [← he.1]; exact hp)
    exact ⟨g, o, hg, fun i u hu => hc idx hi i u hu⟩
  | own ty sz' n cap el =>
    obtain ⟨rfl, hi, hK⟩ := hc
    obtain ⟨hle, _, he, hcase⟩ := hr
    have he := he idx hi
    obtain ⟨g, cur, hg, hh, hsz, hcell⟩ := hcase.resolve_left (fun e => by have := e.2; omega)
    refine ⟨el idx, hK, he.2.1, he.2.2, fun _ => ⟨g, 0, hg, fun i u hu => ?_⟩⟩
    rw [cell_of_row w g _ _ _ _ hh, Nat.zero_add, hcell idx hi i u hu]

theorem take_run {t : TypeId} {l : List VV} {fo : Nat} {K' : VV → Prop} (ht : vTake P t l fo K') (hbd : gdL β h.length l) :
    ∃ v, K' v ∧ gd β h.length v ∧ (tagg P t = some true ∧ (∃ s, tsz P t = some s ∧ (fo + s ≤ l.length ∧ 0 < s) ∧ v = .agg (seg l fo s)) ∨ tagg P t = some false ∧ l[fo]? = some v) := by
  unfold vTake at ht
  split at ht
  · rename_i s ha hs
    refine ⟨_, ht.2, ?_, .inl ⟨ha, s, hs, ht.1, rfl⟩⟩
    show gdL β h.length (seg l fo _)
    rw [seg_eq, gdL_iff]
    intro v hv
    exact (gdL_iff _ _ _).1 hbd v (List.mem_of_mem_drop (List.mem_of_mem_take hv))
  · rename_i ha
    rw [nth_eq] at ht
    split at ht
    · rename_i v hv
      exact ⟨v, ht, gd_mem hbd hv, .inr ⟨ha, hv⟩⟩
    · exact ht.elim
  · exact ht.elim

theorem add_at (g o j : Nat) : (⟨g, o, none⟩ : Addr).add j = ⟨g, o + j, none⟩ := by unfold Addr.add; split <;> simp_all

/-- The cells at a place in a row that is kept for good. -/
theorem rp_cells {p : Nat × Nat} {idx sz fo n : Nat} {el : Nat → List VV} (r : RepH β h w) (hb : gd β h.length (.rp p idx sz fo n el)) :
    idx < n ∧ (el idx).length = sz ∧ gdL β h.length (el idx) ∧ (∀ u ∈ el idx, oneV u = true) ∧ ∀ i u, (el idx)[i]? = some u → w.cell? ⟨p.1, p.2 + (idx * sz + i), none⟩ = some (den β u) := by
  obtain ⟨hi, hj⟩ := hb.2
  obtain ⟨⟨h1, h2, h3, h4⟩, h5⟩ := hj idx hi
  refine ⟨hi, h1, ⟨bdL_mono (Nat.zero_le _) _ h2, h5⟩, h3, fun i u hu => ?_⟩
  rw [h4 w r.fz i u hu, den_congr (β := noVal) (β' := β) (n := 0) (fun i hi => by omega) u (bd_mem h2 hu)]
theorem take_load {t : TypeId} {l : List VV} {fo g o base : Nat} {v : VV} (hc : tagg P t = some true ∧ (∃ s, tsz P t = some s ∧ (fo + s ≤ l.length ∧ 0 < s) ∧ v = .agg (seg l fo s)) ∨ tagg P t = some false ∧ l[fo]? = some v)
    (hcell : ∀ i u, l[i]? = some u → w.cell? ⟨g, o + (base + i), none⟩ = some (den β u)) : (loadVar t ⟨g, o + (base + fo), none⟩).run P w = .ok (den β v) w := by
  rcases hc with ⟨ha, s, hs, hle, rfl⟩ | ⟨ha, hl⟩
  · have hrun := run_loadCells_list (P := P) w ⟨g, o + (base + fo), none⟩ (denL β (seg l fo s)) (fun j u hu => by
      rw [add_at]
      rw [denL_get] at hu
      simp only [Option.map_eq_some_iff] at hu
      obtain ⟨x, hx, rfl⟩ := hu
      have := hcell (fo + j) x (by rw [seg_eq, List.getElem?_take] at hx; split at hx; · simpa using hx
                                   · cases hx)
      rw [← this]; congr 2; omega)
    have hlen : (denL β (seg l fo s)).length = s := by rw [denL_length, seg_eq]; simp; omega
    rw [hlen] at hrun
    simp only [loadVar, Sem.run_bind, isAgg_run t true ha, Result.andThen_ok, if_true, sizeOf_run t s hs, hrun, Sem.run_pure, den]
  · have := hcell fo v hl
    simp only [loadVar, Sem.run_bind, isAgg_run t false ha, Result.andThen_ok, Bool.false_eq_true, if_false, run_load, this]
theorem vLoad_run {t : TypeId} {p : VV} (hv : vLoad P t p h K) (r : RepH β h w) (hbp : gd β h.length p) : ∃ v, (Instr.loadAt t (den β p)).run P w = .ok (den β v) w ∧ gd β h.length v ∧ K v h := by
  unfold vLoad at hv
  split at hv
  · rename_i id idx sz fo
    rw [nth_eq] at hv
    split at hv
    · rename_i b hb
      obtain ⟨l, hK, hbd, h1, hc⟩ := cont_cells r hb hv
      obtain ⟨v, hKv, hbv, hcase⟩ := take_run hK hbd
      refine ⟨v, ?_, hbv, hKv⟩
      rcases hcase with ⟨ha, s, hs, hle, rfl⟩ | ⟨ha, hl⟩
      · have hlp : 0 < l.length := by omega
        obtain ⟨g, o, hg, hcell⟩ := hc hlp
        have hrun := run_loadCells_list (P := P) w ⟨g, o + (idx * sz + fo), none⟩ (denL β (seg l fo s)) (fun j u hu => by
          rw [add_at]
          rw [denL_get] at hu
          simp only [Option.map_eq_some_iff] at hu
          obtain ⟨x, hx, rfl⟩ := hu
          have := hcell (fo + j) x (by rw [seg_eq, List.getElem?_take] at hx; split at hx; · simpa using hx
                                       · cases hx)
          rw [← this]; congr 2; omega)
        have hlen : (denL β (seg l fo s)).length = s := by rw [denL_length, seg_eq]; simp; omega
        rw [hlen] at hrun
        simp only [Instr.loadAt, den, adr, hg, Option.map_some, Instr.sureAddr, Sem.run_bind, Sem.run_pure, Result.andThen_ok, loadVar, isAgg_run t true ha, if_true, sizeOf_run t s hs, hrun]
      · have hlp : 0 < l.length := by have := (List.getElem?_eq_some_iff.1 hl).1; omega
        obtain ⟨g, o, hg, hcell⟩ := hc hlp
        have := hcell fo v hl
        simp only [Instr.loadAt, den, adr, hg, Option.map_some, Instr.sureAddr, Sem.run_bind, Sem.run_pure, Result.andThen_ok, loadVar, isAgg_run t false ha, Bool.false_eq_true, if_false, Nat.add_assoc, run_load, this]
    · exact hv.elim
  · rename_i p idx sz fo n el
    obtain ⟨hi, hl, hg, h1, hcell⟩ := rp_cells r hbp
    obtain ⟨v, hKv, hbv, hcase⟩ := take_run hv hg
    refine ⟨v, ?_, hbv, hKv⟩
    simp only [Instr.loadAt, den, Instr.sureAddr, Sem.run_bind, Sem.run_pure, Result.andThen_ok]
    exact take_load hcase hcell
  · exact hv.elim

theorem vLoad_ok {t : TypeId} {p : VV} (hv : vLoad P t p h K) (r : RepH β h w) (hbp : gd β h.length p) : Here P (Instr.loadAt t (den β p)) β h w K := by
  obtain ⟨v, h1, h2, h3⟩ := vLoad_run hv r hbp
  exact Here.here' r h3 h2 h1

/-! #### Writing, and new memory -/
def vStore (P : Program) (t : TypeId) (p v : VV) (h : List Blk) (K : VV → List Blk → Prop) : Prop :=
  match p with
  | .ptr id idx sz fo => match nth h id with
    | some (.cells true ty l) => (idx = 0 ∧ tsz P t = some (cellsV v).length ∧ fo + (cellsV v).length ≤ l.length ∧ (cellsV v).all oneV = true ∧ isTup v = false) ∧ K (.tup []) (lset h id (.cells true ty (splice l fo (cellsV v))))
    | some (.own ty sz' n cap el) => (sz = sz' ∧ idx < n ∧ tsz P t = some (cellsV v).length ∧ fo + (cellsV v).length ≤ sz' ∧ (cellsV v).all oneV = true ∧ isTup v = false) ∧ K (.tup []) (lset h id (.own ty sz' n cap fun j => if j = idx then splice (el idx) fo (cellsV v) else el j))
    | _ => False
  | _ => False
where isTup : VV → Bool
  | .tup _ => true
  | _ => false
theorem den_cells' (β : Val) (v : VV) (h : vStore.isTup v = false) : (den β v).cells = (denL β (cellsV v)).toArray := by
  cases v <;> first | rfl | (simp [vStore.isTup] at h)
theorem setRow_heap_other (w : World) (g k : Nat) (cs : Array Value) (h : k ≠ g) : (w.setRow g cs).heap[k]? = w.heap[k]? := setRow_other w g k cs h

theorem storeVar_run {t : TypeId} {g o : Nat} {ty : TypeId} {cur : Array Value} {v : VV} (hg : w.heap[g]? = some (.cells cur ty (0, 0))) (hs : tsz P t = some (cellsV v).length)
    (ht : vStore.isTup v = false) (ho : o + (cellsV v).length ≤ cur.size) (h1 : ∀ u ∈ cellsV v, oneV u = true) :
    (storeVar t ⟨g, o, none⟩ (den β v)).run P w = .ok () (w.setRow g (cur.toList.take o ++ denL β (cellsV v) ++ cur.toList.drop (o + (cellsV v).length)).toArray) := by
  have hc := den_cells' β v ht
  have := run_storeCells_at (P := P) g o ty (denL β (cellsV v)) 0 cur w hg (by rw [denL_length]; omega) (fun u hu => by
    rw [denL_map] at hu
    obtain ⟨x, hx, rfl⟩ := List.mem_map.1 hu
    exact den_one β x (h1 x hx))
  simp only [Nat.add_zero, denL_length] at this
  simp only [storeVar, Sem.run_bind, sizeOf_run t _ hs, Result.andThen_ok, hc, List.size_toArray, denL_length, ne_eq, not_true_eq_false, if_false, this, Sem.run_pure, bind_pure_comp, Sem.run_ite]

theorem vStore_ok {t : TypeId} {p v : VV} (hv : vStore P t p v h K) (r : RepH β h w) (hbv : gd β h.length v) :
    Yld P (do Instr.storeAt t (den β p) (den β v); pure .skip) β h w K := by
  unfold vStore at hv
  split at hv
  · rename_i id idx sz fo
    rw [nth_eq] at hv
    split at hv
    · rename_i ty l hb
      obtain ⟨⟨rfl, hs, ho, h1, ht⟩, hK⟩ := hv
      obtain ⟨⟨g, hg, hh⟩, hbd, hone⟩ := r.blk id _ hb
      rw [List.all_eq_true] at h1
      have hst := storeVar_run (P := P) (β := β) (t := t) (o := fo) hh hs ht (by simpa [denL_length] using ho) h1
      have hrun : (Instr.storeAt t (den β (.ptr id 0 sz fo)) (den β v)).run P w = .ok () (w.setRow g (denL β (splice l fo (cellsV v))).toArray) := by
        simp only [Instr.storeAt, den, adr, hg, Option.map_some, Instr.sureAddr, Sem.run_bind, Sem.run_pure, Result.andThen_ok, Nat.zero_mul, Nat.zero_add]
        rw [hst]
        congr 3
        simp only [splice_eq l fo _ ho, denL_map, List.map_append, List.map_take, List.map_drop]
      rw [lset_eq] at hK
      have hkeep : ∀ k, bno β id ≠ some k → (w.setRow g (denL β (splice l fo (cellsV v))).toArray).heap[k]? = w.heap[k]? := fun k hk =>
        setRow_other w g k _ (fun e => hk (by simp [bno, hg, e]))
      refine ⟨β, _, _, .tup [], .inr ⟨by simp [hrun], rfl⟩, r.set (b' := .cells true ty (splice l fo (cellsV v))) hb rfl hkeep ?_, LinkN.set hb rfl rfl rfl rfl (by simp [World.setRow]) (fun k hk _ => hkeep k hk), ⟨trivial, trivial⟩, hK⟩
      refine ⟨⟨g, hg, ?_⟩, ?_, ?_⟩
      · exact setRow_heap w g _ _ ty _ hh
      · rw [gdL_iff]; intro u hu
        rcases mem_splice ho hu with h2 | h2
        · exact (gdL_iff _ _ _).1 hbd u h2
        · exact (gdL_iff _ _ _).1 (gd_cells hbv) u h2
      · intro u hu
        rcases mem_splice ho hu with h2 | h2
        · exact hone u h2
        · exact h1 u h2
    · rename_i ty sz' n cap el hb
      obtain ⟨⟨rfl, hidx, hs, ho, h1, ht⟩, hK⟩ := hv
      obtain ⟨hn, hcap, he, hcase⟩ := r.blk id _ hb
      obtain ⟨g, cur, hg, hh, hsz, hcell⟩ := hcase.resolve_left (fun e => by have := e.2; omega)
      rw [List.all_eq_true] at h1
      have hle : idx * sz + sz ≤ cur.size := by
        rw [hsz, ← Nat.succ_mul]; exact Nat.mul_le_mul_right _ (by omega)
      have hst := storeVar_run (P := P) (β := β) (t := t) (o := idx * sz + fo) hh hs ht (by omega) h1
      have hrun : (Instr.storeAt t (den β (.ptr id idx sz fo)) (den β v)).run P w = .ok () (w.setRow g (cur.toList.take (idx * sz + fo) ++ denL β (cellsV v) ++ cur.toList.drop (idx * sz + fo + (cellsV v).length)).toArray) := by
        simp only [Instr.storeAt, den, adr, hg, Option.map_some, Instr.sureAddr, Sem.run_bind, Sem.run_pure, Result.andThen_ok, Nat.zero_add]
        rw [hst]
      rw [lset_eq] at hK
      have hkeep : ∀ k, bno β id ≠ some k → (w.setRow g (cur.toList.take (idx * sz + fo) ++ denL β (cellsV v) ++ cur.toList.drop (idx * sz + fo + (cellsV v).length)).toArray).heap[k]? = w.heap[k]? := fun k hk =>
        setRow_other w g k _ (fun e => hk (by simp [bno, hg, e]))
      have hel := he idx hidx
      have ho' : fo + (cellsV v).length ≤ (el idx).length := by rw [hel.1]; exact ho
      refine ⟨β, _, _, .tup [], .inr ⟨by simp [hrun], rfl⟩, r.set (b' := .own ty sz n cap fun j => if j = idx then splice (el idx) fo (cellsV v) else el j) hb rfl hkeep ?_, LinkN.set hb rfl rfl rfl rfl (by simp [World.setRow]) (fun k hk _ => hkeep k hk), ⟨trivial, trivial⟩, hK⟩
      refine ⟨hn, hcap, fun j hj => ?_, .inr ⟨g, _, hg, setRow_heap w g _ _ ty _ hh, ?_, fun j hj i u hu => ?_⟩⟩
      · by_cases e : j = idx
        · subst e
          simp only [if_true]
          refine ⟨by rw [splice_length _ _ _ ho', hel.1], ?_, fun u hu => ?_⟩
          · rw [gdL_iff]; intro u hu
            rcases mem_splice ho' hu with h2 | h2
            · exact (gdL_iff _ _ _).1 hel.2.1 u h2
            · exact (gdL_iff _ _ _).1 (gd_cells hbv) u h2
          · rcases mem_splice ho' hu with h2 | h2
            · exact hel.2.2 u h2
            · exact h1 u h2
        · simp only [if_neg e]; exact he j hj
      · simp [denL_length]; omega
      · rw [List.getElem?_toArray]
        by_cases e : j = idx
        · subst e
          simp only [if_true] at hu
          rw [splice_eq _ _ _ ho'] at hu
          have hi : i < sz := by
            have := (List.getElem?_eq_some_iff.1 hu).1
            rw [← hel.1]
            simp at this; omega
          rcases Nat.lt_or_ge i fo with h3 | h3
          · rw [List.append_assoc, List.getElem?_append_left (by simp; omega), List.getElem?_take] at hu
            rw [List.append_assoc, List.getElem?_append_left (by simp; omega), List.getElem?_take, if_pos (by omega)]
            simp only [h3, if_true] at hu
            have := hcell j hj i u hu
            simpa using this
          · rcases Nat.lt_or_ge i (fo + (cellsV v).length) with h4 | h4
            · rw [List.append_assoc, List.getElem?_append_right (by simp; omega), List.getElem?_append_left (by simp; omega)] at hu
              rw [List.append_assoc, List.getElem?_append_right (by simp; omega), List.getElem?_append_left (by simp [denL_length]; omega), denL_get]
              have e1 : i - (List.take fo (el j)).length = i - fo := by simp; omega
              have e2 : j * sz + i - (List.take (j * sz + fo) cur.toList).length = i - fo := by simp; omega
              rw [e1] at hu
              rw [e2, hu]; rfl
            · rw [List.getElem?_append_right (by simp; omega), List.getElem?_drop] at hu
              rw [List.getElem?_append_right (by simp [denL_length]; omega), List.getElem?_drop]
              have e1 : fo + (cellsV v).length + (i - (List.take fo (el j) ++ cellsV v).length) = i := by simp; omega
              rw [e1] at hu
              have e2 : j * sz + fo + (cellsV v).length + (j * sz + i - (List.take (j * sz + fo) cur.toList ++ denL β (cellsV v)).length) = j * sz + i := by simp [denL_length]; omega
              rw [e2]
              have := hcell j hj i u hu
              simpa using this
        · simp only [if_neg e] at hu
          have hi : i < sz := by
            have := (List.getElem?_eq_some_iff.1 hu).1
            rw [← (he j hj).1]; exact this
          have := hcell j hj i u hu
          have hcur : cur.toList[j * sz + i]? = some (den β u) := by simpa using this
          rcases Nat.lt_or_ge j idx with h3 | h3
          · have : j * sz + sz ≤ idx * sz := by rw [← Nat.succ_mul]; exact Nat.mul_le_mul_right _ h3
            rw [List.append_assoc, List.getElem?_append_left (by simp; omega), List.getElem?_take, if_pos (by omega)]
            exact hcur
          · have : idx * sz + sz ≤ j * sz := by rw [← Nat.succ_mul]; exact Nat.mul_le_mul_right _ (by omega)
            rw [List.getElem?_append_right (by simp [denL_length]; omega), List.getElem?_drop]
            have e2 : idx * sz + fo + (cellsV v).length + (j * sz + i - (List.take (idx * sz + fo) cur.toList ++ denL β (cellsV v)).length) = j * sz + i := by simp [denL_length]; omega
            rw [e2]; exact hcur
    · exact hv.elim
  · exact hv.elim

/-- A new block of known cells. -/
theorem new_ok {t : TypeId} {l : List VV} (r : RepH β h w) (hbd : gdL β h.length l) (h1 : ∀ u ∈ l, oneV u = true) :
    RepH (upd β h.length (some (w.heap.size, 0))) (h ++ [.cells true t l]) (w.alloc (.cells (denL β l).toArray t)) ∧
    LinkN β h w (upd β h.length (some (w.heap.size, 0))) (h ++ [.cells true t l]) (w.alloc (.cells (denL β l).toArray t)) := by
  have hk : ∀ k, k < w.heap.size → (w.alloc (.cells (denL β l).toArray t)).heap[k]? = w.heap[k]? := fun k hk => heap_alloc_old w _ hk
  refine ⟨r.push (Nat.le_refl _) hk ?_, LinkN.push (Nat.le_refl _) rfl rfl rfl (by simp) hk⟩
  refine ⟨⟨w.heap.size, upd_same _ _ _, ?_⟩, gdL_mono (by omega) (FLe.refl _) hbd, h1⟩
  rw [denL_congr (β := β) (n := h.length) (fun i hi => upd_old _ _ _ _ hi) l hbd.1]
  exact heap_alloc_new w _
def vNew (t : TypeId) (l : List VV) (h : List Blk) (K : VV → List Blk → Prop) : Prop :=
  l.all oneV = true ∧ K (.ptr h.length 0 0 0) (h ++ [.cells true t l])
def vAlloc (P : Program) (t : TypeId) (h : List Blk) (K : VV → List Blk → Prop) : Prop :=
  match tzero P t with
  | some l => vNew t l h K
  | none => False
theorem vNew_ok {t : TypeId} {l : List VV} (hv : vNew t l h K) (r : RepH β h w) (hbd : gdL β h.length l) : YldV P (do pure (.pointer (some (← newRow t (denL β l).toArray)))) β h w K := by
  obtain ⟨h1, hK⟩ := hv
  rw [List.all_eq_true] at h1
  obtain ⟨r', l'⟩ := new_ok (t := t) r hbd h1
  refine ⟨_, _, _, .ptr h.length 0 0 0, ?_, r', l', by simp [gd, bd, okV], hK⟩
  simp only [newRow, Sem.run_bind, run_newObj, Result.andThen_ok, Sem.run_pure, den, adr, upd_same, Option.map_some, Nat.zero_mul, Nat.add_zero]
  rfl
theorem vAlloc_ok {t : TypeId} (hv : vAlloc P t h K) (r : RepH β h w) : YldV P (Instr.alloc t true (.tuple #[])) β h w K := by
  unfold vAlloc at hv
  split at hv
  · rename_i l hl
    unfold tzero at hl
    simp only [Option.bind_eq_some_iff] at hl
    obtain ⟨z, ⟨i, hi, hz⟩, hzl⟩ := hl
    obtain ⟨hd, hb⟩ := ofVals_den β _ _ hzl
    have := vNew_ok (P := P) hv r (gdL_mono (Nat.zero_le _) (FLe.refl _) hb)
    rw [hd, Array.toArray_toList] at this
    obtain ⟨β', h', w', v, hr, rest⟩ := this
    refine ⟨β', h', w', v, ?_, rest⟩
    rw [← hr]
    simp [Instr.alloc, zeroValue, typeInfo, hi, hz, newVar]
  · exact hv.elim
def vBox (t : TypeId) (v : VV) (h : List Blk) (K : VV → List Blk → Prop) : Prop := vStore.isTup v = false ∧ vNew t (cellsV v) h K
theorem vBox_ok {t : TypeId} {v : VV} (hv : vBox t v h K) (r : RepH β h w) (hbv : gd β h.length v) : YldV P (Instr.box t (den β v)) β h w K := by
  have := vNew_ok (P := P) hv.2 r (gd_cells hbv)
  rw [← den_cells' β v hv.1] at this
  exact this

/-! #### Addresses -/
/-- The pointer points at something. -/
def vAt (id idx sz : Nat) (h : List Blk) : Prop :=
  match nth h id with
  | some b => vCont b idx sz fun l => 0 < l.length
  | none => False
theorem vAt_ok {id idx sz : Nat} (hv : vAt id idx sz h) (r : RepH β h w) : ∃ p, β id = some p := by
  unfold vAt at hv
  rw [nth_eq] at hv
  split at hv
  · rename_i b hb
    obtain ⟨l, hl, _, _, hc⟩ := cont_cells r hb hv
    obtain ⟨g, o, hg, _⟩ := hc hl
    exact ⟨_, hg⟩
  · exact hv.elim
def vFieldAddr (P : Program) (s : TypeId) (p : VV) (f : Nat) (h : List Blk) (K : VV → List Blk → Prop) : Prop :=
  match p, tfld P s f with
  | .ptr id idx sz fo, some (off, _, fs) => (0 < fs ∧ vAt id idx sz h) ∧ K (.ptr id idx sz (fo + off)) h
  | .rp p idx sz fo n el, some (off, _, fs) => 0 < fs ∧ K (.rp p idx sz (fo + off) n el) h
  | _, _ => False
theorem bd_lt {id : Nat} {b : Blk} (hb : h[id]? = some b) : id < h.length := (List.getElem?_eq_some_iff.1 hb).1
theorem vAt_lt {id idx sz : Nat} (hv : vAt id idx sz h) : id < h.length := by
  unfold vAt at hv
  rw [nth_eq] at hv
  split at hv
  · rename_i b hb; exact bd_lt hb
  · exact hv.elim
theorem vFieldAddr_any {s : TypeId} {p : VV} {f : Nat} (hv : vFieldAddr P s p f h K) (r : RepH β h w) (hbp : gd β h.length p) : HereA P (Instr.fieldAt s (den β p) f) β h K := by
  unfold vFieldAddr at hv
  split at hv
  · rename_i id idx sz fo off t fs hf
    obtain ⟨⟨hp, ha⟩, hK⟩ := hv
    obtain ⟨⟨g, o⟩, hg⟩ := vAt_ok ha r
    unfold tfld at hf
    split at hf
    · rename_i fds hu
      split at hf
      · rename_i x hx
        simp only [Option.map_eq_some_iff, Prod.mk.injEq] at hf
        obtain ⟨s', hs', rfl, rfl, rfl⟩ := hf
        refine HereA.here ?_ (gd_ptr (vAt_lt ha)) hK
        intro w
        simp only [Instr.fieldAt, Sem.run_bind, run_underlying hu, Result.andThen_ok, hx, den, adr, hg, Option.map_some, Instr.sureAddr, Sem.run_pure, fieldPlace, sizeOf_run _ _ hs', Sem.run_ite]
        rw [if_neg (by omega)]
        simp only [Sem.run_pure, Result.andThen_ok, add_at, Nat.add_assoc]
      · cases hf
    · cases hf
  · rename_i p idx sz fo n el off t fs hf
    obtain ⟨hp, hK⟩ := hv
    unfold tfld at hf
    split at hf
    · rename_i fds hu
      split at hf
      · rename_i x hx
        simp only [Option.map_eq_some_iff, Prod.mk.injEq] at hf
        obtain ⟨s', hs', rfl, rfl, rfl⟩ := hf
        refine HereA.here (v := .rp p idx sz (fo + x.offset) n el) ?_ ⟨trivial, hbp.2⟩ hK
        intro w
        simp only [Instr.fieldAt, Sem.run_bind, run_underlying hu, Result.andThen_ok, hx, den, Instr.sureAddr, Sem.run_pure, fieldPlace, sizeOf_run _ _ hs', Sem.run_ite]
        rw [if_neg (by omega)]
        simp only [Sem.run_pure, Result.andThen_ok, add_at, Nat.add_assoc]
      · cases hf
    · cases hf
  · exact hv.elim
theorem vFieldAddr_ok {s : TypeId} {p : VV} {f : Nat} (hv : vFieldAddr P s p f h K) (r : RepH β h w) (hbp : gd β h.length p) : Here P (Instr.fieldAt s (den β p) f) β h w K := (vFieldAddr_any hv r hbp).at
def vIndexAddr (P : Program) (t : TypeId) (x i : VV) (h : List Blk) (K : VV → List Blk → Prop) : Prop :=
  match x, i with
  | .slice id len _, .int _ i => match tsl P t, nth h id with
    | some (_, s), some b => (0 ≤ i ∧ i < len) ∧ vCont b i.toNat s (fun l => 0 < l.length) ∧ K (.ptr id i.toNat s 0) h
    | _, _ => False
  | .ptr id idx sz fo, .int _ i => match tarr P t with
    | some (n, _, s) => (0 ≤ i ∧ i < n) ∧ vAt id idx sz h ∧ K (.ptr id idx sz (fo + i.toNat * s)) h
    | none => False
  | .ro p sz n _ el, .int _ i => match tsl P t with
    | some (_, s) => s = sz ∧ (0 ≤ i ∧ i < n) ∧ K (.rp (p.getD (0, 0)) i.toNat sz 0 n el) h
    | none => False
  | .asl id idx sz fo esz n _, .int _ i => match tsl P t with
    | some (_, s) => s = esz ∧ (0 ≤ i ∧ i < n) ∧ vAt id idx sz h ∧ K (.ptr id idx sz (fo + i.toNat * esz)) h
    | none => False
  | .rp p idx sz fo n el, .int _ i => match tarr P t with
    | some (m, _, s) => (0 ≤ i ∧ i < m) ∧ K (.rp p idx sz (fo + i.toNat * s) n el) h
    | none => False
  | _, _ => False
theorem vIndexAddr_any {t : TypeId} {x i : VV} (hv : vIndexAddr P t x i h K) (r : RepH β h w) (hbx : gd β h.length x) : HereA P (Instr.indexAt t (den β x) (den β i)) β h K := by
  unfold vIndexAddr at hv
  split at hv
  · rename_i id len cap k i
    rw [nth_eq] at hv
    split at hv
    · rename_i e s b ht hb
      obtain ⟨⟨h0, hlt⟩, hc, hK⟩ := hv
      obtain ⟨l, hl, _, _, hcell⟩ := cont_cells r hb hc
      obtain ⟨g, o, hg, _⟩ := hcell hl
      unfold tsl at ht
      split at ht
      · rename_i e' hu
        simp only [Option.map_eq_some_iff, Prod.mk.injEq] at ht
        obtain ⟨s', hs', rfl, rfl⟩ := ht
        refine HereA.here ?_ (gd_ptr (bd_lt hb)) hK
        intro w
        simp only [Instr.indexAt, asIntOf, den, Sem.run_bind, Sem.run_pure, Result.andThen_ok, run_underlying hu, adr, hg, Option.map_some, sizeOf_run _ _ hs', Bool.and_false, Bool.false_eq_true, if_false, Sem.run_ite]
        rw [if_pos ⟨h0, hlt⟩]
        simp only [Sem.run_pure, Sem.run_bind, sizeOf_run _ _ hs', Result.andThen_ok, add_at, Nat.add_zero]
      · cases ht
    · exact hv.elim
  · rename_i id idx sz fo k i
    split at hv
    · rename_i n e s ht
      obtain ⟨⟨h0, hlt⟩, ha, hK⟩ := hv
      obtain ⟨⟨g, o⟩, hg⟩ := vAt_ok ha r
      unfold tarr at ht
      split at ht
      · rename_i n' e' hu
        simp only [Option.map_eq_some_iff, Prod.mk.injEq] at ht
        obtain ⟨s', hs', rfl, rfl, rfl⟩ := ht
        refine HereA.here ?_ (gd_ptr (vAt_lt ha)) hK
        intro w
        simp only [Instr.indexAt, asIntOf, den, Sem.run_bind, Sem.run_pure, Result.andThen_ok, run_underlying hu, adr, hg, Option.map_some, Instr.sureAddr, Sem.run_ite]
        rw [if_pos ⟨h0, hlt⟩]
        simp only [Sem.run_pure, Sem.run_bind, sizeOf_run _ _ hs', Result.andThen_ok, add_at, Nat.add_assoc]
      · cases ht
    · exact hv.elim
  · rename_i p sz n cap el k i
    split at hv
    · rename_i e s ht
      obtain ⟨rfl, ⟨h0, hlt⟩, hK⟩ := hv
      unfold tsl at ht
      split at ht
      · rename_i e' hu
        simp only [Option.map_eq_some_iff, Prod.mk.injEq] at ht
        obtain ⟨s', hs', rfl, rfl⟩ := ht
        obtain ⟨⟨hn, _, hp⟩, hj⟩ := hbx.2
        cases p with
        | none => have := hp rfl; omega
        | some q =>
          refine HereA.here (v := .rp q i.toNat s' 0 n el) ?_ ⟨trivial, by omega, fun j hj' => ⟨⟨(hj j hj').1.1, (hj j hj').1.2.1, (hj j hj').1.2.2.1, fun w hw => (hj j hj').1.2.2.2 q.1 q.2 rfl w hw⟩, (hj j hj').2⟩⟩ hK
          intro w
          simp only [Instr.indexAt, asIntOf, den, Sem.run_bind, Sem.run_pure, Result.andThen_ok, run_underlying hu, Option.map_some, Bool.and_false, Bool.false_eq_true, if_false, Sem.run_ite]
          rw [if_pos ⟨h0, hlt⟩]
          simp only [Sem.run_pure, Sem.run_bind, sizeOf_run _ _ hs', Result.andThen_ok, add_at, Nat.add_zero]
      · cases ht
    · exact hv.elim
  · rename_i id idx sz fo esz n cap k i
    split at hv
    · rename_i e s ht
      obtain ⟨rfl, ⟨h0, hlt⟩, ha, hK⟩ := hv
      obtain ⟨⟨g, o⟩, hg⟩ := vAt_ok ha r
      unfold tsl at ht
      split at ht
      · rename_i e' hu
        simp only [Option.map_eq_some_iff, Prod.mk.injEq] at ht
        obtain ⟨s', hs', rfl, rfl⟩ := ht
        refine HereA.here ?_ (gd_ptr (vAt_lt ha)) hK
        intro w
        simp only [Instr.indexAt, asIntOf, den, Sem.run_bind, Sem.run_pure, Result.andThen_ok, run_underlying hu, adr, hg, Option.map_some, Bool.and_false, Bool.false_eq_true, if_false, Sem.run_ite]
        rw [if_pos ⟨h0, hlt⟩]
        simp only [Sem.run_pure, Sem.run_bind, sizeOf_run _ _ hs', Result.andThen_ok, add_at, Nat.add_assoc]
      · cases ht
    · exact hv.elim
  · rename_i p idx sz fo n el k i
    split at hv
    · rename_i m e s ht
      obtain ⟨⟨h0, hlt⟩, hK⟩ := hv
      unfold tarr at ht
      split at ht
      · rename_i n' e' hu
        simp only [Option.map_eq_some_iff, Prod.mk.injEq] at ht
        obtain ⟨s', hs', rfl, rfl, rfl⟩ := ht
        refine HereA.here (v := .rp p idx sz (fo + i.toNat * s') n el) ?_ ⟨trivial, hbx.2⟩ hK
        intro w
        simp only [Instr.indexAt, asIntOf, den, Sem.run_bind, Sem.run_pure, Result.andThen_ok, run_underlying hu, Instr.sureAddr, Sem.run_ite]
        rw [if_pos ⟨h0, hlt⟩]
        simp only [Sem.run_pure, Sem.run_bind, sizeOf_run _ _ hs', Result.andThen_ok, add_at, Nat.add_assoc]
      · cases ht
    · exact hv.elim
  · exact hv.elim
theorem vIndexAddr_ok {t : TypeId} {x i : VV} (hv : vIndexAddr P t x i h K) (r : RepH β h w) (hbx : gd β h.length x) : Here P (Instr.indexAt t (den β x) (den β i)) β h w K := (vIndexAddr_any hv r hbx).at
def vNilCheck (x : VV) (h : List Blk) (K : VV → List Blk → Prop) : Prop :=
  match x with
  | .ptr id idx sz fo => vAt id idx sz h ∧ K x h
  | .func .. => K x h
  | .rp .. => K x h
  | _ => False

/-! #### Parts of values -/
def vField (P : Program) (xt : TypeId) (x : VV) (f : Nat) (h : List Blk) (K : VV → List Blk → Prop) : Prop :=
  match x, tfld P xt f with
  | .agg l, some (off, t, _) => vTake P t l off fun v => K v h
  | _, _ => False
theorem part_run {t : TypeId} {l : List VV} {off : Nat} {v : VV}
    (hc : tagg P t = some true ∧ (∃ s, tsz P t = some s ∧ (off + s ≤ l.length ∧ 0 < s) ∧ v = .agg (seg l off s)) ∨ tagg P t = some false ∧ l[off]? = some v) :
    (part t (denL β l).toArray off).run P w = .ok (den β v) w := by
  rcases hc with ⟨ha, s, hs, hle, rfl⟩ | ⟨ha, hl⟩
  · simp only [part, Sem.run_bind, isAgg_run t true ha, Result.andThen_ok, if_true, sizeOf_run t s hs, Sem.run_pure, den]
    congr 2
    apply Array.ext'
    simp only [Array.toList_extract, List.extract_toArray, seg_eq, denL_map, List.map_take, List.map_drop, List.extract_eq_take_drop]
    congr 1; omega
  · simp only [part, Sem.run_bind, isAgg_run t false ha, Result.andThen_ok, Bool.false_eq_true, if_false, List.getElem?_toArray, denL_get, hl, Option.map_some, Sem.run_pure]
theorem vField_ok {xt : TypeId} {x : VV} {f : Nat} (hv : vField P xt x f h K) (r : RepH β h w) (hbx : gd β h.length x) : Here P (Instr.field xt (den β x) f) β h w K := by
  unfold vField at hv
  split at hv
  · rename_i l off t s hf
    obtain ⟨v, hK, hb, hcase⟩ := take_run (h := h) hv hbx
    unfold tfld at hf
    split at hf
    · rename_i fds hu
      split at hf
      · rename_i y hy
        simp only [Option.map_eq_some_iff, Prod.mk.injEq] at hf
        obtain ⟨s', hs', rfl, rfl, rfl⟩ := hf
        refine Here.here r ?_ hb hK
        simp only [Instr.field, Sem.run_bind, run_underlying hu, Result.andThen_ok, hy, den, asAgg, Sem.run_pure, part_run hcase]
      · cases hf
    · cases hf
  · exact hv.elim
def vIndex (P : Program) (xt : TypeId) (x i : VV) (h : List Blk) (K : VV → List Blk → Prop) : Prop :=
  match x, i, tarr P xt with
  | .agg l, .int _ i, some (n, e, s) => (0 ≤ i ∧ i < n) ∧ vTake P e l (i.toNat * s) fun v => K v h
  | _, _, _ => False
theorem vIndex_ok {xt : TypeId} {x i : VV} (hv : vIndex P xt x i h K) (r : RepH β h w) (hbx : gd β h.length x) : Here P (Instr.index xt (den β x) (den β i)) β h w K := by
  unfold vIndex at hv
  split at hv
  · rename_i l k i n e s ht
    obtain ⟨⟨h0, hlt⟩, hv⟩ := hv
    obtain ⟨v, hK, hb, hcase⟩ := take_run (h := h) hv hbx
    unfold tarr at ht
    split at ht
    · rename_i n' e' hu
      simp only [Option.map_eq_some_iff, Prod.mk.injEq] at ht
      obtain ⟨s', hs', rfl, rfl, rfl⟩ := ht
      refine Here.here r ?_ hb hK
      simp only [Instr.index, asIntOf, den, Sem.run_bind, Sem.run_pure, Result.andThen_ok, run_underlying hu, Sem.run_ite]
      rw [if_pos ⟨h0, hlt⟩]
      simp only [Sem.run_bind, sizeOf_run _ _ hs', Result.andThen_ok, part_run hcase]
    · cases ht
  · exact hv.elim
def vExtract (x : VV) (i : Nat) (h : List Blk) (K : VV → List Blk → Prop) : Prop :=
  match x with
  | .tup l => match nth l i with | some v => K v h | none => False
  | _ => False
theorem vExtract_ok {x : VV} {i : Nat} (hv : vExtract x i h K) (r : RepH β h w) (hbx : gd β h.length x) : Here P (Instr.extract (den β x) i) β h w K := by
  unfold vExtract at hv
  split at hv
  · rename_i l
    rw [nth_eq] at hv
    split at hv
    · rename_i v hl
      exact Here.here r (by simp only [Instr.extract, den, List.getElem?_toArray, denL_get, hl, Option.map_some, Sem.run_pure]) (gd_mem hbx hl) hv
    · exact hv.elim
  · exact hv.elim
end
end Go.Sx
