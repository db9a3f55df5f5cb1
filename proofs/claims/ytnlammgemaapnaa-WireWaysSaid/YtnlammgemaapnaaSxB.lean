/- Blocks of the virtual heap, what it means that a world bears them, and the link between two moments of a walk. -/
import Derived.Test.YtnlammgemaapnaaSxA
set_option linter.unusedVariables false
namespace Go.Sx
open Go

theorem den_one (β : Val) (v : VV) (h : oneV v = true) : (den β v).oneCell' = true := by
  cases v <;> first | rfl | (simp [oneV] at h)

/-- A block as the walk knows it. 'cells': known whole (own: it may be written). 'row': elements that can be read. 'own': a row of the call's own, from its block's beginning, with room behind. -/
inductive Blk where
  | gone
  | cells (own : Bool) (ty : TypeId) (l : List VV)
  | row (sz n : Nat) (el : Nat → List VV)
  | own (ty sz n cap : Nat) (el : Nat → List VV)
  | map (own : Bool) (es : List (VV × VV × Nat)) (clock : Nat)

def Blk.owned : Blk → Bool
  | .cells o _ _ => o
  | .own .. => true
  | .map o _ _ => o
  | _ => false
def Blk.live : Blk → Prop
  | .gone => False
  | .cells .. => True
  | .row sz n _ => 0 < n ∧ 0 < sz
  | .own _ _ _ cap _ => 0 < cap
  | .map .. => True
def Blk.held (b : Blk) : Prop := b.owned = true ∨ b.live
def bno (β : Val) (i : Nat) : Option Nat := (β i).map (·.1)

/-- Elements of a row: how many cells each has, and that they are cells. -/
def Els (β : Val) (n : Nat) (sz m : Nat) (el : Nat → List VV) : Prop := ∀ j, j < m → (el j).length = sz ∧ gdL β n (el j) ∧ ∀ u ∈ el j, oneV u = true

/-- A map's entries. -/
def mapE (β : Val) (es : List (VV × VV × Nat)) : Array MapEntry := (es.map fun e => ⟨den β e.1, den β e.2.1, e.2.2⟩).toArray
def bdE (n : Nat) (es : List (VV × VV × Nat)) : Prop := ∀ e ∈ es, bd n e.1 ∧ bd n e.2.1
def gdE (β : Val) (n : Nat) (es : List (VV × VV × Nat)) : Prop := ∀ e ∈ es, gd β n e.1 ∧ gd β n e.2.1
theorem gdE.bd {β : Val} {n : Nat} {es : List (VV × VV × Nat)} (h : gdE β n es) : bdE n es := fun e he => ⟨(h e he).1.1, (h e he).2.1⟩
theorem mapE_congr {β β' : Val} {n : Nat} (h : ∀ i, i < n → β' i = β i) {es : List (VV × VV × Nat)} (hb : bdE n es) : mapE β' es = mapE β es := by
  unfold mapE
  congr 1
  apply List.map_congr_left
  intro e he
  rw [den_congr h _ (hb e he).1, den_congr h _ (hb e he).2]

def BlkRep (n : Nat) (β : Val) (w : World) (id : Nat) : Blk → Prop
  | .gone => True
  | .cells _ ty l => (∃ g, β id = some (g, 0) ∧ w.heap[g]? = some (.cells (denL β l).toArray ty (0, 0))) ∧ gdL β n l ∧ (∀ u ∈ l, oneV u = true)
  | .row sz m el => m ≤ maxI ∧ Els β n sz m el ∧ (0 < m → 0 < sz → ∃ g o, β id = some (g, o) ∧ ∀ j, j < m → ∀ i u, (el j)[i]? = some u → w.cell? ⟨g, o + (j * sz + i), none⟩ = some (den β u))
  | .own ty sz m cap el => m ≤ cap ∧ cap ≤ maxI ∧ Els β n sz m el ∧ (β id = none ∧ cap = 0 ∨ ∃ g cur, β id = some (g, 0) ∧ w.heap[g]? = some (.cells cur ty (0, 0)) ∧ cur.size = cap * sz ∧ ∀ j, j < m → ∀ i u, (el j)[i]? = some u → cur[j * sz + i]? = some (den β u))
  | .map _ es ck => (∃ g, β id = some (g, 0) ∧ w.heap[g]? = some (.map (mapE β es) ck)) ∧ gdE β n es

structure RepH (β : Val) (h : List Blk) (w : World) : Prop where
  blk : ∀ i b, h[i]? = some b → BlkRep h.length β w i b
  sep : ∀ i j b c, h[i]? = some b → h[j]? = some c → i ≠ j → b.owned = true → c.held → ∀ k, bno β i = some k → bno β j ≠ some k
  fz : Bears β.fz w
  fsep : ∀ i b, h[i]? = some b → b.owned = true → ∀ k, bno β i = some k → β.fz k = none

mutual
theorem bd_mono {n m : Nat} (h : n ≤ m) : ∀ v, bd n v → bd m v
  | .bool _, _ | .int _ _, _ | .str _, _ | .nilPtr, _ | .nilSlice, _ | .nilMap, _ | .nilFunc, _ | .nilIface, _ => by simp [bd]
  | .ro _ _ _ _ _, _ | .rp _ _ _ _ _ _, _ => by simp [bd]
  | .asl id _ _ _ _ _ _, hb => by simp only [bd] at *; omega
  | .ptr id _ _ _, hb => by simp only [bd] at *; omega
  | .slice id _ _, hb => by simp only [bd] at *; omega
  | .map id, hb => by simp only [bd] at *; omega
  | .func _ a b, hb => ⟨bdL_mono h a hb.1, bdL_mono h b hb.2⟩
  | .agg l, hb => bdL_mono h l hb
  | .tup l, hb => bdL_mono h l hb
theorem bdL_mono {n m : Nat} (h : n ≤ m) : ∀ l, bdL n l → bdL m l
  | [], _ => trivial
  | v :: l, hb => ⟨bd_mono h v hb.1, bdL_mono h l hb.2⟩
end

theorem bd_mem {n : Nat} {l : List VV} (h : bdL n l) {i : Nat} {u : VV} (hu : l[i]? = some u) : bd n u := (bdL_iff n l).1 h u (List.mem_of_getElem? hu)

theorem gd_mono {β β' : Val} {n m : Nat} (h : n ≤ m) (hF : FLe β.fz β'.fz) {v : VV} (hb : gd β n v) : gd β' m v := ⟨bd_mono h v hb.1, okV_mono hF v hb.2⟩
theorem gdL_mono {β β' : Val} {n m : Nat} (h : n ≤ m) (hF : FLe β.fz β'.fz) {l : List VV} (hb : gdL β n l) : gdL β' m l := ⟨bdL_mono h l hb.1, okL_mono hF l hb.2⟩
theorem Els.mono {β β' : Val} {n n' sz m : Nat} {el : Nat → List VV} (hn : n ≤ n') (hF : FLe β.fz β'.fz) (h : Els β n sz m el) : Els β' n' sz m el :=
  fun j hj => ⟨(h j hj).1, gdL_mono hn hF (h j hj).2.1, (h j hj).2.2⟩

/-- A block stays what it is where its own place is not touched. -/
theorem BlkRep.move {n n' : Nat} {β β' : Val} {w w' : World} {id : Nat} {b : Blk} (hn : n ≤ n') (hid : id < n) (hβ : ∀ i, i < n → β' i = β i) (hF : FLe β.fz β'.fz)
    (hs : ∀ k, bno β id = some k → w'.heap[k]? = w.heap[k]?) (h : BlkRep n β w id b) : BlkRep n' β' w' id b := by
  cases b with
  | gone => trivial
  | cells o ty l =>
    obtain ⟨⟨g, hg, hh⟩, hb, h1⟩ := h
    refine ⟨⟨g, by rw [hβ id hid]; exact hg, ?_⟩, gdL_mono hn hF hb, h1⟩
    rw [hs g (by simp [bno, hg]), hh, denL_congr hβ l hb.1]
  | row sz m el =>
    obtain ⟨hm, he, hc⟩ := h
    refine ⟨hm, he.mono hn hF, fun h0 h1 => ?_⟩
    obtain ⟨g, o, hg, hcell⟩ := hc h0 h1
    refine ⟨g, o, by rw [hβ id hid]; exact hg, fun j hj i u hu => ?_⟩
    rw [World.cell?_of_block (w := w) (hs g (by simp [bno, hg])), hcell j hj i u hu, den_congr hβ u (gd_mem (he j hj).2.1 hu).1]
  | own ty sz m cap el =>
    obtain ⟨h1, h2, he, hcase⟩ := h
    refine ⟨h1, h2, he.mono hn hF, ?_⟩
    rcases hcase with ⟨h3, h4⟩ | ⟨g, cur, hg, hh, hsz, hc⟩
    · exact .inl ⟨by rw [hβ id hid]; exact h3, h4⟩
    · refine .inr ⟨g, cur, by rw [hβ id hid]; exact hg, ?_, hsz, fun j hj i u hu => ?_⟩
      · rw [hs g (by simp [bno, hg]), hh]
      · rw [hc j hj i u hu, den_congr hβ u (gd_mem (he j hj).2.1 hu).1]
  | map o es ck =>
    obtain ⟨⟨g, hg, hh⟩, hb⟩ := h
    exact ⟨⟨g, by rw [hβ id hid]; exact hg, by rw [hs g (by simp [bno, hg]), hh, mapE_congr hβ hb.bd]⟩, fun e he => ⟨gd_mono hn hF (hb e he).1, gd_mono hn hF (hb e he).2⟩⟩

/-- A live block lies in the heap. -/
theorem BlkRep.lt {n : Nat} {β : Val} {w : World} {id : Nat} {b : Blk} (h : BlkRep n β w id b) (hl : b.live) : ∃ k, bno β id = some k ∧ k < w.heap.size := by
  cases b with
  | gone => exact hl.elim
  | cells o ty l =>
    obtain ⟨⟨g, hg, hh⟩, _⟩ := h
    exact ⟨g, by simp [bno, hg], (Array.getElem?_eq_some_iff.1 hh).1⟩
  | row sz m el =>
    obtain ⟨hm, he, hc⟩ := h
    obtain ⟨g, o, hg, hcell⟩ := hc hl.1 hl.2
    have h0 := (he 0 hl.1).1
    obtain ⟨u, hu⟩ : ∃ u, (el 0)[0]? = some u := ⟨(el 0)[0]'(by rw [h0]; exact hl.2), List.getElem?_eq_getElem _⟩
    have := hcell 0 hl.1 0 u hu
    refine ⟨g, by simp [bno, hg], ?_⟩
    exact World.block_lt_of_cell? w _ this
  | own ty sz m cap el =>
    obtain ⟨h1, h2, he, hcase⟩ := h
    rcases hcase with ⟨_, h4⟩ | ⟨g, cur, hg, hh, _⟩
    · simp only [Blk.live] at hl; omega
    · exact ⟨g, by simp [bno, hg], (Array.getElem?_eq_some_iff.1 hh).1⟩
  | map o es ck =>
    obtain ⟨⟨g, hg, hh⟩, _⟩ := h
    exact ⟨g, by simp [bno, hg], (Array.getElem?_eq_some_iff.1 hh).1⟩
/-- Where an owned or a live block lies, it lies in the heap. -/
theorem BlkRep.lt' {n : Nat} {β : Val} {w : World} {id : Nat} {b : Blk} (h : BlkRep n β w id b) (ho : b.owned = true ∨ b.live) : ∀ k, bno β id = some k → k < w.heap.size := by
  intro k hk
  rcases ho with ho | ho
  · cases b with
    | gone => simp [Blk.owned] at ho
    | cells o ty l =>
      obtain ⟨k', h1, h2⟩ := h.lt trivial
      rw [hk] at h1; injection h1 with h1; omega
    | row sz m el => simp [Blk.owned] at ho
    | own ty sz m cap el =>
      rcases h.2.2.2 with ⟨h3, _⟩ | ⟨g, cur, hg, hh, _⟩
      · simp [bno, h3] at hk
      · simp only [bno, hg, Option.map_some, Option.some.injEq] at hk
        subst hk; exact (Array.getElem?_eq_some_iff.1 hh).1
    | map o es ck =>
      obtain ⟨k', h1, h2⟩ := h.lt trivial
      rw [hk] at h1; injection h1 with h1; omega
  · obtain ⟨k', h1, h2⟩ := h.lt ho
    rw [hk] at h1; injection h1 with h1; omega

/-- The frame: streams stay; below the size of w the blocks stay, but those in O. -/
structure Fr (O : Nat → Prop) (w w' : World) : Prop where
  os : w'.os = w.os
  tape : w'.tape = w.tape
  output : w'.output = w.output
  size : w.heap.size ≤ w'.heap.size
  keep : ∀ k, k < w.heap.size → ¬ O k → w'.heap[k]? = w.heap[k]?

def ownNo (β : Val) (h : List Blk) (k : Nat) : Prop := ∃ i b, h[i]? = some b ∧ b.owned = true ∧ bno β i = some k

/-- From one moment of a walk to a later one. -/
structure Link (β : Val) (h : List Blk) (w : World) (β' : Val) (h' : List Blk) (w' : World) : Prop where
  len : h.length ≤ h'.length
  ext : ∀ i, i < h.length → β' i = β i
  fz : FLe β.fz β'.fz
  fzn : ∀ k b, β'.fz k = some b → β.fz k = some b ∨ ownNo β h k ∨ w.heap.size ≤ k
  fr : Fr (ownNo β h) w w'
  fresh : ∀ i b, h'[i]? = some b → b.owned = true → ∀ k, bno β' i = some k → ownNo β h k ∨ w.heap.size ≤ k
  views : ∀ i b, h'[i]? = some b → b.held → ∀ k, bno β' i = some k → (∃ j c, h[j]? = some c ∧ c.held ∧ bno β j = some k) ∨ w.heap.size ≤ k

theorem Fr.refl (O : Nat → Prop) (w : World) : Fr O w w := ⟨rfl, rfl, rfl, Nat.le_refl _, fun _ _ _ => rfl⟩
theorem Link.refl (β : Val) (h : List Blk) (w : World) : Link β h w β h w :=
  ⟨Nat.le_refl _, fun _ _ => rfl, FLe.refl _, fun _ _ hb => .inl hb, Fr.refl _ w, fun i b hb ho _ hk => .inl ⟨i, b, hb, ho, hk⟩, fun i b hb ho _ hk => .inl ⟨i, b, hb, ho, hk⟩⟩
theorem Link.trans {β β' β'' : Val} {h h' h'' : List Blk} {w w' w'' : World} (a : Link β h w β' h' w') (b : Link β' h' w' β'' h'' w'') : Link β h w β'' h'' w'' := by
  refine ⟨Nat.le_trans a.len b.len, fun i hi => (b.ext i (Nat.lt_of_lt_of_le hi a.len)).trans (a.ext i hi), a.fz.trans b.fz, fun k x hx => ?_, ⟨b.fr.os.trans a.fr.os, b.fr.tape.trans a.fr.tape, b.fr.output.trans a.fr.output, Nat.le_trans a.fr.size b.fr.size, fun k hk hO => ?_⟩, fun i c hc ho k hk => ?_, fun i c hc ho k hk => ?_⟩
  · rcases b.fzn k x hx with h1 | ⟨i, c, hi, ho, hn⟩ | h1
    · exact a.fzn k x h1
    · exact .inr (a.fresh i c hi ho k hn)
    · exact .inr (.inr (Nat.le_trans a.fr.size h1))
  · rw [b.fr.keep k (Nat.lt_of_lt_of_le hk a.fr.size) ?_, a.fr.keep k hk hO]
    rintro ⟨i, c, hi, ho, hn⟩
    rcases a.fresh i c hi ho k hn with h1 | h1
    · exact hO h1
    · omega
  · rcases b.fresh i c hc ho k hk with ⟨j, d, hd, hdo, hk'⟩ | hge
    · exact a.fresh j d hd hdo k hk'
    · exact .inr (Nat.le_trans a.fr.size hge)
  · rcases b.views i c hc ho k hk with ⟨j, d, hd, hdo, hk'⟩ | hge
    · exact a.views j d hd hdo k hk'
    · exact .inr (Nat.le_trans a.fr.size hge)

/-- A world that grew, no block of it touched. -/
theorem RepH.grow {β : Val} {h : List Blk} {w w' : World} (r : RepH β h w) (hk : ∀ k, k < w.heap.size → w'.heap[k]? = w.heap[k]?) : RepH β h w' := by
  refine ⟨fun i b hb => ?_, r.sep, fun k b hb => by rw [hk k ((Array.getElem?_eq_some_iff.1 (r.fz k b hb)).1)]; exact r.fz k b hb, r.fsep⟩
  have hi : i < h.length := (List.getElem?_eq_some_iff.1 hb).1
  have hr := r.blk i b hb
  cases b with
  | gone => trivial
  | row sz m el =>
    refine ⟨hr.1, hr.2.1, fun h0 h1 => ?_⟩
    obtain ⟨k, hk1, hk2⟩ := hr.lt (by exact ⟨h0, h1⟩)
    exact (BlkRep.move (b := .row sz m el) (Nat.le_refl _) hi (fun _ _ => rfl) (FLe.refl _) (fun k' hk' => by rw [hk1] at hk'; injection hk' with hk'; subst hk'; exact hk k hk2) hr).2.2 h0 h1
  | cells o ty l =>
    obtain ⟨k, hk1, hk2⟩ := hr.lt trivial
    exact BlkRep.move (Nat.le_refl _) hi (fun _ _ => rfl) (FLe.refl _) (fun k' hk' => by rw [hk1] at hk'; injection hk' with hk'; subst hk'; exact hk k hk2) hr
  | own ty sz m cap el => exact BlkRep.move (Nat.le_refl _) hi (fun _ _ => rfl) (FLe.refl _) (fun k' hk' => hk k' (hr.lt' (.inl rfl) k' hk')) hr
  | map o es ck =>
    obtain ⟨k, hk1, hk2⟩ := hr.lt trivial
    exact BlkRep.move (Nat.le_refl _) hi (fun _ _ => rfl) (FLe.refl _) (fun k' hk' => by rw [hk1] at hk'; injection hk' with hk'; subst hk'; exact hk k hk2) hr

def upd (β : Val) (i : Nat) (p : Option (Nat × Nat)) : Val := ⟨fun j => if j = i then p else β j, β.fz⟩
theorem upd_same (β : Val) (i : Nat) (p : Option (Nat × Nat)) : upd β i p i = p := by simp [upd]
theorem upd_old (β : Val) (i : Nat) (p : Option (Nat × Nat)) (j : Nat) (h : j < i) : upd β i p j = β j := by simp [upd]; omega

/-- A new block behind the others. -/
theorem RepH.push {β : Val} {h : List Blk} {w w' : World} {b : Blk} {g : Nat} (r : RepH β h w) (hg : w.heap.size ≤ g) (hk : ∀ k, k < w.heap.size → w'.heap[k]? = w.heap[k]?)
    (hb : BlkRep (h.length + 1) (upd β h.length (some (g, 0))) w' h.length b) : RepH (upd β h.length (some (g, 0))) (h ++ [b]) w' := by
  have r' := r.grow hk
  have old : ∀ i, i < h.length → upd β h.length (some (g, 0)) i = β i := fun i hi => upd_old _ _ _ _ hi
  constructor
  · intro i c hc
    rw [List.length_append, List.length_singleton]
    rcases Nat.lt_or_ge i h.length with hi | hi
    · rw [List.getElem?_append_left hi] at hc
      exact BlkRep.move (by omega) hi old (FLe.refl _) (fun _ _ => rfl) (r'.blk i c hc)
    · rw [List.getElem?_append_right hi] at hc
      have hi0 : i - h.length = 0 := by
        have := (List.getElem?_eq_some_iff.1 hc).1
        simp at this; omega
      have : i = h.length := by omega
      subst this
      rw [hi0] at hc
      obtain rfl : b = c := by simpa using hc
      exact hb
  · have key : ∀ i c, h[i]? = some c → c.owned = true ∨ c.live → ∀ k, bno (upd β h.length (some (g, 0))) i = some k → k < w.heap.size := fun i c hc hl k hk' =>
      (r.blk i c hc).lt' hl k (by rw [← hk']; simp only [bno, old i (List.getElem?_eq_some_iff.1 hc).1])
    have hnew : bno (upd β h.length (some (g, 0))) h.length = some g := by simp [bno, upd]
    intro i j c d hc hd hij hco hdl k hki hkj
    rcases Nat.lt_or_ge i h.length with hi | hi <;> rcases Nat.lt_or_ge j h.length with hj | hj
    · rw [List.getElem?_append_left hi] at hc
      rw [List.getElem?_append_left hj] at hd
      simp only [bno, old i hi] at hki
      simp only [bno, old j hj] at hkj
      exact r.sep i j c d hc hd hij hco hdl k hki hkj
    · rw [List.getElem?_append_left hi] at hc
      have hj0 : j = h.length := by
        have := (List.getElem?_eq_some_iff.1 hd).1
        simp at this; omega
      subst hj0
      have := key i c hc (.inl hco) k hki
      rw [hnew] at hkj; injection hkj with e; omega
    · have hi0 : i = h.length := by
        have := (List.getElem?_eq_some_iff.1 hc).1
        simp at this; omega
      subst hi0
      rw [List.getElem?_append_left hj] at hd
      have := key j d hd hdl k hkj
      rw [hnew] at hki; injection hki with e; omega
    · have := (List.getElem?_eq_some_iff.1 hc).1
      have := (List.getElem?_eq_some_iff.1 hd).1
      simp at *; omega
  · exact r'.fz
  · intro i c hc ho k hk'
    rcases Nat.lt_or_ge i h.length with hi | hi
    · rw [List.getElem?_append_left hi] at hc
      simp only [bno, old i hi] at hk'
      exact r.fsep i c hc ho k hk'
    · have hi0 : i = h.length := by
        have := (List.getElem?_eq_some_iff.1 hc).1
        simp at this; omega
      subst hi0
      simp only [bno, upd_same, Option.map_some, Option.some.injEq] at hk'
      subst hk'
      cases hf : β.fz g with
      | none => exact hf
      | some x => have := (Array.getElem?_eq_some_iff.1 (r.fz g x hf)).1; omega
theorem Link.push {β : Val} {h : List Blk} {w w' : World} {b : Blk} {g : Nat} (hg : w.heap.size ≤ g)
    (e1 : w'.os = w.os) (e2 : w'.tape = w.tape) (e3 : w'.output = w.output) (e4 : w.heap.size ≤ w'.heap.size) (hk : ∀ k, k < w.heap.size → w'.heap[k]? = w.heap[k]?) :
    Link β h w (upd β h.length (some (g, 0))) (h ++ [b]) w' := by
  refine ⟨by simp, fun i hi => upd_old _ _ _ _ hi, FLe.refl _, fun _ _ hb => .inl hb, ⟨e1, e2, e3, e4, fun k hk' _ => hk k hk'⟩, fun i c hc ho k hk' => ?_, fun i c hc ho k hk' => ?_⟩
  all_goals
    rcases Nat.lt_or_ge i h.length with hi | hi
    · rw [List.getElem?_append_left hi] at hc
      exact .inl ⟨i, c, hc, ho, by rw [← hk']; simp only [bno, upd_old _ _ _ _ hi]⟩
    · have : i = h.length := by
        have := (List.getElem?_eq_some_iff.1 hc).1
        simp at this; omega
      subst this
      simp only [bno, upd_same, Option.map_some, Option.some.injEq] at hk'
      exact .inr (by omega)

/-- A block that is not one's own laid beside the others: a view. -/
theorem RepH.view {β : Val} {h : List Blk} {w : World} {b : Blk} {p : Option (Nat × Nat)} (r : RepH β h w) (hno : b.owned = false)
    (hb : BlkRep (h.length + 1) (upd β h.length p) w h.length b)
    (hsep : b.held → ∀ i c, h[i]? = some c → c.owned = true → ∀ k, bno β i = some k → p.map (·.1) ≠ some k) : RepH (upd β h.length p) (h ++ [b]) w := by
  have old : ∀ i, i < h.length → upd β h.length p i = β i := fun i hi => upd_old _ _ _ _ hi
  constructor
  · intro i c hc
    rw [List.length_append, List.length_singleton]
    rcases Nat.lt_or_ge i h.length with hi | hi
    · rw [List.getElem?_append_left hi] at hc
      exact BlkRep.move (by omega) hi old (FLe.refl _) (fun _ _ => rfl) (r.blk i c hc)
    · rw [List.getElem?_append_right hi] at hc
      have hi0 : i - h.length = 0 := by
        have := (List.getElem?_eq_some_iff.1 hc).1
        simp at this; omega
      have : i = h.length := by omega
      subst this
      rw [hi0] at hc
      obtain rfl : b = c := by simpa using hc
      exact hb
  · intro i j c d hc hd hij hco hdl k hki hkj
    rcases Nat.lt_or_ge i h.length with hi | hi
    · rw [List.getElem?_append_left hi] at hc
      simp only [bno, old i hi] at hki
      rcases Nat.lt_or_ge j h.length with hj | hj
      · rw [List.getElem?_append_left hj] at hd
        simp only [bno, old j hj] at hkj
        exact r.sep i j c d hc hd hij hco hdl k hki hkj
      · have hj0 : j = h.length := by
          have := (List.getElem?_eq_some_iff.1 hd).1
          simp at this; omega
        subst hj0
        rw [List.getElem?_append_right (Nat.le_refl _)] at hd
        obtain rfl : b = d := by simpa using hd
        simp only [bno, upd_same] at hkj
        exact hsep hdl i c hc hco k hki hkj
    · have hi0 : i = h.length := by
        have := (List.getElem?_eq_some_iff.1 hc).1
        simp at this; omega
      subst hi0
      rw [List.getElem?_append_right (Nat.le_refl _)] at hc
      obtain rfl : b = c := by simpa using hc
      rw [hno] at hco; cases hco
  · exact r.fz
  · intro i c hc ho k hk'
    rcases Nat.lt_or_ge i h.length with hi | hi
    · rw [List.getElem?_append_left hi] at hc
      simp only [bno, old i hi] at hk'
      exact r.fsep i c hc ho k hk'
    · have hi0 : i = h.length := by
        have := (List.getElem?_eq_some_iff.1 hc).1
        simp at this; omega
      subst hi0
      rw [List.getElem?_append_right (Nat.le_refl _)] at hc
      obtain rfl : b = c := by simpa using hc
      rw [hno] at ho; cases ho
theorem Link.view {β : Val} {h : List Blk} {w : World} {b : Blk} {p : Option (Nat × Nat)} (hno : b.owned = false)
    (hp : b.held → ∀ k, p.map (·.1) = some k → ∃ j c, h[j]? = some c ∧ c.held ∧ bno β j = some k) : Link β h w (upd β h.length p) (h ++ [b]) w := by
  refine ⟨by simp, fun i hi => upd_old _ _ _ _ hi, FLe.refl _, fun _ _ hb => .inl hb, Fr.refl _ w, fun i c hc ho k hk' => ?_, fun i c hc ho k hk' => ?_⟩
  all_goals
    rcases Nat.lt_or_ge i h.length with hi | hi
    · rw [List.getElem?_append_left hi] at hc
      exact .inl ⟨i, c, hc, ho, by rw [← hk']; simp only [bno, upd_old _ _ _ _ hi]⟩
    · rw [List.getElem?_append_right hi] at hc
      have h0 : i - h.length = 0 := by
        have := (List.getElem?_eq_some_iff.1 hc).1
        simp at this; omega
      have hi' : i = h.length := by omega
      subst hi'
      have : b = c := by rw [h0] at hc; simpa using hc
      subst this
      first
        | (rw [hno] at ho; cases ho)
        | (simp only [bno, upd_same] at hk'; exact .inl (hp ho k hk'))

/-- One block is told anew, the world turned at that block's place alone. -/
theorem RepH.set {β : Val} {h : List Blk} {w w' : World} {id : Nat} {b b' : Blk} (r : RepH β h w) (hb : h[id]? = some b) (hown : b.owned = true)
    (hk : ∀ k, bno β id ≠ some k → w'.heap[k]? = w.heap[k]?)
    (hb' : BlkRep h.length β w' id b') : RepH β (h.set id b') w' := by
  have hid : id < h.length := (List.getElem?_eq_some_iff.1 hb).1
  constructor
  · intro i c hc
    rw [List.length_set]
    by_cases hi : i = id
    · subst hi
      rw [List.getElem?_set_self hid] at hc
      obtain rfl : b' = c := by simpa using hc
      exact hb'
    · rw [List.getElem?_set_ne (Ne.symm hi)] at hc
      have hil : i < h.length := (List.getElem?_eq_some_iff.1 hc).1
      have hr := r.blk i c hc
      have far : c.held → ∀ k, bno β i = some k → w'.heap[k]? = w.heap[k]? := fun hl k hk' => hk k (fun e => r.sep id i b c hb hc (Ne.symm hi) hown hl k e hk')
      cases c with
      | gone => trivial
      | row sz m el =>
        refine ⟨hr.1, hr.2.1, fun h0 h1 => ?_⟩
        exact (BlkRep.move (b := .row sz m el) (Nat.le_refl _) hil (fun _ _ => rfl) (FLe.refl _) (far (.inr ⟨h0, h1⟩)) hr).2.2 h0 h1
      | cells o ty l => exact BlkRep.move (Nat.le_refl _) hil (fun _ _ => rfl) (FLe.refl _) (far (.inr trivial)) hr
      | own ty sz m cap el => exact BlkRep.move (Nat.le_refl _) hil (fun _ _ => rfl) (FLe.refl _) (far (.inl rfl)) hr
      | map o es ck => exact BlkRep.move (Nat.le_refl _) hil (fun _ _ => rfl) (FLe.refl _) (far (.inr trivial)) hr
  · intro i j c d hc hd hij hco hdl
    have own1 : ∀ i c, (h.set id b')[i]? = some c → i ≠ id → h[i]? = some c := fun i c hc hi => by rwa [List.getElem?_set_ne (Ne.symm hi)] at hc
    by_cases hi : i = id
    · subst hi
      exact r.sep i j b d hb (own1 j d hd (Ne.symm hij)) hij hown hdl
    · by_cases hj : j = id
      · subst hj
        exact r.sep i j c b (own1 i c hc hi) hb hij hco (.inl hown)
      · exact r.sep i j c d (own1 i c hc hi) (own1 j d hd hj) hij hco hdl
  · intro k x hx
    rw [hk k (fun e => by have := r.fsep id b hb hown k e; rw [this] at hx; cases hx)]
    exact r.fz k x hx
  · intro i c hc ho k hk'
    by_cases hi : i = id
    · subst hi; exact r.fsep i b hb hown k hk'
    · rw [List.getElem?_set_ne (Ne.symm hi)] at hc; exact r.fsep i c hc ho k hk'
theorem Link.set {β : Val} {h : List Blk} {w w' : World} {id : Nat} {b b' : Blk} (hb : h[id]? = some b) (hown : b.owned = true)
    (e1 : w'.os = w.os) (e2 : w'.tape = w.tape) (e3 : w'.output = w.output) (e4 : w.heap.size ≤ w'.heap.size) (hk : ∀ k, bno β id ≠ some k → k < w.heap.size → w'.heap[k]? = w.heap[k]?) :
    Link β h w β (h.set id b') w' := by
  refine ⟨by simp, fun _ _ => rfl, FLe.refl _, fun _ _ hb => .inl hb, ⟨e1, e2, e3, e4, fun k hk' hO => hk k (fun e => hO ⟨id, b, hb, hown, e⟩) hk'⟩, fun i c hc ho k hk' => .inl ?_, fun i c hc ho k hk' => .inl ?_⟩
  · by_cases hi : i = id
    · subst hi; exact ⟨i, b, hb, hown, hk'⟩
    · rw [List.getElem?_set_ne (Ne.symm hi)] at hc; exact ⟨i, c, hc, ho, hk'⟩
  · by_cases hi : i = id
    · subst hi; exact ⟨i, b, hb, .inl hown, hk'⟩
    · rw [List.getElem?_set_ne (Ne.symm hi)] at hc; exact ⟨i, c, hc, ho, hk'⟩

/-- A row of one's own is told as a row alone. -/
def Blk.deg : Blk → Blk
  | .own _ sz n _ el => .row sz n el
  | .cells _ ty l => .cells false ty l
  | .map _ es ck => .map false es ck
  | b => b
theorem BlkRep.deg {n : Nat} {β : Val} {w : World} {id : Nat} {b : Blk} (h : BlkRep n β w id b) : BlkRep n β w id b.deg := by
  cases b with
  | gone => trivial
  | cells o ty l => exact h
  | row sz m el => exact h
  | own ty sz m cap el =>
    obtain ⟨h1, h2, he, hcase⟩ := h
    refine ⟨Nat.le_trans h1 h2, he, fun h0 _ => ?_⟩
    rcases hcase with ⟨_, h4⟩ | ⟨g, cur, hg, hh, hsz, hc⟩
    · omega
    · exact ⟨g, 0, hg, fun j hj i u hu => by rw [cell_of_row w g _ _ _ _ hh, Nat.zero_add]; exact hc j hj i u hu⟩
  | map o es ck => exact h
theorem Blk.deg_held {b : Blk} (h : b.deg.held) : b.held := by
  cases b <;> simp_all [Blk.deg, Blk.held, Blk.owned, Blk.live]
theorem Blk.deg_owned (b : Blk) : b.deg.owned = false := by cases b <;> rfl
/-- A block is told with less. -/
theorem RepH.weaken {β : Val} {h : List Blk} {w : World} {id : Nat} {b b' : Blk} (r : RepH β h w) (hb : h[id]? = some b) (hno : b'.owned = false) (hheld : b'.held → b.held)
    (hb' : BlkRep h.length β w id b') : RepH β (h.set id b') w := by
  have hid : id < h.length := (List.getElem?_eq_some_iff.1 hb).1
  have own1 : ∀ i c, (h.set id b')[i]? = some c → i ≠ id → h[i]? = some c := fun i c hc hi => by rwa [List.getElem?_set_ne (Ne.symm hi)] at hc
  have same : ∀ c, (h.set id b')[id]? = some c → c = b' := fun c hc => by rw [List.getElem?_set_self hid] at hc; simpa using hc.symm
  constructor
  · intro i c hc
    rw [List.length_set]
    by_cases hi : i = id
    · subst hi; rw [same c hc]; exact hb'
    · exact r.blk i c (own1 i c hc hi)
  · intro i j c d hc hd hij hco hdl
    by_cases hi : i = id
    · subst hi; rw [same c hc, hno] at hco; cases hco
    · by_cases hj : j = id
      · subst hj
        rw [same d hd] at hdl
        exact r.sep i j c b (own1 i c hc hi) hb hij hco (hheld hdl)
      · exact r.sep i j c d (own1 i c hc hi) (own1 j d hd hj) hij hco hdl
  · exact r.fz
  · intro i c hc ho k hk'
    by_cases hi : i = id
    · subst hi; rw [same c hc, hno] at ho; cases ho
    · exact r.fsep i c (own1 i c hc hi) ho k hk'
theorem Link.weaken {β : Val} {h : List Blk} {w : World} {id : Nat} {b b' : Blk} (hb : h[id]? = some b) (hno : b'.owned = false) (hheld : b'.held → b.held) : Link β h w β (h.set id b') w := by
  refine ⟨by simp, fun _ _ => rfl, FLe.refl _, fun _ _ hb => .inl hb, Fr.refl _ w, fun i c hc ho k hk' => .inl ?_, fun i c hc ho k hk' => .inl ?_⟩
  all_goals
    by_cases hi : i = id
    · subst hi
      rw [List.getElem?_set_self (List.getElem?_eq_some_iff.1 hb).1] at hc
      injection hc with hc; subst hc
      first
        | (rw [hno] at ho; cases ho)
        | exact ⟨i, b, hb, hheld ho, hk'⟩
    · rw [List.getElem?_set_ne (Ne.symm hi)] at hc; exact ⟨i, c, hc, ho, hk'⟩
/-- A nil row of one's own under a new name. -/
theorem RepH.nilOwn {β : Val} {h : List Blk} {w : World} (r : RepH β h w) (e sz : Nat) (el : Nat → List VV) : RepH (upd β h.length none) (h ++ [.own e sz 0 0 el]) w := by
  have old : ∀ i, i < h.length → upd β h.length none i = β i := fun i hi => upd_old _ _ _ _ hi
  have last : ∀ i c, (h ++ [Blk.own e sz 0 0 el])[i]? = some c → ¬ i < h.length → i = h.length := fun i c hc hi => by
    have := (List.getElem?_eq_some_iff.1 hc).1
    simp at this; omega
  have hnew : bno (upd β h.length none) h.length = none := by simp [bno, upd]
  constructor
  · intro i c hc
    rw [List.length_append, List.length_singleton]
    by_cases hi : i < h.length
    · rw [List.getElem?_append_left hi] at hc
      exact BlkRep.move (by omega) hi old (FLe.refl _) (fun _ _ => rfl) (r.blk i c hc)
    · have := last i c hc hi
      subst this
      rw [List.getElem?_append_right (Nat.le_refl _)] at hc
      obtain rfl : Blk.own e sz 0 0 el = c := by simpa using hc
      exact ⟨Nat.le_refl _, by simp [maxI], fun j hj => by omega, .inl ⟨upd_same _ _ _, rfl⟩⟩
  · intro i j c d hc hd hij hco hdl k hki hkj
    by_cases hi : i < h.length
    · by_cases hj : j < h.length
      · rw [List.getElem?_append_left hi] at hc
        rw [List.getElem?_append_left hj] at hd
        simp only [bno, old i hi] at hki
        simp only [bno, old j hj] at hkj
        exact r.sep i j c d hc hd hij hco hdl k hki hkj
      · have := last j d hd hj
        subst this
        rw [hnew] at hkj; cases hkj
    · have := last i c hc hi
      subst this
      rw [hnew] at hki; cases hki
  · exact r.fz
  · intro i c hc ho k hk'
    by_cases hi : i < h.length
    · rw [List.getElem?_append_left hi] at hc
      simp only [bno, old i hi] at hk'
      exact r.fsep i c hc ho k hk'
    · have := last i c hc hi
      subst this
      rw [hnew] at hk'; cases hk'
theorem Link.nilOwn {β : Val} {h : List Blk} {w : World} (e sz : Nat) (el : Nat → List VV) : Link β h w (upd β h.length none) (h ++ [.own e sz 0 0 el]) w := by
  refine ⟨by simp, fun i hi => upd_old _ _ _ _ hi, FLe.refl _, fun _ _ hb => .inl hb, Fr.refl _ w, fun i c hc ho k hk => ?_, fun i c hc ho k hk => ?_⟩
  all_goals
    by_cases hi : i < h.length
    · rw [List.getElem?_append_left hi] at hc
      exact .inl ⟨i, c, hc, ho, by rw [← hk]; simp only [bno, upd_old _ _ _ _ hi]⟩
    · have : i = h.length := by
        have := (List.getElem?_eq_some_iff.1 hc).1
        simp at this; omega
      subst this
      simp [bno, upd] at hk
/-- A link along which no more blocks are kept for good. -/
structure LinkN (β : Val) (h : List Blk) (w : World) (β' : Val) (h' : List Blk) (w' : World) : Prop extends Link β h w β' h' w' where
  same : β'.fz = β.fz
theorem LinkN.refl (β : Val) (h : List Blk) (w : World) : LinkN β h w β h w := ⟨Link.refl β h w, rfl⟩
theorem LinkN.trans {β β' β'' : Val} {h h' h'' : List Blk} {w w' w'' : World} (a : LinkN β h w β' h' w') (b : LinkN β' h' w' β'' h'' w'') : LinkN β h w β'' h'' w'' := ⟨a.toLink.trans b.toLink, b.same.trans a.same⟩
theorem LinkN.push {β : Val} {h : List Blk} {w w' : World} {b : Blk} {g : Nat} (hg : w.heap.size ≤ g)
    (e1 : w'.os = w.os) (e2 : w'.tape = w.tape) (e3 : w'.output = w.output) (e4 : w.heap.size ≤ w'.heap.size) (hk : ∀ k, k < w.heap.size → w'.heap[k]? = w.heap[k]?) :
    LinkN β h w (upd β h.length (some (g, 0))) (h ++ [b]) w' := ⟨Link.push hg e1 e2 e3 e4 hk, rfl⟩
theorem LinkN.view {β : Val} {h : List Blk} {w : World} {b : Blk} {p : Option (Nat × Nat)} (hno : b.owned = false)
    (hp : b.held → ∀ k, p.map (·.1) = some k → ∃ j c, h[j]? = some c ∧ c.held ∧ bno β j = some k) : LinkN β h w (upd β h.length p) (h ++ [b]) w := ⟨Link.view hno hp, rfl⟩
theorem LinkN.set {β : Val} {h : List Blk} {w w' : World} {id : Nat} {b b' : Blk} (hb : h[id]? = some b) (hown : b.owned = true)
    (e1 : w'.os = w.os) (e2 : w'.tape = w.tape) (e3 : w'.output = w.output) (e4 : w.heap.size ≤ w'.heap.size) (hk : ∀ k, bno β id ≠ some k → k < w.heap.size → w'.heap[k]? = w.heap[k]?) :
    LinkN β h w β (h.set id b') w' := ⟨Link.set hb hown e1 e2 e3 e4 hk, rfl⟩
theorem LinkN.weaken {β : Val} {h : List Blk} {w : World} {id : Nat} {b b' : Blk} (hb : h[id]? = some b) (hno : b'.owned = false) (hheld : b'.held → b.held) : LinkN β h w β (h.set id b') w := ⟨Link.weaken hb hno hheld, rfl⟩
theorem LinkN.nilOwn {β : Val} {h : List Blk} {w : World} (e sz : Nat) (el : Nat → List VV) : LinkN β h w (upd β h.length none) (h ++ [.own e sz 0 0 el]) w := ⟨Link.nilOwn e sz el, rfl⟩
theorem gone_held : ¬ Blk.gone.held := fun e => by
  rcases e with e | e
  · simp [Blk.owned] at e
  · exact e.elim
end Go.Sx
