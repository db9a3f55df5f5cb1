/- Maps on virtual values. -/
import Derived.Test.YtnlammgemaapnaaSxF
import Derived.MapKept
set_option linter.unusedSimpArgs false
set_option linter.unusedVariables false
namespace Go.Sx
open Go

section
variable {P : Program} {β : Val} {h : List Blk} {w : World} {K : VV → List Blk → Prop}
def tzv (P : Program) (t : TypeId) : Option VV := ((P.info? t).bind (·.zero)).bind ofVal
theorem tzv_run {t : TypeId} {z : VV} (hz : tzv P t = some z) (β : Val) (w : World) : (zeroValue t).run P w = .ok (den β z) w ∧ gd β 0 z := by
  unfold tzv at hz
  simp only [Option.bind_eq_some_iff] at hz
  obtain ⟨v, ⟨i, hi, hv⟩, hzl⟩ := hz
  have := ofVal_den β v z hzl
  refine ⟨?_, this.2⟩
  rw [this.1]
  simp [zeroValue, typeInfo, hi, hv]
def keyEq (a b : VV) : Bool :=
  match a, b with
  | .agg x, .agg y => eqL x y
  | a, b => eqV a b
def kfind (k : VV) : List (VV × VV × Nat) → Nat → Option (Nat × VV)
  | [], _ => none
  | e :: es, i => if keyEq k e.1 then some (i, e.2.1) else kfind k es (i + 1)
/-- What the model does with this key in these entries. -/
def MapOK (P : Program) (kt : TypeId) (k : VV) (es : List (VV × VV × Nat)) : Prop :=
  (∀ (b : Bool) (β : Val) (w : World), (Instr.checkKey b 10000 kt (den β k)).run P w = .ok () w) ∧
  (∀ (β : Val) (w : World), (Instr.findKey kt (den β k) (mapE β es).toList).run P w = .ok ((kfind k es 0).map fun p => (p.1, den β p.2)) w) ∧
  (∀ (β : Val) (i : Nat) (v : VV), kfind k es 0 = some (i, v) → ∃ e, es[i]? = some e ∧ e.2.1 = v ∧ den β e.1 = den β k ∧ Instr.sameBits 10000 (den β k) (den β k) = true)
def kval (z : VV) : Option (Nat × VV) → VV
  | some (_, v) => v
  | none => z
def vLookup (P : Program) (t : TypeId) (m k : VV) (ok : Bool) (h : List Blk) (K : VV → List Blk → Prop) : Prop :=
  match P.underlying t with
  | some (.map kt et) => match tzv P et, m with
    | some z, .nilMap => MapOK P kt k [] ∧ K (if ok then .tup [z, .bool false] else z) h
    | some z, .map id => match nth h id with
      | some (.map _ es _) => MapOK P kt k es ∧ K (if ok then .tup [kval z (kfind k es 0), .bool (kfind k es 0).isSome] else kval z (kfind k es 0)) h
      | _ => False
    | _, _ => False
  | _ => False
theorem kval_bd {β : Val} {n : Nat} {z k : VV} {es : List (VV × VV × Nat)} (hz : gd β n z) (hb : gdE β n es) : gd β n (kval z (kfind k es 0)) := by
  have key : ∀ (es : List (VV × VV × Nat)) (i j : Nat) (v : VV), gdE β n es → kfind k es i = some (j, v) → gd β n v := by
    intro es
    induction es with
    | nil => intro i j v _ hk; cases hk
    | cons e es ih =>
      intro i j v hb hk
      rw [kfind] at hk
      split at hk
      · injection hk with hk; injection hk with _ hk; subst hk; exact (hb e (.head _)).2
      · exact ih _ _ _ (fun x hx => hb x (.tail _ hx)) hk
  cases hk : kfind k es 0 with
  | none => exact hz
  | some p => exact key es 0 p.1 p.2 hb hk
theorem vLookup_ok {t : TypeId} {m k : VV} {ok : Bool} (hv : vLookup P t m k ok h K) (r : RepH β h w) : Here P (Instr.lookup t (den β m) (den β k) ok) β h w K := by
  unfold vLookup at hv
  split at hv
  · rename_i kt et hu
    have bound : ∀ (z : VV) (es : List (VV × VV × Nat)), tzv P et = some z → gdE β h.length es → gd β h.length (if ok then VV.tup [kval z (kfind k es 0), .bool (kfind k es 0).isSome] else kval z (kfind k es 0)) := fun z es hz hbe => by
      have hbd := kval_bd (k := k) (gd_mono (Nat.zero_le h.length) (FLe.refl _) (tzv_run hz β w).2) hbe
      cases ok
      · exact hbd
      · exact (gdL_cons hbd (gdL_cons ⟨trivial, trivial⟩ gdL_nil))
    split at hv
    · rename_i z hz
      obtain ⟨⟨h1, h2, h3⟩, hK⟩ := hv
      refine ⟨_, ?_, bound z [] hz (fun e he => by simp at he), hK⟩
      have h2' := h2 β w
      simp only [mapE, List.map_nil, kfind, Option.map_none] at h2'
      simp only [Instr.lookup, Sem.run_bind, run_underlying hu, Result.andThen_ok, den, Sem.run_pure, h1]
      simp only [h2', Result.andThen_ok, (tzv_run hz β w).1, Sem.run_bind, Sem.run_pure]
      cases ok <;> rfl
    · rename_i z id hz
      rw [nth_eq] at hv
      split at hv
      · rename_i o es ck hb
        obtain ⟨⟨g, hg, hh⟩, hbe⟩ := r.blk id _ hb
        obtain ⟨⟨h1, h2, h3⟩, hK⟩ := hv
        refine ⟨_, ?_, bound z es hz hbe, hK⟩
        have h2' := h2 β w
        simp only [Instr.lookup, Sem.run_bind, run_underlying hu, Result.andThen_ok, den, hg, Option.map_some, Sem.run_pure, Go.MapKept.run_getObj_map hh, h1, h2']
        cases hf : kfind k es 0 with
        | none =>
          simp only [Option.map_none, Sem.run_bind, (tzv_run hz β w).1, Result.andThen_ok, Sem.run_pure, kval]
          cases ok <;> rfl
        | some p =>
          simp only [Option.map_some, Sem.run_bind, Result.andThen_ok, Sem.run_pure, kval]
          cases ok <;> rfl
      · exact hv.elim
    · exact hv.elim
  · exact hv.elim
/-- A map is made. -/
def vMakeMap (r : Option Operand) (h : List Blk) (K : VV → List Blk → Prop) : Prop :=
  match r with
  | none => K (.map h.length) (h ++ [.map true [] 0])
  | some _ => False
theorem vMakeMap_ok {t : TypeId} (hv : K (.map h.length) (h ++ [.map true [] 0])) (r : RepH β h w) : YldV P (Instr.makeMap t none) β h w K := by
  have hk : ∀ k, k < w.heap.size → (w.alloc (.map #[] 0)).heap[k]? = w.heap[k]? := fun k hk => heap_alloc_old w _ hk
  refine ⟨upd β h.length (some (w.heap.size, 0)), _, w.alloc (.map #[] 0), .map h.length, ?_, r.push (Nat.le_refl _) hk ?_, LinkN.push (Nat.le_refl _) rfl rfl rfl (by simp) hk, by simp [gd, bd, okV], hv⟩
  · simp only [Instr.makeMap, Sem.run_bind, run_newObj, Result.andThen_ok, Sem.run_pure, den, upd_same, Option.map_some]
    rfl
  · exact ⟨⟨w.heap.size, upd_same _ _ _, heap_alloc_new w _⟩, fun e he => by simp at he⟩
/-- A block's map is told anew. -/
theorem map_set {id g : Nat} {es es' : List (VV × VV × Nat)} {ck ck' : Nat} (r : RepH β h w) (hb : h[id]? = some (.map true es ck)) (hg : β id = some (g, 0)) (hh : w.heap[g]? = some (.map (mapE β es) ck)) (hbe : gdE β h.length es') :
    RepH β (lset h id (.map true es' ck')) { w with heap := w.heap.setIfInBounds g (.map (mapE β es') ck') } ∧ LinkN β h w β (lset h id (.map true es' ck')) { w with heap := w.heap.setIfInBounds g (.map (mapE β es') ck') } := by
  have hs := Go.MapKept.heap_set (o' := .map (mapE β es') ck') hh
  have hk : ∀ k, bno β id ≠ some k → ({ w with heap := w.heap.setIfInBounds g (.map (mapE β es') ck') } : World).heap[k]? = w.heap[k]? := fun k hk => hs.2 k (fun e => hk (by simp [bno, hg, e]))
  rw [lset_eq]
  exact ⟨r.set hb rfl hk ⟨⟨g, hg, hs.1⟩, hbe⟩, LinkN.set hb rfl rfl rfl rfl (by simp) (fun k h1 _ => hk k h1)⟩
/-- The entry of a key: made where it is not. -/
def vMapEntry (P : Program) (t : TypeId) (m k : VV) (h : List Blk) (K : VV → List Blk → Prop) : Prop :=
  match P.underlying t with
  | some (.map kt et) => match tzv P et, m with
    | some z, .map id => match nth h id with
      | some (.map true es ck) => MapOK P kt k es ∧ (match kfind k es 0 with
        | some (i, v) => K (.tup [v, .int .i64 (((es[i]?).map fun e => e.2.2).getD 0)]) h
        | none => K (.tup [z, .int .i64 ck]) (lset h id (.map true (es ++ [(k, z, ck)]) (ck + 1))))
      | _ => False
    | _, _ => False
  | _ => False
theorem mapE_push (β : Val) (es : List (VV × VV × Nat)) (k v : VV) (b : Nat) : (mapE β es).push ⟨den β k, den β v, b⟩ = mapE β (es ++ [(k, v, b)]) := by
  unfold mapE; simp
theorem mapE_get (β : Val) (es : List (VV × VV × Nat)) (i : Nat) : (mapE β es)[i]? = (es[i]?).map fun e => ⟨den β e.1, den β e.2.1, e.2.2⟩ := by
  unfold mapE; simp
theorem bdE_push {β : Val} {n : Nat} {es : List (VV × VV × Nat)} {k v : VV} {b : Nat} (h : gdE β n es) (hk : gd β n k) (hv : gd β n v) : gdE β n (es ++ [(k, v, b)]) := fun e he => by
  simp only [List.mem_append, List.mem_singleton] at he
  rcases he with he | rfl
  · exact h e he
  · exact ⟨hk, hv⟩
theorem vMapEntry_ok {t : TypeId} {m k : VV} (hv : vMapEntry P t m k h K) (r : RepH β h w) (hbk : gd β h.length k) : YldV P (Instr.mapEntry t (den β m) (den β k)) β h w K := by
  unfold vMapEntry at hv
  split at hv
  · rename_i kt et hu
    split at hv
    · rename_i z id hz
      rw [nth_eq] at hv
      split at hv
      · rename_i es ck hb
        obtain ⟨⟨g, hg, hh⟩, hbe⟩ := r.blk id _ hb
        obtain ⟨⟨h1, h2, h3⟩, hK⟩ := hv
        have h2' := h2 β w
        cases hf : kfind k es 0 with
        | some p =>
          obtain ⟨i, v⟩ := p
          simp only [hf] at hK
          obtain ⟨e, he, hev, hek, hsb⟩ := h3 β i v hf
          have hb' := hbe e (List.mem_of_getElem? he)
          refine ⟨β, h, w, _, ?_, r, LinkN.refl _ _ _, ?_, hK⟩
          · have same : (mapE β es).modify i (fun x => { x with key := den β k }) = mapE β es := by
              apply Array.ext_getElem?
              intro j
              rw [Array.getElem?_modify]
              split
              · rename_i hj; subst hj
                rw [mapE_get, he]; simp [hek]
              · rfl
            have hw : ({ w with heap := w.heap.setIfInBounds g (.map (mapE β es) ck) } : World) = w := by
              have : w.heap.setIfInBounds g (.map (mapE β es) ck) = w.heap := by
                apply Array.ext_getElem?
                intro j
                rw [Array.getElem?_setIfInBounds]
                split
                · rename_i hj; subst hj
                  split
                  · exact hh.symm
                  · rename_i hlt; rw [Array.getElem?_eq_none (by omega)] at hh; cases hh
                · rfl
              rw [this]
            have hstay : (Instr.keyThatStays (den β k) (den β k)).run P w = .ok (den β k) w := by simp [Instr.keyThatStays, hsb]
            simp only [Instr.mapEntry, Sem.run_bind, run_underlying hu, Result.andThen_ok, den, hg, Option.map_some, Go.MapKept.run_getObj_map hh, h1, h2', hf, mapE_get, he, Option.getD_some, hek, hstay, same, Go.MapKept.run_setObj_map _ hh, hw, Sem.run_pure, denL, hev]
            rfl
          · exact gdL_cons (by rw [← hev]; exact hb'.2) (gdL_cons ⟨trivial, trivial⟩ gdL_nil)
        | none =>
          simp only [hf] at hK
          have hz' := tzv_run hz β w
          have hzb : gd β h.length z := gd_mono (Nat.zero_le _) (FLe.refl _) hz'.2
          obtain ⟨R, L⟩ := map_set (es' := es ++ [(k, z, ck)]) (ck' := ck + 1) r hb hg hh (bdE_push hbe hbk hzb)
          refine ⟨β, _, _, .tup [z, .int .i64 ck], ?_, R, L, gdL_cons (by rw [lset_eq, List.length_set]; exact hzb) (gdL_cons ⟨trivial, trivial⟩ gdL_nil), hK⟩
          simp only [Instr.mapEntry, Sem.run_bind, run_underlying hu, Result.andThen_ok, den, hg, Option.map_some, Go.MapKept.run_getObj_map hh, h1, h2', hf, Option.map_none, hz'.1, Go.MapKept.run_setObj_map _ hh, Sem.run_pure, mapE_push, denL]
          rfl
      · exact hv.elim
    · exact hv.elim
  · exact hv.elim
/-- The entry born at b. -/
def bfind (b : Int) : List (VV × VV × Nat) → Option Nat
  | [] => none
  | e :: es => if (e.2.2 : Int) == b then some 0 else (bfind b es).map (· + 1)
def eput (es : List (VV × VV × Nat)) (i : Nat) (v : VV) : List (VV × VV × Nat) := es.modify i fun e => (e.1, v, e.2.2)
theorem bfind_eq (β : Val) (b : Int) : ∀ es, (mapE β es).toList.findIdx? (fun e => (e.born : Int) == b) = bfind b es
  | [] => rfl
  | e :: es => by
    have ih := bfind_eq β b es
    simp only [mapE, List.map_cons, List.findIdx?_cons, bfind] at ih ⊢
    rw [ih]
theorem mapE_put (β : Val) (es : List (VV × VV × Nat)) (i : Nat) (v : VV) : (mapE β es).modify i (fun x => { x with val := den β v }) = mapE β (eput es i v) := by
  apply Array.ext_getElem?
  intro j
  rw [Array.getElem?_modify, mapE_get, mapE_get, eput, List.getElem?_modify]
  by_cases hj : i = j
  · subst hj; cases es[i]? <;> simp
  · simp [hj]
theorem bdE_put {β : Val} {n : Nat} {es : List (VV × VV × Nat)} {i : Nat} {v : VV} (h : gdE β n es) (hv : gd β n v) : gdE β n (eput es i v) := fun e he => by
  obtain ⟨j, hj⟩ := List.getElem?_of_mem he
  rw [eput, List.getElem?_modify] at hj
  cases hx : es[j]? with
  | none => rw [hx] at hj; simp at hj
  | some x =>
    rw [hx] at hj
    have := h x (List.mem_of_getElem? hx)
    by_cases hij : i = j
    · simp [hij] at hj; subst hj; exact ⟨this.1, hv⟩
    · simp [hij] at hj; subst hj; exact this
def vEntryStore (m s x : VV) (h : List Blk) (K : VV → List Blk → Prop) : Prop :=
  match m, s with
  | .map id, .int _ b => match nth h id with
    | some (.map true es ck) => match bfind b es with
      | some i => K (.tup []) (lset h id (.map true (eput es i x) ck))
      | none => False
    | _ => False
  | _, _ => False
theorem vEntryStore_ok {t : TypeId} {m s x : VV} (hv : vEntryStore m s x h K) (r : RepH β h w) (hbx : gd β h.length x) :
    ∃ β' h' w', (Instr.entryStore t (den β m) (den β s) (den β x)).run P w = .ok () w' ∧ RepH β' h' w' ∧ LinkN β h w β' h' w' ∧ K (.tup []) h' := by
  unfold vEntryStore at hv
  split at hv
  · rename_i id k b
    rw [nth_eq] at hv
    split at hv
    · rename_i es ck hb
      obtain ⟨⟨g, hg, hh⟩, hbe⟩ := r.blk id _ hb
      split at hv
      · rename_i i hf
        obtain ⟨R, L⟩ := map_set (es' := eput es i x) (ck' := ck) r hb hg hh (bdE_put hbe hbx)
        refine ⟨β, _, _, ?_, R, L, hv⟩
        have hf' := bfind_eq β b es
        have hf2 : (mapE β es).findIdx? (fun e => (e.born : Int) == b) = bfind b es := by rw [← hf']; exact (List.findIdx?_toArray ..).symm ▸ rfl
        simp only [Instr.entryStore, Sem.run_bind, Result.andThen_ok, den, hg, Option.map_some, Go.MapKept.run_getObj_map hh, asInt, asIntOf, Sem.run_pure, hf2, hf, mapE_put, Go.MapKept.run_setObj_map _ hh]
      · exact hv.elim
    · exact hv.elim
  · exact hv.elim
end
end Go.Sx
