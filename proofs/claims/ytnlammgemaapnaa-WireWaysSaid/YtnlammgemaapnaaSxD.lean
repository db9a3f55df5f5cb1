/- More operations on virtual values: literals, slicing, numbers, append. -/
import Derived.Test.YtnlammgemaapnaaSxC
import Derived.Deep.AppendSrc
set_option linter.unusedSimpArgs false
set_option linter.unusedVariables false
namespace Go.Sx
open Go

section
variable {P : Program} {β : Val} {h : List Blk} {w : World} {K : VV → List Blk → Prop}

/-! #### Literals of structs, arrays, slices -/
def vfill (place : Nat → Option (Nat × Nat)) (l : List VV) : List (Nat × VV) → Option (List VV)
  | [] => some l
  | (i, v) :: rest => match place i with
    | none => none
    | some (off, size) => if (cellsV v).length = size ∧ off + size ≤ l.length ∧ vStore.isTup v = false ∧ (cellsV v).all oneV = true then vfill place (splice l off (cellsV v)) rest else none
theorem splice_nil {α : Type} (l : List α) (o : Nat) : splice l o [] = l := by cases l <;> cases o <;> rfl
theorem foldl_set {α : Type} (off : Nat) : ∀ (vs : List α) (k : Nat) (cur : Array α), off + k + vs.length ≤ cur.size →
    ((vs.zipIdx k).foldl (fun cs x => cs.setIfInBounds (off + x.2) x.1) cur).toList = splice cur.toList (off + k) vs
  | [], k, cur, _ => by simp [splice_nil]
  | v :: vs, k, cur, hl => by
    simp only [List.zipIdx_cons, List.foldl_cons]
    simp only [List.length_cons] at hl
    rw [foldl_set off vs (k + 1) _ (by simp; omega)]
    have h1 : off + k + (v :: vs).length ≤ cur.toList.length := by simp; omega
    have h2 : off + (k + 1) + vs.length ≤ (cur.setIfInBounds (off + k) v).toList.length := by simp; omega
    rw [splice_eq _ _ _ h1, splice_eq _ _ _ h2]
    simp only [Array.toList_setIfInBounds]
    apply List.ext_getElem?
    intro i
    simp only [List.getElem?_append, List.getElem?_take, List.getElem?_drop, List.getElem?_set, List.length_take, List.length_set, Array.length_toList, List.length_append, List.length_cons, List.getElem?_cons]
    have e1 : min (off + (k + 1)) cur.size = off + k + 1 := by omega
    have e2 : min (off + k) cur.size = off + k := by omega
    simp only [e1, e2]
    rcases Nat.lt_trichotomy i (off + k) with c | c | c
    · have a1 : i < off + k + 1 + vs.length := by omega
      have a2 : i < off + k + 1 := by omega
      have a3 : i < off + (k + 1) := by omega
      have a4 : ¬ (off + k = i) := by omega
      have a5 : i < off + k + (vs.length + 1) := by omega
      simp [a1, a2, a3, a4, a5, c]
    · subst c
      have a1 : off + k < off + k + 1 + vs.length := by omega
      have a3 : off + k < off + (k + 1) := by omega
      have a6 : off + k < cur.size := by omega
      simp [a1, a3, a6]
    · have a2 : ¬ (i < off + k + 1) := by omega
      have a4 : ¬ (off + k = i) := by omega
      have a6 : ¬ (i < off + k) := by omega
      have a7 : ¬ (i - (off + k) = 0) := by omega
      simp only [a2, a4, a6, a7, if_false]
      by_cases a8 : i < off + k + 1 + vs.length
      · have a9 : i < off + k + (vs.length + 1) := by omega
        simp only [a8, a9, if_true]
        first | (congr 1; done) | (congr 1; omega)
      · have a9 : ¬ (i < off + k + (vs.length + 1)) := by omega
        simp only [a8, a9, if_false]
        have b1 : ¬ (off + k = off + (k + 1) + vs.length + (i - (off + k + 1 + vs.length))) := by omega
        simp only [b1, if_false]
        first | (congr 1; done) | (congr 1; omega)
theorem fill_run (place : Nat → Option (Nat × Nat)) : ∀ (ps : List (Nat × VV)) (l l' : List VV), vfill place l ps = some l' → gdL β h.length l → (∀ p ∈ ps, gd β h.length p.2) → (∀ u ∈ l, oneV u = true) →
    Instr.fill place (denL β l).toArray (ps.map fun p => (p.1, den β p.2)) = some (denL β l').toArray ∧ gdL β h.length l' ∧ (∀ u ∈ l', oneV u = true) ∧ l'.length = l.length
  | [], l, l', hf, hb, _, h1 => by simp [vfill] at hf; subst hf; exact ⟨rfl, hb, h1, rfl⟩
  | (i, v) :: ps, l, l', hf, hb, hp, h1 => by
    simp only [vfill] at hf
    split at hf
    · cases hf
    · rename_i off size hpl
      split at hf
      · rename_i hc
        obtain ⟨rfl, hle, ht, hone⟩ := hc
        rw [List.all_eq_true] at hone
        have hbv : gd β h.length v := hp (i, v) (by simp)
        have hb' : gdL β h.length (splice l off (cellsV v)) := by
          rw [gdL_iff]; intro u hu
          rcases mem_splice hle hu with h2 | h2
          · exact (gdL_iff _ _ _).1 hb u h2
          · exact (gdL_iff _ _ _).1 (gd_cells hbv) u h2
        have h1' : ∀ u ∈ splice l off (cellsV v), oneV u = true := fun u hu => by
          rcases mem_splice hle hu with h2 | h2
          · exact h1 u h2
          · exact hone u h2
        obtain ⟨g1, g2, g3, g4⟩ := fill_run place ps _ l' hf hb' (fun p hp' => hp p (by simp [hp'])) h1'
        refine ⟨?_, g2, g3, by rw [g4, splice_length _ _ _ hle]⟩
        rw [List.map_cons, Instr.fill, hpl]
        have hc' := den_cells' β v ht
        simp only [hc', List.size_toArray, denL_length]
        rw [if_neg (by simp; omega)]
        rw [← g1]
        congr 1
        apply Array.ext'
        have := foldl_set off (denL β (cellsV v)) 0 (denL β l).toArray (by simp [denL_length]; omega)
        simp only [Nat.add_zero] at this
        rw [← Array.foldl_toList]
        simp only [Array.toList_zipIdx]
        rw [this, splice_eq _ _ _ (by simpa [denL_length] using hle), splice_eq _ _ _ hle]
        simp only [denL_map, List.map_append, List.map_take, List.map_drop, List.length_map]
      · cases hf

def vParts (ev : Operand → Option VV) : List (Nat × Operand) → Option (List (Nat × VV))
  | [] => some []
  | (i, x) :: l => match ev x, vParts ev l with
    | some v, some r => some ((i, v) :: r)
    | _, _ => none
theorem vParts_ok {ev : Operand → Option VV} {ρ : Operand → Value} (he : ∀ x v, ev x = some v → ρ x = den β v ∧ gd β h.length v) : ∀ (l : List (Nat × Operand)) (r : List (Nat × VV)), vParts ev l = some r →
    l.map (fun p => (p.1, ρ p.2)) = r.map (fun p => (p.1, den β p.2)) ∧ ∀ p ∈ r, gd β h.length p.2
  | [], r, hr => by simp [vParts] at hr; subst hr; simp
  | (i, x) :: l, r, hr => by
    simp only [vParts] at hr
    split at hr
    · rename_i v r' hv hr'
      injection hr with hr
      subst hr
      obtain ⟨h1, h2⟩ := vParts_ok he l r' hr'
      obtain ⟨h3, h4⟩ := he x v hv
      refine ⟨by simp [h1, h3], fun p hp => ?_⟩
      simp only [List.mem_cons] at hp
      rcases hp with rfl | hp
      · exact h4
      · exact h2 p hp
    · cases hr

def tplaces (P : Program) (t : TypeId) : Option (List (Nat × Nat)) :=
  match P.underlying t with
  | some (.struct fs) => fs.toList.mapM fun f => (tsz P f.type).map fun s => (f.offset, s)
  | _ => none
theorem places_run : ∀ (fs : List Field) (ps : List (Nat × Nat)), (fs.mapM fun f => (tsz P f.type).map fun s => (f.offset, s)) = some ps →
    ((fs.mapM fun f => do pure (f.offset, ← sizeOf f.type) : Sem (List (Nat × Nat)))).run P w = .ok ps w
  | [], ps, hp => by simp at hp; subst hp; simp
  | f :: fs, ps, hp => by
    simp only [List.mapM_cons, Option.bind_eq_bind, Option.bind_eq_some_iff, Option.map_eq_some_iff, Option.pure_def, Option.some.injEq] at hp
    obtain ⟨x, ⟨s, hs, rfl⟩, r, hr, rfl⟩ := hp
    simp only [List.mapM_cons, Sem.run_bind, sizeOf_run _ _ hs, Result.andThen_ok, Sem.run_pure, places_run fs r hr]
def vBuild (P : Program) (t : TypeId) (ps : Option (List (Nat × VV))) (h : List Blk) (K : VV → List Blk → Prop) : Prop :=
  match ps, tzero P t with
  | some ps, some z => z.all oneV = true ∧ (match tplaces P t, tarr P t with
    | some pl, _ => match vfill (fun i => nth pl i) z ps with
      | some l => K (.agg l) h
      | none => False
    | none, some (_, _, s) => match vfill (fun i => some (i * s, s)) z ps with
      | some l => K (.agg l) h
      | none => False
    | none, none => False)
  | _, _ => False
theorem zero_run {t : TypeId} {z : List VV} (hz : tzero P t = some z) : ∃ v : Value, (zeroValue t).run P w = .ok v w ∧ v.cells = (denL β z).toArray ∧ gdL β 0 z := by
  unfold tzero at hz
  simp only [Option.bind_eq_some_iff] at hz
  obtain ⟨v, ⟨i, hi, hv⟩, hzl⟩ := hz
  obtain ⟨hd, hb⟩ := ofVals_den β _ _ hzl
  exact ⟨v, by simp [zeroValue, typeInfo, hi, hv], by rw [hd, Array.toArray_toList], hb⟩
theorem vBuild_ok {t : TypeId} {ev : Operand → Option VV} {ρ : Operand → Value} {parts : Array (Nat × Operand)} (he : ∀ x v, ev x = some v → ρ x = den β v ∧ gd β h.length v)
    (hv : vBuild P t (vParts ev parts.toList) h K) (r : RepH β h w) : Here P (Instr.build t (parts.map fun (i, x) => (i, ρ x))) β h w K := by
  unfold vBuild at hv
  split at hv
  · rename_i ps z hps hz
    obtain ⟨hone, hv⟩ := hv
    rw [List.all_eq_true] at hone
    obtain ⟨zv, hzr, hzc, hzb⟩ := zero_run (P := P) (β := β) (w := w) hz
    obtain ⟨hp1, hp2⟩ := vParts_ok he _ _ hps
    have hparts : (parts.map fun (i, x) => (i, ρ x)).toList = ps.map fun p => (p.1, den β p.2) := by rw [← hp1]; simp
    split at hv
    · rename_i _ pl hpl
      split at hv
      · rename_i l hl
        obtain ⟨g1, g2, _, _⟩ := fill_run (β := β) (h := h) (fun i => nth pl i) ps z l hl (gdL_mono (Nat.zero_le _) (FLe.refl _) hzb) hp2 hone
        unfold tplaces at hpl
        split at hpl
        · rename_i fs hu
          refine Here.here (v := .agg l) r ?_ g2 hv
          have hm := places_run (P := P) (w := w) fs.toList pl hpl
          have hm' : ((fs.mapM fun f => do pure (f.offset, ← sizeOf f.type) : Sem (Array (Nat × Nat)))).run P w = .ok pl.toArray w := by
            rw [Array.mapM_eq_mapM_toList]; simp only [Sem.run_map, hm, Result.andThen_ok]
          have hnth : (fun i => nth pl i) = fun i => pl.toArray[i]? := by funext i; rw [nth_eq]; simp
          rw [hnth] at g1
          simp only [Instr.build, Sem.run_bind, hzr, Result.andThen_ok, run_underlying hu, hm', hparts, hzc, g1, Sem.run_pure, den]
        · cases hpl
      · exact hv.elim
    · rename_i n e s hpl harr
      split at hv
      · rename_i l hl
        obtain ⟨g1, g2, _, _⟩ := fill_run (β := β) (h := h) _ ps z l hl (gdL_mono (Nat.zero_le _) (FLe.refl _) hzb) hp2 hone
        unfold tarr at harr
        split at harr
        · rename_i n' e' hu
          simp only [Option.map_eq_some_iff, Prod.mk.injEq] at harr
          obtain ⟨s', hs', rfl, rfl, rfl⟩ := harr
          refine Here.here (v := .agg l) r ?_ g2 hv
          simp only [Instr.build, Sem.run_bind, hzr, Result.andThen_ok, run_underlying hu, sizeOf_run _ _ hs', hparts, hzc, g1, Sem.run_pure, den]
        · cases harr
      · exact hv.elim
    · exact hv.elim
  · exact hv.elim

/-- A row's element out of a list of cells. -/
def chunk (sz : Nat) (l : List VV) (j : Nat) : List VV := seg l (j * sz) sz
def rep {α : Type} (z : List α) : Nat → List α
  | 0 => []
  | n + 1 => z ++ rep z n
theorem rep_length {α : Type} (z : List α) : ∀ n, (rep z n).length = n * z.length
  | 0 => by simp [rep]
  | n + 1 => by rw [rep, List.length_append, rep_length z n, Nat.succ_mul, Nat.add_comm]
theorem rep_get {α : Type} (z : List α) : ∀ (n i : Nat), i < n * z.length → (rep z n)[i]? = z[i % z.length]?
  | 0, i, hi => by simp at hi
  | n + 1, i, hi => by
    rw [rep]
    rcases Nat.lt_or_ge i z.length with c | c
    · rw [List.getElem?_append_left c, Nat.mod_eq_of_lt c]
    · rw [List.getElem?_append_right c, rep_get z n _ (by rw [Nat.succ_mul] at hi; omega)]
      rw [Nat.mod_eq_sub_mod c]
theorem chunk_els {β : Val} {n sz len : Nat} {l : List VV} (hl : l.length = len * sz) (hb : gdL β n l) (h1 : ∀ u ∈ l, oneV u = true) : Els β n sz len (chunk sz l) := by
  intro j hj
  have hle : j * sz + sz ≤ l.length := by rw [hl, ← Nat.succ_mul]; exact Nat.mul_le_mul_right _ hj
  have hm : ∀ u ∈ chunk sz l j, u ∈ l := fun u hu => by
    rw [chunk, seg_eq] at hu; exact List.mem_of_mem_drop (List.mem_of_mem_take hu)
  refine ⟨by rw [chunk, seg_eq]; simp; omega, ?_, fun u hu => h1 u (hm u hu)⟩
  rw [gdL_iff]; exact fun u hu => (gdL_iff _ _ _).1 hb u (hm u hu)
theorem chunk_get {sz len j i : Nat} {l : List VV} (hl : l.length = len * sz) (hj : j < len) {u : VV} (hu : (chunk sz l j)[i]? = some u) : l[j * sz + i]? = some u := by
  rw [chunk, seg_eq, List.getElem?_take] at hu
  split at hu
  · rwa [List.getElem?_drop] at hu
  · cases hu
def vBuildSlice (P : Program) (t : TypeId) (len : Nat) (ps : Option (List (Nat × VV))) (h : List Blk) (K : VV → List Blk → Prop) : Prop :=
  match ps, tsl P t with
  | some ps, some (e, s) => match tzero P e with
    | some z => (z.all oneV = true ∧ z.length = s ∧ 0 < s ∧ len * s ≤ 16777216) ∧ (match vfill (fun i => some (i * s, s)) (rep z len) ps with
      | some l => K (.slice h.length len len) (h ++ [.own e s len len (chunk s l)])
      | none => False)
    | none => False
  | _, _ => False
theorem vBuildSlice_ok {t : TypeId} {len : Nat} {ev : Operand → Option VV} {ρ : Operand → Value} {parts : Array (Nat × Operand)} (he : ∀ x v, ev x = some v → ρ x = den β v ∧ gd β h.length v)
    (hv : vBuildSlice P t len (vParts ev parts.toList) h K) (r : RepH β h w) : YldV P (Instr.buildSlice t len (parts.map fun (i, x) => (i, ρ x))) β h w K := by
  unfold vBuildSlice at hv
  split at hv
  · rename_i ps e s hps ht
    split at hv
    · rename_i z hz
      obtain ⟨⟨hone, hzl, hs0, hbig⟩, hv⟩ := hv
      rw [List.all_eq_true] at hone
      split at hv
      · rename_i l hl
        obtain ⟨zv, hzr, hzc, hzb⟩ := zero_run (P := P) (β := β) (w := w) hz
        obtain ⟨hp1, hp2⟩ := vParts_ok he _ _ hps
        have hparts : (parts.map fun (i, x) => (i, ρ x)).toList = ps.map fun p => (p.1, den β p.2) := by rw [← hp1]; simp
        have hrep1 : ∀ u ∈ rep z len, u ∈ z := fun u hu => by
          obtain ⟨i, hi⟩ := List.getElem?_of_mem hu
          have hil := (List.getElem?_eq_some_iff.1 hi).1
          rw [rep_length] at hil
          rw [rep_get _ _ _ hil] at hi
          exact List.mem_of_getElem? hi
        obtain ⟨g1, g2, g3, g4⟩ := fill_run (β := β) (h := h) (fun i => some (i * s, s)) ps (rep z len) l hl (by rw [gdL_iff]; exact fun u hu => gd_mono (Nat.zero_le _) (FLe.refl _) ((gdL_iff _ _ _).1 hzb u (hrep1 u hu))) hp2 (fun u hu => hone u (hrep1 u hu))
        unfold tsl at ht
        split at ht
        · rename_i e' hu
          simp only [Option.map_eq_some_iff, Prod.mk.injEq] at ht
          obtain ⟨s', hs', rfl, rfl⟩ := ht
          have hll : l.length = len * s' := by rw [g4, rep_length, hzl]
          have hcells : ((Array.range (len * s')).map (zv.cells[· % zv.cells.size]!)) = (denL β (rep z len)).toArray := by
            apply Array.ext'
            apply List.ext_getElem?
            intro i
            rw [hzc]
            simp only [Array.toList_map, Array.toList_range, List.getElem?_map, denL_get, List.size_toArray, denL_length]
            rcases Nat.lt_or_ge i (len * s') with c | c
            · rw [List.getElem?_range c, rep_get z len i (by rw [hzl]; exact c)]
              have hm : i % z.length < z.length := Nat.mod_lt _ (by omega)
              simp only [Option.map_some, List.getElem?_eq_getElem hm]
              congr 1
              have hm2 : i % z.length < (denL β z).length := by rw [denL_length]; exact hm
              rw [List.getElem!_toArray]
              have : (denL β z)[i % z.length]! = (denL β z)[i % z.length] := getElem!_pos (denL β z) _ hm2
              rw [this]
              simp [denL_map]
            · rw [List.getElem?_eq_none (by simpa using c), List.getElem?_eq_none (by rw [rep_length, hzl]; exact c)]
              rfl
          have hk : ∀ k, k < w.heap.size → (w.alloc (.cells (denL β l).toArray e')).heap[k]? = w.heap[k]? := fun k hk => heap_alloc_old w _ hk
          have ext : ∀ i, i < h.length → upd β h.length (some (w.heap.size, 0)) i = β i := fun i hi => upd_old _ _ _ _ hi
          have hmax : len ≤ maxI := by
            have : len * 1 ≤ len * s' := Nat.mul_le_mul_left _ hs0
            unfold maxI; omega
          refine ⟨_, _, _, .slice h.length len len, ?_, r.push (b := .own e' s' len len (chunk s' l)) (Nat.le_refl _) hk ?_, LinkN.push (Nat.le_refl _) rfl rfl rfl (by simp) hk, by simp [gd, bd, okV], hv⟩
          · have h224 : ¬ (len * s' > 2 ^ 24) := by omega
            by_cases h0 : len * s' = 0
            · have hl0 : len = 0 := by
                rcases Nat.mul_eq_zero.1 h0 with h' | h'
                · exact h'
                · omega
              subst hl0
              have hrz : rep z 0 = [] := rfl
              rw [hrz] at g1
              simp only [Instr.buildSlice, Sem.run_bind, run_underlying hu, Result.andThen_ok, sizeOf_run _ _ hs', Nat.zero_mul, Sem.run_ite, Nat.not_lt_zero, gt_iff_lt, if_false, if_true, Sem.run_pure]
              simp only [hparts]
              have e0 : (Array.map (fun x => (#[] : Array Value)[x % (#[] : Array Value).size]!) (Array.range 0)) = (denL β []).toArray := by simp [denL]
              rw [e0, g1]
              simp only [newRow, Sem.run_bind, run_newObj, Result.andThen_ok, Sem.run_pure, den, adr, upd_same, Option.map_some]
              rfl
            · simp only [Instr.buildSlice, Sem.run_bind, run_underlying hu, Result.andThen_ok, sizeOf_run _ _ hs', Sem.run_ite, h224, h0, if_false, hzr, Sem.run_pure]
              simp only [hparts, hcells, g1]
              simp only [newRow, Sem.run_bind, run_newObj, Result.andThen_ok, Sem.run_pure, den, adr, upd_same, Option.map_some]
              rfl
          · refine ⟨Nat.le_refl _, hmax, (chunk_els hll g2 g3).mono (by omega) (FLe.refl _), .inr ⟨w.heap.size, _, upd_same _ _ _, heap_alloc_new w _, ?_, fun j hj i u hu' => ?_⟩⟩
            · simp [denL_length, hll]
            · have hx := chunk_get hll hj hu'
              rw [List.getElem?_toArray, denL_get, hx, Option.map_some]
              rw [den_congr ext u (gd_mem g2 hx).1]
        · cases ht
      · exact hv.elim
    · exact hv.elim
  · exact hv.elim
end
end Go.Sx
