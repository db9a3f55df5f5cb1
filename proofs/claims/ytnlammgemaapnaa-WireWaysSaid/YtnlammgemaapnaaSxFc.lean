/- copy into an array that is a part of a block of one's own. -/
import Derived.Test.YtnlammgemaapnaaSxFe
set_option linter.unusedSimpArgs false
set_option linter.unusedVariables false
namespace Go.Sx
open Go
section
variable {P : Program} {β : Val} {h : List Blk} {w : World} {K : VV → List Blk → Prop}
def vCopyB (b : Blk) (id idx fo esz n m : Nat) (el : Nat → List VV) (h : List Blk) (K : VV → List Blk → Prop) : Prop :=
  match b with
  | .cells true ty l => (idx = 0 ∧ fo + n * esz ≤ l.length ∧ 0 < l.length) ∧ K (.int .i64 ((min m n : Nat) : Int)) (lset h id (.cells true ty (splice l fo (flat (min m n) el))))
  | _ => False
def vCopy (P : Program) (t : TypeId) (dst src : VV) (h : List Blk) (K : VV → List Blk → Prop) : Prop :=
  match dst with
  | .asl id idx _ fo esz n _ => match tsl P t with
    | some (_, s) => s = esz ∧ 0 < s ∧ vSrc src h esz fun m el => match nth h id with
      | some b => vCopyB b id idx fo esz n m el h K
      | none => False
    | none => False
  | _ => False
theorem vCopy_ok {t ty0 : TypeId} {dst src : VV} (hv : vCopy P t dst src h K) (r : RepH β h w) (hbs : gd β h.length src) : YldV P (Builtin.copy_ #[t, t] ty0 #[den β dst, den β src]) β h w K := by
  unfold vCopy at hv
  split at hv
  · rename_i id idx sz0 fo esz n cap
    split at hv
    · rename_i e s ht
      obtain ⟨rfl, hs0, hv⟩ := hv
      have htt := ht
      unfold tsl at htt
      split at htt
      · rename_i e' hu
        simp only [Option.map_eq_some_iff, Prod.mk.injEq] at htt
        obtain ⟨s', hs', rfl, rfl⟩ := htt
        obtain ⟨m, el, A, c', hv, he, hm, hden, hcell⟩ := vSrc_at hv r hbs
        rw [nth_eq] at hv
        split at hv
        · rename_i b hb
          unfold vCopyB at hv
          split at hv
          · rename_i ty l
            obtain ⟨⟨rfl, hle, hl0⟩, hK⟩ := hv
            obtain ⟨⟨g, hg, hh⟩, hgl, hone⟩ := r.blk id _ hb
            have hk : min m n ≤ m := Nat.min_le_left _ _
            have hkn : min m n ≤ n := Nat.min_le_right _ _
            have hek : Els β h.length s' (min m n) el := fun j hj => he j (by omega)
            have hflat := flat_length hek
            have hfit : fo + (flat (min m n) el).length ≤ l.length := by
              rw [hflat]
              have : min m n * s' ≤ n * s' := Nat.mul_le_mul_right _ hkn
              omega
            have hlen : (denL β (flat (min m n) el)).length = min m n * s' := by rw [denL_length, hflat]
            have hcells : (Builtin.firstCells s' (min m n) (den β src)).run P w = .ok (denL β (flat (min m n) el)).toArray w := by
              rw [hden]
              rcases Nat.eq_zero_or_pos (min m n) with h0 | h0
              · have e0 : flat (min m n) el = [] := by rw [h0]; rfl
                cases A with
                | none => simp only [Option.map_none, Builtin.firstCells, Sem.run_pure, e0, denL]
                | some q =>
                  have := run_loadCells_list (P := P) w ⟨q.1, q.2, none⟩ [] (by simp)
                  simp only [Option.map_some, Builtin.firstCells, e0, denL]
                  rw [h0, Nat.zero_mul]
                  simpa using this
              · obtain ⟨g', o', rfl, hc⟩ := hcell (by omega) hs0
                simp only [Option.map_some, Builtin.firstCells]
                have := run_loadCells_list (P := P) w ⟨g', o', none⟩ (denL β (flat (min m n) el)) (fun k u hu => ?_)
                · rw [hlen] at this; exact this
                · rw [denL_get, Option.map_eq_some_iff] at hu
                  obtain ⟨v, hv, rfl⟩ := hu
                  obtain ⟨_, hq, hel, hd⟩ := flat_at hek hv
                  rw [add_at, ← hc _ (by omega) _ _ hel, hd]
            have hone' : ∀ v ∈ denL β (flat (min m n) el), v.oneCell' = true := fun v hv => by
              rw [denL_map] at hv
              obtain ⟨x, hx, rfl⟩ := List.mem_map.1 hv
              obtain ⟨j, hj, hxj⟩ := flat_mem hx
              exact den_one β x ((hek j hj).2.2 x hxj)
            have hst := run_storeCells_at (P := P) g fo ty (denL β (flat (min m n) el)) 0 (denL β l).toArray w hh (by simp only [List.size_toArray, denL_length, Nat.add_zero]; exact hfit) hone'
            simp only [Nat.add_zero] at hst
            have hrow : ((denL β l).toArray.toList.take fo ++ denL β (flat (min m n) el) ++ (denL β l).toArray.toList.drop (fo + (denL β (flat (min m n) el)).length)).toArray = (denL β (splice l fo (flat (min m n) el))).toArray := by
              rw [splice_eq _ _ _ hfit]
              simp only [denL_map, List.map_append, List.map_take, List.map_drop, List.length_map]
            rw [hrow] at hst
            have hkeep : ∀ k, bno β id ≠ some k → (w.setRow g (denL β (splice l fo (flat (min m n) el))).toArray).heap[k]? = w.heap[k]? := fun k hk => setRow_other w g k _ (fun e => hk (by simp [bno, hg, e]))
            rw [lset_eq] at hK
            refine ⟨β, _, _, .int .i64 ((min m n : Nat) : Int), ?_, r.set (b' := .cells true ty (splice l fo (flat (min m n) el))) hb rfl hkeep ⟨⟨g, hg, setRow_heap w g _ _ ty _ hh⟩, ?_, fun u hu => ?_⟩, LinkN.set hb rfl rfl rfl rfl (by simp [World.setRow]) (fun k hk _ => hkeep k hk), ⟨trivial, trivial⟩, hK⟩
            · have hsz : (sizeOf e').run P w = .ok s' w := sizeOf_run e' s' hs'
              have hl1 : (Builtin.lenOf (den β src)).run P w = .ok m w := by rw [hden]; rfl
              have hmin : Nat.min m n = min m n := rfl
              have e2 : den β (.asl id 0 sz0 fo s' n cap) = .slice (some ⟨g, fo, none⟩) n cap := by simp [den, adr, hg]
              have hc2 : (Builtin.firstCells s' (m.min n) (den β src)).run P w = .ok (denL β (flat (min m n) el)).toArray w := hcells
              rw [e2]
              simp [Builtin.copy_, run_underlying hu, hl1, hsz, hc2, hst, den, goInt]
            · rw [gdL_iff]; intro u hu
              rcases mem_splice hfit hu with h2 | h2
              · exact (gdL_iff _ _ _).1 hgl u h2
              · obtain ⟨j, hj, hxj⟩ := flat_mem h2
                exact (gdL_iff _ _ _).1 (hek j hj).2.1 u hxj
            · rcases mem_splice hfit hu with h2 | h2
              · exact hone u h2
              · obtain ⟨j, hj, hxj⟩ := flat_mem h2
                exact (hek j hj).2.2 u hxj
          · exact hv.elim
        · exact hv.elim
      · cases htt
    · exact hv.elim
  · exact hv.elim
end
end Go.Sx
