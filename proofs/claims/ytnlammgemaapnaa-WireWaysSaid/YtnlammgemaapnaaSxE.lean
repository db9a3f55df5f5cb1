/- More operations on virtual values: slicing, numbers, append. -/
import Derived.Test.YtnlammgemaapnaaSxD
set_option linter.unusedSimpArgs false
set_option linter.unusedVariables false
namespace Go.Sx
open Go

section
variable {P : Program} {β : Val} {h : List Blk} {w : World} {K : VV → List Blk → Prop}

/-! #### Slicing a slice -/
def vInt : Option (Option VV) → Nat → Option Int
  | none, d => some d
  | some (some (.int _ i)), _ => some i
  | _, _ => none
/-- A row seen from place l on, n elements of it. -/
def vView (b : Blk) (l n : Nat) : Option (Nat × Blk) :=
  match b with
  | .row s m el => some (m, .row s n fun j => el (l + j))
  | .own _ s m _ el => some (m, .row s n fun j => el (l + j))
  | _ => none
/-- Where a part of a row begins. -/
def roOff (p : Option (Nat × Nat)) (l m sz : Nat) : Option (Nat × Nat) := if m = l then p else p.map fun q => (q.1, q.2 + l * sz)
def vSlice (P : Program) (t : TypeId) (x : VV) (lo hi mx : Option (Option VV)) (h : List Blk) (K : VV → List Blk → Prop) : Prop :=
  match tsl P t, x with
  | some (_, s), .slice id len cap => match vInt lo 0, vInt hi len, vInt mx cap, nth h id with
    | some l, some e, some m, some b => (0 ≤ l ∧ l ≤ e ∧ e ≤ m ∧ m ≤ cap) ∧ (mx.isSome = true → hi.isSome = true) ∧ (match vView b l.toNat (e.toNat - l.toNat), vEl b with
      | some (n, b'), some s' => (e.toNat ≤ n ∧ s' = s) ∧ K (.slice h.length (e.toNat - l.toNat) (m.toNat - l.toNat)) (lset h id b.deg ++ [b'])
      | _, _ => False)
    | _, _, _, _ => False
  | some _, .nilSlice => match vInt lo 0, vInt hi 0, vInt mx 0 with
    | some l, some e, some m => (l = 0 ∧ e = 0 ∧ m = 0) ∧ (mx.isSome = true → hi.isSome = true) ∧ K .nilSlice h
    | _, _, _ => False
  | some (_, s), .ro p sz n cap el => match vInt lo 0, vInt hi n, vInt mx cap with
    | some l, some e, some m => (0 ≤ l ∧ l ≤ e ∧ e ≤ m ∧ m ≤ cap) ∧ (mx.isSome = true → hi.isSome = true) ∧ (e.toNat ≤ n ∧ s = sz) ∧ K (.ro (roOff p l.toNat m.toNat sz) sz (e.toNat - l.toNat) (m.toNat - l.toNat) fun j => el (l.toNat + j)) h
    | _, _, _ => False
  | none, .ptr id idx sz fo => match tarr P t with
    | some (n, _, s) => (lo.isNone = true ∧ hi.isNone = true ∧ mx.isNone = true) ∧ vAt id idx sz h ∧ K (.asl id idx sz fo s n n) h
    | none => False
  | _, _ => False
where vEl : Blk → Option Nat
  | .row s _ _ => some s
  | .own _ s _ _ _ => some s
  | _ => none
theorem bounds_run {len cap : Nat} {lo hi mx : Option (Option VV)} {l e m : Int} {lov hiv mxv : Option Value} (hlo : vInt lo 0 = some l) (hhi : vInt hi len = some e) (hmx : vInt mx cap = some m)
    (h1 : ∀ v, lo = some (some v) → lov = some (den β v)) (h1' : lo = none → lov = none) (h2 : ∀ v, hi = some (some v) → hiv = some (den β v)) (h2' : hi = none → hiv = none) (h3 : ∀ v, mx = some (some v) → mxv = some (den β v)) (h3' : mx = none → mxv = none)
    (h0 : 0 ≤ l ∧ l ≤ e ∧ e ≤ m ∧ m ≤ cap) (hm : mx.isSome = true → hi.isSome = true) :
    (Instr.sliceBounds true len cap lov hiv mxv).run P w = .ok (l.toNat, e.toNat, m.toNat) w := by
  obtain ⟨hl0, hle, hem, hmc⟩ := h0
  have hmn : ((m.toNat : Nat) : Int) = m := by omega
  have hen : ((e.toNat : Nat) : Int) = e := by omega
  have key : ∀ (y : Nat) (k : IntKind) (i : Int) (c : BoundsCode), 0 ≤ i → i ≤ y → (Instr.sliceBound (.int k i) y c).run P w = .ok i.toNat w := fun y k i c a b => by
    simp only [Instr.sliceBound, asIntOf, Sem.run_bind, Sem.run_pure, Result.andThen_ok, Sem.run_ite]
    rw [if_pos ⟨a, b⟩]
  have form : ∀ (o : Option (Option VV)) (d : Nat) (x : Int) (ov : Option Value), vInt o d = some x → (∀ v, o = some (some v) → ov = some (den β v)) → (o = none → ov = none) →
      (o = none ∧ ov = none ∧ x = d) ∨ (∃ k, o.isSome = true ∧ ov = some (.int k x)) := fun o d x ov hx g1 g2 => by
    cases o with
    | none => exact .inl ⟨rfl, g2 rfl, by simpa [vInt] using hx.symm⟩
    | some o' => cases o' with
      | none => simp [vInt] at hx
      | some v => cases v with
        | int k i =>
          simp only [vInt, Option.some.injEq] at hx
          subst hx
          exact .inr ⟨k, rfl, g1 _ rfl⟩
        | _ => simp [vInt] at hx
  rcases form _ _ _ _ hlo h1 h1' with ⟨a1, rfl, a2⟩ | ⟨k1, _, rfl⟩ <;> rcases form _ _ _ _ hhi h2 h2' with ⟨b1, rfl, b2⟩ | ⟨k2, _, rfl⟩ <;> rcases form _ _ _ _ hmx h3 h3' with ⟨c1, rfl, c2⟩ | ⟨k3, c1, rfl⟩
  all_goals first
    | (exfalso; have := hm c1; rw [b1] at this; cases this)
    | (simp only [Instr.sliceBounds, Sem.run_bind, Sem.run_pure, Result.andThen_ok, key cap k3 m _ (by omega) hmc, key m.toNat k2 e _ (by omega) (by omega), key e.toNat k1 l _ hl0 (by omega)]; (try rfl); done)
    | (simp only [Instr.sliceBounds, Sem.run_bind, Sem.run_pure, Result.andThen_ok, key cap k3 m _ (by omega) hmc, key m.toNat k2 e _ (by omega) (by omega)]; subst a2; (try rfl); done)
    | (subst c2; simp only [Instr.sliceBounds, Sem.run_bind, Sem.run_pure, Result.andThen_ok, Int.toNat_natCast, key cap k2 e _ (by omega) (by omega), key e.toNat k1 l _ hl0 (by omega)]; (try rfl); done)
    | (subst c2; subst a2; simp only [Instr.sliceBounds, Sem.run_bind, Sem.run_pure, Result.andThen_ok, Int.toNat_natCast, key cap k2 e _ (by omega) (by omega)]; (try rfl); done)
    | (subst c2; subst b2; simp only [Instr.sliceBounds, Sem.run_bind, Sem.run_pure, Result.andThen_ok, Int.toNat_natCast, key len k1 l _ hl0 (by omega)]; (try rfl); done)
    | (subst c2; subst b2; subst a2; simp only [Instr.sliceBounds, Sem.run_bind, Sem.run_pure, Result.andThen_ok, Int.toNat_natCast]; (try rfl); done)
def optV (ev : Operand → Option VV) : Option Operand → Option (Option VV)
  | none => none
  | some x => some (ev x)
theorem vSlice_ok {t : TypeId} {ev : Operand → Option VV} {ρ : Operand → Value} {x : VV} {lo hi mx : Option Operand} (he : ∀ x v, ev x = some v → ρ x = den β v ∧ gd β h.length v)
    (hv : vSlice P t x (optV ev lo) (optV ev hi) (optV ev mx) h K) (r : RepH β h w) (hgx : gd β h.length x) : YldV P (Instr.sliceAt t (den β x) (lo.map ρ) (hi.map ρ) (mx.map ρ)) β h w K := by
  have hop : ∀ (o : Option Operand), (∀ v, optV ev o = some (some v) → o.map ρ = some (den β v)) ∧ (optV ev o = none → o.map ρ = none) := fun o => by
    cases o with
    | none => exact ⟨fun v hv => by simp [optV] at hv, fun _ => rfl⟩
    | some x => exact ⟨fun v hv => by simp only [optV, Option.some.injEq] at hv; simp [(he x v hv).1], fun hn => by simp [optV] at hn⟩
  unfold vSlice at hv
  split at hv
  · rename_i e' s id len cap ht
    rw [nth_eq] at hv
    split at hv
    · rename_i l e m b hl hhi hm hb
      obtain ⟨h0, hms, hv⟩ := hv
      split at hv
      · rename_i n b' s' hvw hel
        obtain ⟨⟨hen, rfl⟩, hK⟩ := hv
        unfold tsl at ht
        split at ht
        · rename_i e'' hu
          simp only [Option.map_eq_some_iff, Prod.mk.injEq] at ht
          obtain ⟨s'', hs', rfl, rfl⟩ := ht
          have hbr := bounds_run (P := P) (β := β) (w := w) hl hhi hm (hop lo).1 (hop lo).2 (hop hi).1 (hop hi).2 (hop mx).1 (hop mx).2 h0 hms
          have hid := bd_lt hb
          obtain ⟨q, hq⟩ : ∃ q : Option (Nat × Nat), q = if m.toNat = l.toNat then β id else (β id).map fun p => (p.1, p.2 + l.toNat * s'') := ⟨_, rfl⟩
          have hbb := r.blk id b hb
          have r1 := r.weaken (b' := b.deg) hb (Blk.deg_owned b) Blk.deg_held hbb.deg
          have hno : b'.owned = false := by cases b <;> simp [vView] at hvw <;> (obtain ⟨_, rfl⟩ := hvw; rfl)
          -- the row that is seen
          have hrow : ∃ el, b.deg = .row s'' n el ∧ b' = .row s'' (e.toNat - l.toNat) (fun j => el (l.toNat + j)) := by
            cases b with
            | gone => simp [vView] at hvw
            | cells _ _ _ => simp [vView] at hvw
            | map _ _ _ => simp [vView] at hvw
            | row s m el =>
              simp only [vView, Option.some.injEq, Prod.mk.injEq] at hvw
              simp only [vSlice.vEl, Option.some.injEq] at hel
              obtain ⟨rfl, rfl⟩ := hvw
              subst hel
              exact ⟨el, rfl, rfl⟩
            | own ty s m c el =>
              simp only [vView, Option.some.injEq, Prod.mk.injEq] at hvw
              simp only [vSlice.vEl, Option.some.injEq] at hel
              obtain ⟨rfl, rfl⟩ := hvw
              subst hel
              exact ⟨el, rfl, rfl⟩
          obtain ⟨el, hdeg, rfl⟩ := hrow
          rw [hdeg] at r1 hK
          have hrow1 := r1.blk id (.row s'' n el) (by rw [List.getElem?_set_self hid])
          rw [lset_eq] at hK
          rw [List.length_set] at hrow1
          refine ⟨upd β h.length q, _, w, .slice h.length (e.toNat - l.toNat) (m.toNat - l.toNat), ?_, ?_, LinkN.trans (LinkN.weaken (b' := .row s'' n el) (id := id) hb rfl (by rw [← hdeg]; exact Blk.deg_held)) ?_, by simp [gd, bd, okV], hK⟩
          · simp only [Instr.sliceAt, Sem.run_bind, run_underlying hu, Result.andThen_ok, Instr.slice, den, hbr, sizeOf_run _ _ hs', Sem.run_pure]
            congr 2
            simp only [adr, upd_same, hq]
            by_cases hml : m.toNat = l.toNat
            · simp only [hml, if_true]
            · simp only [hml, if_false, Option.map_map]
              cases β id <;> simp [add_at]
          · have := r1.view (b := .row s'' (e.toNat - l.toNat) (fun j => el (l.toNat + j))) (p := q) hno ?_ ?_
            · rwa [List.length_set] at this
            · rw [List.length_set]
              refine ⟨by have := hrow1.1; omega, fun j hj => ?_, fun hj hs0 => ?_⟩
              · have := hrow1.2.1 (l.toNat + j) (by omega)
                exact ⟨this.1, gdL_mono (by omega) (FLe.refl _) this.2.1, this.2.2⟩
              · obtain ⟨g, o, hg, hc⟩ := hrow1.2.2 (by omega) hs0
                refine ⟨g, o + l.toNat * s'', ?_, fun j hj i u hu => ?_⟩
                · rw [upd_same, hq, if_neg (by omega), hg]; rfl
                · rw [den_congr (fun i hi => upd_old _ _ _ _ hi) u (gd_mem (hrow1.2.1 _ (by omega)).2.1 hu).1]
                  have := hc (l.toNat + j) (by omega) i u hu
                  rw [← this]
                  congr 2
                  rw [Nat.add_mul]; omega
            · intro hh i c hc hco k hk hqk
              have hh' : (Blk.row s'' n el).held := by
                rcases hh with hh | hh
                · simp [Blk.owned] at hh
                · simp only [Blk.live] at hh
                  exact .inr ⟨by omega, hh.2⟩
              have hne : i ≠ id := fun e => by
                subst e
                rw [List.getElem?_set_self hid] at hc
                injection hc with hc; subst hc; simp [Blk.owned] at hco
              refine r1.sep i id c (.row s'' n el) hc (by rw [List.getElem?_set_self hid]) hne hco hh' k hk ?_
              rw [← hqk, hq]
              split
              · rfl
              · simp only [bno, Option.map_map]; rfl
          · have := LinkN.view (β := β) (h := h.set id (.row s'' n el)) (w := w) (p := q) hno (fun hh k hk => by
              refine ⟨id, .row s'' n el, by rw [List.getElem?_set_self hid], ?_, ?_⟩
              · rcases hh with hh | hh
                · simp [Blk.owned] at hh
                · simp only [Blk.live] at hh
                  exact .inr ⟨by omega, hh.2⟩
              · rw [← hk, hq]
                split
                · rfl
                · simp only [bno, Option.map_map]; rfl)
            rwa [List.length_set] at this
        · cases ht
      · exact hv.elim
    · exact hv.elim
  · rename_i e' s ht
    split at hv
    · rename_i l e m hl hhi hm
      obtain ⟨⟨rfl, rfl, rfl⟩, hms, hK⟩ := hv
      unfold tsl at ht
      split at ht
      · rename_i e'' hu
        simp only [Option.map_eq_some_iff] at ht
        obtain ⟨s'', hs', _⟩ := ht
        have hbr := bounds_run (P := P) (β := β) (w := w) (cap := 0) hl hhi hm (hop lo).1 (hop lo).2 (hop hi).1 (hop hi).2 (hop mx).1 (hop mx).2 (by omega) hms
        refine YldV.here (v := .nilSlice) r ?_ ⟨trivial, trivial⟩ hK
        simp only [Instr.sliceAt, Sem.run_bind, run_underlying hu, Result.andThen_ok, Instr.slice, den, hbr, sizeOf_run _ _ hs', Sem.run_pure]
        rfl
      · cases ht
    · exact hv.elim
  · rename_i e' s p sz n cap el ht
    split at hv
    · rename_i l e m hl hhi hm
      obtain ⟨h0, hms, ⟨hen, rfl⟩, hK⟩ := hv
      unfold tsl at ht
      split at ht
      · rename_i e'' hu
        simp only [Option.map_eq_some_iff, Prod.mk.injEq] at ht
        obtain ⟨s'', hs', rfl, rfl⟩ := ht
        have hbr := bounds_run (P := P) (β := β) (w := w) hl hhi hm (hop lo).1 (hop lo).2 (hop hi).1 (hop hi).2 (hop mx).1 (hop mx).2 h0 hms
        obtain ⟨⟨hn, hcm, hpn⟩, hj⟩ := hgx.2
        refine YldV.here (v := .ro (roOff p l.toNat m.toNat s'') s'' (e.toNat - l.toNat) (m.toNat - l.toNat) fun j => el (l.toNat + j)) r ?_ ⟨trivial, ⟨by omega, by omega, fun hp => ?_⟩, fun j hj' => ⟨⟨(hj _ (by omega)).1.1, (hj _ (by omega)).1.2.1, (hj _ (by omega)).1.2.2.1, fun g o hp w hw i u hu => ?_⟩, (hj _ (by omega)).2⟩⟩ hK
        · simp only [Instr.sliceAt, Sem.run_bind, run_underlying hu, Result.andThen_ok, Instr.slice, den, hbr, sizeOf_run _ _ hs', Sem.run_pure]
          congr 2
          unfold roOff
          by_cases hml : m.toNat = l.toNat
          · simp only [hml, if_true]
          · simp only [hml, if_false, Option.map_map]
            cases p <;> simp [add_at]
        · unfold roOff at hp
          split at hp
          · have := hpn hp; omega
          · cases p with
            | none => have := hpn rfl; omega
            | some q => simp at hp
        · unfold roOff at hp
          rw [if_neg (by omega)] at hp
          simp only [Option.map_eq_some_iff, Prod.mk.injEq] at hp
          obtain ⟨q, hq, rfl, rfl⟩ := hp
          have := (hj (l.toNat + j) (by omega)).1.2.2.2 q.1 q.2 hq w hw i u hu
          rw [← this]; congr 2; rw [Nat.add_mul]; omega
      · cases ht
    · exact hv.elim
  · rename_i id idx sz fo ht
    split at hv
    · rename_i n e s hta
      obtain ⟨⟨hl, hh, hm⟩, ha, hK⟩ := hv
      obtain ⟨⟨g, o⟩, hg⟩ := vAt_ok ha r
      have none_of : ∀ (q : Option Operand), (optV ev q).isNone = true → q.map ρ = none := fun q hq => by
        cases q with
        | none => rfl
        | some y => simp [optV] at hq
      unfold tarr at hta
      split at hta
      · rename_i n' e'' hu
        simp only [Option.map_eq_some_iff, Prod.mk.injEq] at hta
        obtain ⟨s', hs', rfl, rfl, rfl⟩ := hta
        refine YldV.here (v := .asl id idx sz fo s' n' n') r ?_ ⟨vAt_lt ha, trivial⟩ hK
        simp only [none_of lo hl, none_of hi hh, none_of mx hm, Instr.sliceAt, Sem.run_bind, run_underlying hu, Result.andThen_ok, den, adr, hg, Option.map_some, Instr.sureAddr, Sem.run_pure, Instr.sliceBounds, sizeOf_run _ _ hs', Nat.sub_zero]
        congr 3
        split
        · rfl
        · rw [add_at, Nat.zero_mul, Nat.add_zero]
      · cases hta
    · exact hv.elim
  · exact hv.elim
end
end Go.Sx
