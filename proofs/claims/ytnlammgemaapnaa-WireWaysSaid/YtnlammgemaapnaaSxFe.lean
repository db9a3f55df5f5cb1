/- Equality of structs and arrays of whole numbers and bools. -/
import Derived.Test.YtnlammgemaapnaaSxFo
import Derived.ChangeKeysEq
set_option linter.unusedSimpArgs false
set_option linter.unusedVariables false
namespace Go.Sx
open Go
/-- The kinds of a type's cells (none: a bool); of a struct's. -/
def ckFs (g : TypeId → Option (List (Option IntKind))) (sz : TypeId → Option Nat) : List Field → Nat → Option (List (Option IntKind))
  | [], _ => some []
  | f :: fs, off => match g f.type with
    | some ks => if f.name ≠ "_" ∧ f.offset = off ∧ sz f.type = some ks.length ∧ 0 < ks.length then (ckFs g sz fs (off + ks.length)).map (ks ++ ·) else none
    | none => none
def ckT (P : Program) : Nat → TypeId → Option (List (Option IntKind))
  | 0, _ => none
  | d + 1, t => match P.underlying t with
    | some .bool => some [none]
    | some (.int k) => some [some k]
    | some (.struct fs) => if P.stoodInHeld t then none else ckFs (ckT P d) (tsz P) fs.toList 0
    | some (.array n e) => match ckT P d e with
      | some ks => if tsz P e = some ks.length ∧ 0 < ks.length then some (rep ks n) else none
      | none => none
    | _ => none
/-- Cells of these kinds. -/
def fitsK : List (Option IntKind) → List VV → Bool
  | [], [] => true
  | none :: ks, .bool _ :: l => fitsK ks l
  | some k :: ks, .int k' _ :: l => decide (k = k') && fitsK ks l
  | _, _ => false
theorem fitsK_length : ∀ {ks : List (Option IntKind)} {l : List VV}, fitsK ks l = true → l.length = ks.length
  | [], [], _ => rfl
  | none :: ks, .bool _ :: l, h => by simp only [fitsK] at h; simp [fitsK_length h]
  | some k :: ks, .int k' _ :: l, h => by simp only [fitsK, Bool.and_eq_true] at h; simp [fitsK_length h.2]
  | [], _ :: _, h => by simp [fitsK] at h
  | none :: _, [], h => by simp [fitsK] at h
  | some _ :: _, [], h => by simp [fitsK] at h
  | none :: _, .int .. :: _, h | none :: _, .str .. :: _, h | none :: _, .nilPtr :: _, h | none :: _, .ptr .. :: _, h | none :: _, .nilSlice :: _, h | none :: _, .slice .. :: _, h | none :: _, .nilMap :: _, h | none :: _, .map .. :: _, h | none :: _, .nilFunc :: _, h | none :: _, .func .. :: _, h | none :: _, .nilIface :: _, h | none :: _, .agg .. :: _, h | none :: _, .tup .. :: _, h | none :: _, .ro .. :: _, h | none :: _, .rp .. :: _, h | none :: _, .asl .. :: _, h => by simp [fitsK] at h
  | some _ :: _, .bool .. :: _, h | some _ :: _, .str .. :: _, h | some _ :: _, .nilPtr :: _, h | some _ :: _, .ptr .. :: _, h | some _ :: _, .nilSlice :: _, h | some _ :: _, .slice .. :: _, h | some _ :: _, .nilMap :: _, h | some _ :: _, .map .. :: _, h | some _ :: _, .nilFunc :: _, h | some _ :: _, .func .. :: _, h | some _ :: _, .nilIface :: _, h | some _ :: _, .agg .. :: _, h | some _ :: _, .tup .. :: _, h | some _ :: _, .ro .. :: _, h | some _ :: _, .rp .. :: _, h | some _ :: _, .asl .. :: _, h => by simp [fitsK] at h
/-- Cells of two rows of kinds, one behind the other. -/
theorem fitsK_split : ∀ {ks rs : List (Option IntKind)} {l : List VV}, fitsK (ks ++ rs) l = true → ∃ a b, l = a ++ b ∧ a.length = ks.length ∧ fitsK ks a = true ∧ fitsK rs b = true
  | [], rs, l, h => ⟨[], l, rfl, rfl, rfl, h⟩
  | k :: ks, rs, l, h => by
    cases l with
    | nil => cases k <;> simp [fitsK] at h
    | cons v l =>
      cases k with
      | none =>
        cases v <;> simp only [List.cons_append, fitsK, Bool.false_eq_true] at h
        obtain ⟨a, b, rfl, h1, h2, h3⟩ := fitsK_split h
        exact ⟨_ :: a, b, rfl, by simp [h1], by simpa [fitsK] using h2, h3⟩
      | some k =>
        cases v <;> simp only [List.cons_append, fitsK, Bool.false_eq_true, Bool.and_eq_true] at h
        obtain ⟨a, b, rfl, h1, h2, h3⟩ := fitsK_split h.2
        exact ⟨_ :: a, b, rfl, by simp [h1], by simp [fitsK, h2, h.1], h3⟩
theorem eqL_append : ∀ {a c b d : List VV}, a.length = c.length → eqL (a ++ b) (c ++ d) = (eqL a c && eqL b d)
  | [], [], b, d, _ => by simp [eqL]
  | x :: a, y :: c, b, d, h => by simp only [List.cons_append, eqL, eqL_append (a := a) (c := c) (by simpa using h), Bool.and_assoc]
  | [], _ :: _, _, _, h => by simp at h
  | _ :: _, [], _, _, h => by simp at h
section
variable {P : Program} {w : World}
/-- The value of a type that these cells are. -/
def ofCells (P : Program) (β : Val) (t : TypeId) (l : List VV) : Value :=
  match tagg P t with
  | some true => .agg (denL β l).toArray
  | _ => match l with
    | [v] => den β v
    | _ => .nilIface
theorem part_cells {β : Val} {t : TypeId} {a b c : List VV} {s : Nat} {ag : Bool} (ha : tagg P t = some ag) (hs : tsz P t = some s) (hl : b.length = s) (h0 : 0 < s) (h1 : ag = false → s = 1) :
    (part t (denL β (a ++ (b ++ c))).toArray a.length).run P w = .ok (ofCells P β t b) w := by
  cases ag with
  | true =>
    rw [part_run (v := .agg b) (.inl ⟨ha, s, hs, ⟨by simp; omega, h0⟩, ?_⟩)]
    · simp only [ofCells, ha, den]
    · rw [seg_eq]; simp [← hl]
  | false =>
    have := h1 rfl
    match b, hl with
    | [v], _ =>
      rw [part_run (v := v) (.inr ⟨ha, by simp⟩)]
      simp only [ofCells, ha]
    | [], hl => simp at hl; omega
    | _ :: _ :: _, hl => simp at hl; omega
def EqFits (P : Program) (dd : Nat) (t : TypeId) (ks : List (Option IntKind)) : Prop :=
  ∀ (β : Val) (w : World) (x y : List VV), fitsK ks x = true → fitsK ks y = true → (Op.equalIn dd t (ofCells P β t x) (ofCells P β t y)).run P w = .ok (eqL x y) w
theorem ckT_agg {d : Nat} {t : TypeId} {ks : List (Option IntKind)} (h : ckT P d t = some ks) : ∃ ag, tagg P t = some ag ∧ (ag = false → ks.length = 1) := by
  cases d with
  | zero => simp [ckT] at h
  | succ d =>
    unfold ckT at h
    split at h <;> rename_i hu
    · simp only [Option.some.injEq] at h; subst h; exact ⟨false, by simp [tagg, hu], fun _ => rfl⟩
    · simp only [Option.some.injEq] at h; subst h; exact ⟨false, by simp [tagg, hu], fun _ => rfl⟩
    · exact ⟨true, by simp [tagg, hu], fun e => by cases e⟩
    · exact ⟨true, by simp [tagg, hu], fun e => by cases e⟩
    · cases h
theorem eqFs {dd d : Nat} {β : Val} : ∀ (fs : List Field) (off : Nat) (ks : List (Option IntKind)), ckFs (ckT P d) (tsz P) fs off = some ks → (∀ f ∈ fs, ∀ ks, ckT P d f.type = some ks → EqFits P dd f.type ks) →
    ∀ (a c x y : List VV), a.length = off → c.length = off → fitsK ks x = true → fitsK ks y = true → (Op.eqFields dd (denL β (a ++ x)).toArray (denL β (c ++ y)).toArray fs).run P w = .ok (eqL x y) w
  | [], off, ks, h, _, a, c, x, y, ha, hc, hx, hy => by
    simp only [ckFs, Option.some.injEq] at h
    subst h
    have h1 := fitsK_length hx
    have h2 := fitsK_length hy
    rw [List.eq_nil_of_length_eq_zero h1, List.eq_nil_of_length_eq_zero h2]
    simp [Op.eqFields, eqL]
  | f :: fs, off, ks, h, hall, a, c, x, y, ha, hc, hx, hy => by
    simp only [ckFs] at h
    split at h
    · rename_i k1 hk1
      split at h
      · rename_i hcnd
        obtain ⟨hn, ho, hs, h0⟩ := hcnd
        simp only [Option.map_eq_some_iff] at h
        obtain ⟨k2, hk2, rfl⟩ := h
        obtain ⟨x1, x2, rfl, g1, g2, g3⟩ := fitsK_split hx
        obtain ⟨y1, y2, rfl, e1, e2, e3⟩ := fitsK_split hy
        obtain ⟨ag, hag, hag1⟩ := ckT_agg hk1
        have p1 : (part f.type (denL β (a ++ (x1 ++ x2))).toArray f.offset).run P w = .ok (ofCells P β f.type x1) w := by rw [ho, ← ha]; exact part_cells hag hs g1 h0 hag1
        have p2 : (part f.type (denL β (c ++ (y1 ++ y2))).toArray f.offset).run P w = .ok (ofCells P β f.type y1) w := by rw [ho, ← hc]; exact part_cells hag hs e1 h0 hag1
        have p3 := hall f (by simp) k1 hk1 β w x1 y1 g2 e2
        have ih := eqFs (β := β) fs (off + k1.length) k2 hk2 (fun g hg => hall g (by simp [hg])) (a ++ x1) (c ++ y1) x2 y2 (by simp [ha, g1]) (by simp [hc, e1]) g3 e3
        simp only [List.append_assoc] at ih
        simp only [Op.eqFields, hn, ne_eq, not_false_eq_true, if_true, Sem.run_bind, p1, p2, p3, Result.andThen_ok, eqL_append (g1.trans e1.symm)]
        cases eqL x1 y1
        · simp
        · simpa using ih
      · cases h
    · cases h
theorem eqIs {dd d : Nat} {β : Val} {e : TypeId} {ks : List (Option IntKind)} (hk : ckT P d e = some ks) (hs : tsz P e = some ks.length) (h0 : 0 < ks.length) (hall : EqFits P dd e ks) : ∀ (n i : Nat) (a c x y : List VV),
    a.length = i * ks.length → c.length = i * ks.length → fitsK (rep ks n) x = true → fitsK (rep ks n) y = true → (Op.eqItems dd e (P.cellsOf e) (denL β (a ++ x)).toArray (denL β (c ++ y)).toArray (List.range' i n)).run P w = .ok (eqL x y) w
  | 0, i, a, c, x, y, ha, hc, hx, hy => by
    have h1 := fitsK_length hx
    have h2 := fitsK_length hy
    rw [List.eq_nil_of_length_eq_zero h1, List.eq_nil_of_length_eq_zero h2]
    simp [Op.eqItems, eqL]
  | n + 1, i, a, c, x, y, ha, hc, hx, hy => by
    obtain ⟨x1, x2, rfl, g1, g2, g3⟩ := fitsK_split hx
    obtain ⟨y1, y2, rfl, e1, e2, e3⟩ := fitsK_split hy
    obtain ⟨ag, hag, hag1⟩ := ckT_agg hk
    have hco : P.cellsOf e = ks.length := by
      unfold tsz at hs
      simp only [Program.cellsOf, hs, Option.getD_some]
    have p1 : (part e (denL β (a ++ (x1 ++ x2))).toArray (i * ks.length)).run P w = .ok (ofCells P β e x1) w := by rw [← ha]; exact part_cells hag hs g1 h0 hag1
    have p2 : (part e (denL β (c ++ (y1 ++ y2))).toArray (i * ks.length)).run P w = .ok (ofCells P β e y1) w := by rw [← hc]; exact part_cells hag hs e1 h0 hag1
    have p3 := hall β w x1 y1 g2 e2
    have ih := eqIs (β := β) hk hs h0 hall n (i + 1) (a ++ x1) (c ++ y1) x2 y2 (by simp [ha, g1, Nat.succ_mul]) (by simp [hc, e1, Nat.succ_mul]) g3 e3
    simp only [List.append_assoc, hco] at ih
    rw [List.range'_succ]
    simp only [Op.eqItems, hco, Sem.run_bind, p1, p2, p3, Result.andThen_ok, eqL_append (g1.trans e1.symm)]
    cases eqL x1 y1
    · simp
    · simpa using ih
theorem eqFits : ∀ (d : Nat) (t : TypeId) (ks : List (Option IntKind)), ckT P d t = some ks → ∀ j, EqFits P (d + j) t ks
  | 0, t, ks, h => by simp [ckT] at h
  | d + 1, t, ks, h => fun j β w x y hx hy => by
    have hh := h
    unfold ckT at h
    rw [show d + 1 + j = (d + j) + 1 by omega]
    split at h <;> rename_i hu
    · simp only [Option.some.injEq] at h
      subst h
      have ht : tagg P t = some false := by unfold tagg; rw [hu]; rfl
      match x, y, hx, hy with
      | [.bool a], [.bool b], _, _ => simp only [ofCells, ht, den]; rw [run_equalIn_bool' w (d + j) t a b hu]; simp [eqL, eqV]
      | [], _, hx, _ => simp [fitsK] at hx
      | _, [], _, hy => simp [fitsK] at hy
      | a :: b :: _, _, hx, _ => have := fitsK_length hx; simp at this
      | _, a :: b :: _, _, hy => have := fitsK_length hy; simp at this
      | [a], [b], hx, hy => cases a <;> simp [fitsK] at hx <;> cases b <;> simp [fitsK] at hy; simp only [ofCells, ht, den]; rw [run_equalIn_bool' w (d + j) t _ _ hu]; simp [eqL, eqV]
    · simp only [Option.some.injEq] at h
      subst h
      have ht : tagg P t = some false := by unfold tagg; rw [hu]; rfl
      match x, y, hx, hy with
      | [], _, hx, _ => simp [fitsK] at hx
      | _, [], _, hy => simp [fitsK] at hy
      | a :: b :: _, _, hx, _ => have := fitsK_length hx; simp at this
      | _, a :: b :: _, _, hy => have := fitsK_length hy; simp at this
      | [a], [b], hx, hy =>
        cases a <;> simp [fitsK] at hx
        cases b <;> simp [fitsK] at hy
        subst hx; subst hy
        simp only [ofCells, ht, den]
        rw [run_equalIn_int w (d + j) t _ _ _ _ hu]; simp [eqL, eqV]
    · rename_i fs
      split at h
      · cases h
      · rename_i hsd
        have hsd : P.stoodInHeld t = false := by simpa using hsd
        have ht : tagg P t = some true := by unfold tagg; rw [hu]; rfl
        have hf : P.fieldsOf t = fs := by unfold Program.fieldsOf; simp only [hu]
        simp only [ofCells, ht]
        rw [run_equalIn_agg w (d + j) t _ _ (by rw [hf]; exact hu) hsd, hf]
        exact eqFs (w := w) (β := β) fs.toList 0 ks h (fun f _ k hk => eqFits d f.type k hk j) [] [] x y rfl rfl hx hy
    · rename_i n e
      split at h
      · rename_i k1 hk1
        split at h
        · rename_i hc
          injection h with h
          subst h
          have ht : tagg P t = some true := by unfold tagg; rw [hu]; rfl
          have hi : ∃ i, P.info? e = some i := by
            have := hc.1
            unfold tsz at this
            simp only [Option.map_eq_some_iff] at this
            obtain ⟨i, hi, _⟩ := this
            exact ⟨i, hi⟩
          obtain ⟨i, hi⟩ := hi
          simp only [ofCells, ht]
          rw [run_equalIn_array w (d + j) _ _ hu hi, List.range_eq_range']
          exact eqIs (w := w) (β := β) hk1 hc.1 hc.2 (eqFits d e k1 hk1 j) n 0 [] [] x y (by simp) (by simp) hx hy
        · cases h
      · cases h
    · cases h
/-- Structs and arrays of one type, told by their cells. -/
theorem EqOK.of {t : TypeId} {ks : List (Option IntKind)} {x y : List VV} (hk : ckT P 8 t = some ks) (ht : tagg P t = some true) (hg : P.eqGuardType P.depth t = false) (hx : fitsK ks x = true) (hy : fitsK ks y = true) : EqOK P t x y := by
  refine ⟨hg, fun β w => ?_⟩
  have := eqFits 8 t ks hk 9992 β w x y hx hy
  simp only [ofCells, ht] at this
  exact this
theorem fitsK_nil : fitsK [] [] = true := rfl
theorem fitsK_bool {ks : List (Option IntKind)} {b : Bool} {l : List VV} : fitsK (none :: ks) (.bool b :: l) = fitsK ks l := rfl
theorem fitsK_int {ks : List (Option IntKind)} {k : IntKind} {n : Int} {l : List VV} : fitsK (some k :: ks) (.int k n :: l) = fitsK ks l := by simp [fitsK]
end
end Go.Sx
