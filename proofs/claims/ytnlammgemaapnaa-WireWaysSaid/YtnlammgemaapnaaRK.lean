/- Layer 7: what bytes say, in plain Lean. -/
import Derived.Test.YtnlammgemaapnaaRG
set_option linter.unusedSimpArgs false
set_option linter.unusedVariables false
namespace Go.Proofs.Ytnlammgemaapnaa
open Go Go.Sx
theorem u8_mod (n : Int) : u8 n = n % 256 := by unfold u8; rw [IntKind.wrap_u8]
theorem u8_in (n : Int) (h : 0 ≤ n ∧ n ≤ 255) : u8 n = n := IntWalk.u8_in n h
theorem u8_range (n : Int) : 0 ≤ u8 n ∧ u8 n ≤ 255 := by rw [u8_mod]; omega
theorem n3_b3 (x : Int) (h : 0 ≤ x ∧ x < 16777216) : u8 x + 256 * u8 (shrI .i64 x 8) + 65536 * u8 (shrI .i64 x 16) = x := by
  have e8 : shrI .i64 x 8 = x / 256 := by
    unfold shrI
    rw [show (2 : Int) ^ min (Int.toNat 8) IntKind.i64.bits = 256 from by decide]
    exact Int.fdiv_eq_ediv_of_nonneg _ (by omega)
  have e16 : shrI .i64 x 16 = x / 65536 := by
    unfold shrI
    rw [show (2 : Int) ^ min (Int.toNat 16) IntKind.i64.bits = 65536 from by decide]
    exact Int.fdiv_eq_ediv_of_nonneg _ (by omega)
  rw [e8, e16, u8_mod, u8_mod, u8_mod]; omega
theorem getD_app (P L : List Int) (i : Nat) : (P ++ L).getD (P.length + i) 0 = L.getD i 0 := by
  rw [List.getD_eq_getElem?_getD, List.getElem?_append_right (by omega), show P.length + i - P.length = i by omega, ← List.getD_eq_getElem?_getD]
theorem getD_left (P L : List Int) (i : Nat) (h : i < P.length) : (P ++ L).getD i 0 = P.getD i 0 := by
  rw [List.getD_eq_getElem?_getD, List.getElem?_append_left h, ← List.getD_eq_getElem?_getD]
theorem getD_app0 (P L : List Int) : (P ++ L).getD P.length 0 = L.getD 0 0 := getD_app P L 0
theorem n3_app (P L : List Int) (i : Nat) : n3 (P ++ L) (P.length + i) = n3 L i := by
  unfold n3
  rw [getD_app, Nat.add_assoc, getD_app, Nat.add_assoc, getD_app]
theorem n3_at (P T : List Int) (x : Int) (h : 0 ≤ x ∧ x < 16777216) : n3 (P ++ (b3 x ++ T)) P.length = x := by
  have := n3_app P (b3 x ++ T) 0
  rw [Nat.add_zero] at this
  rw [this]
  exact n3_b3 x h
theorem nm_at (P T : List Int) (x : Nm) (hx : Named x) : nmAt (P ++ (nB x ++ T)) P.length = x := by
  have e0 := n3_app P (nB x ++ T) 0
  have e3 := n3_app P (nB x ++ T) 3
  have e6 := n3_app P (nB x ++ T) 6
  rw [Nat.add_zero] at e0
  unfold nmAt
  rw [e0, e3, e6]
  have h0 : n3 (nB x ++ T) 0 = x.a := n3_b3 _ (by have := hx.1; omega)
  have h3 : n3 (nB x ++ T) 3 = x.b := n3_b3 _ (by have := hx.2.1; omega)
  have h6 : n3 (nB x ++ T) 6 = x.c := n3_b3 _ (by have := hx.2.2; omega)
  rw [h0, h3, h6]
theorem lack_at (P L : List Int) (i : Nat) : lack false (P ++ L) (P.length + i) = decide (L.length < i) := by
  unfold lack
  rw [Bool.false_or, List.length_append]
  exact decide_eq_decide.2 (by omega)
theorem vL_getD (v : Nat → Int) (i : Nat) (hi : i < 8) : (vL v).getD i 0 = v i := by
  match i, hi with
  | 0, _ | 1, _ | 2, _ | 3, _ | 4, _ | 5, _ | 6, _ | 7, _ => rfl
theorem wsB_getD (w : Nat → Wr) (i : Nat) (hi : i < 9) : ∀ n j, j < n → (wsB w n).getD (9 * j + i) 0 = (wB (w j)).getD i 0
  | 0, j, hj => by omega
  | n + 1, j, hj => by
    show (wsB w n ++ wB (w n)).getD (9 * j + i) 0 = _
    rcases Nat.lt_or_ge j n with c | c
    · rw [getD_left _ _ _ (by rw [wsB_length]; omega)]
      exact wsB_getD w i hi n j c
    · have e : j = n := by omega
      subst e
      have := getD_app (wsB w j) (wB (w j)) i
      rw [wsB_length] at this
      exact this
theorem wEq_iff (x y : Wr) : wEq x y = true ↔ x.b = y.b ∧ ∀ i, i < 8 → x.v i = y.v i := by
  unfold wEq
  simp only [Bool.and_eq_true, beq_iff_eq]
  constructor
  · rintro ⟨h, h0, h1, h2, h3, h4, h5, h6, h7⟩
    refine ⟨h, fun i hi => ?_⟩
    match i, hi with
    | 0, _ => exact h0
    | 1, _ => exact h1
    | 2, _ => exact h2
    | 3, _ => exact h3
    | 4, _ => exact h4
    | 5, _ => exact h5
    | 6, _ => exact h6
    | 7, _ => exact h7
  · rintro ⟨h, hv⟩
    exact ⟨h, hv 0 (by omega), hv 1 (by omega), hv 2 (by omega), hv 3 (by omega), hv 4 (by omega), hv 5 (by omega), hv 6 (by omega), hv 7 (by omega)⟩
theorem SameW.symm {n m : Nat} {w u : Nat → Wr} (h : SameW n w m u) : SameW m u n w := by
  obtain ⟨rfl, h⟩ := h
  exact ⟨rfl, fun j hj => (wEq_iff _ _).2 ⟨((wEq_iff _ _).1 (h j hj)).1.symm, fun i hi => (((wEq_iff _ _).1 (h j hj)).2 i hi).symm⟩⟩
theorem SameW.trans {n m k : Nat} {w u v : Nat → Wr} (h : SameW n w m u) (g : SameW m u k v) : SameW n w k v := by
  obtain ⟨rfl, h⟩ := h
  obtain ⟨rfl, g⟩ := g
  exact ⟨rfl, fun j hj => (wEq_iff _ _).2 ⟨((wEq_iff _ _).1 (h j hj)).1.trans ((wEq_iff _ _).1 (g j hj)).1, fun i hi => (((wEq_iff _ _).1 (h j hj)).2 i hi).trans (((wEq_iff _ _).1 (g j hj)).2 i hi)⟩⟩
theorem SameW.refl (n : Nat) (w : Nat → Wr) : SameW n w n w := ⟨rfl, fun j hj => (wEq_iff _ _).2 ⟨rfl, fun _ _ => rfl⟩⟩
theorem SameR.symm {a b : Rec} (h : SameR a b) : SameR b a := ⟨h.1.symm, h.2.1.symm, h.2.2.1.symm, h.2.2.2.1.symm, h.2.2.2.2.1.symm, h.2.2.2.2.2.1.symm, h.2.2.2.2.2.2.1.symm, ⟨h.2.2.2.2.2.2.2.1.1.symm, h.2.2.2.2.2.2.2.1.2.symm⟩, h.2.2.2.2.2.2.2.2.symm⟩
theorem SameR.trans {a b c : Rec} (h : SameR a b) (g : SameR b c) : SameR a c := ⟨h.1.trans g.1, h.2.1.trans g.2.1, h.2.2.1.trans g.2.2.1, h.2.2.2.1.trans g.2.2.2.1, h.2.2.2.2.1.trans g.2.2.2.2.1, h.2.2.2.2.2.1.trans g.2.2.2.2.2.1, h.2.2.2.2.2.2.1.trans g.2.2.2.2.2.2.1, ⟨h.2.2.2.2.2.2.2.1.1.trans g.2.2.2.2.2.2.2.1.1, h.2.2.2.2.2.2.2.1.2.trans g.2.2.2.2.2.2.2.1.2⟩, h.2.2.2.2.2.2.2.2.trans g.2.2.2.2.2.2.2.2⟩
theorem SameR.refl (a : Rec) : SameR a a := ⟨SameW.refl _ _, rfl, rfl, rfl, rfl, rfl, rfl, ⟨rfl, rfl⟩, rfl⟩
theorem SameR.iff {r a b : Rec} (h : SameR a b) : SameR r b ↔ SameR r a := ⟨fun g => g.trans h.symm, fun g => g.trans h⟩
theorem written_b {n : Nat} {w : Nat → Wr} (h : Written n w) : ∀ j, j < n → 0 ≤ (w j).b ∧ (w j).b < 32
  | 0, hj => ⟨by have := (h.1 0 hj).1; simp only [prev] at this; omega, (h.1 0 hj).2⟩
  | j + 1, hj => ⟨by
      have h1 := (h.1 (j + 1) hj).1
      have h2 := (written_b h j (by omega)).1
      have h3 : prev w (j + 1) = (w j).b := rfl
      omega, (h.1 (j + 1) hj).2⟩
/-- Reading what was written. -/
theorem reads_at (P T : List Int) (w : Nat → Wr) (n m : Nat) (h : Reads (P ++ (u8 n :: wsB w n ++ T)) false (P.length + 1) n m) : m = n := by
  rcases h.2.1 with e | e
  · exact e
  · rw [Nat.add_assoc, lack_at] at e
    have := of_decide_eq_true e
    simp only [List.cons_append, List.length_cons, List.length_append, wsB_length] at this
    have := h.1
    omega
theorem wr_at (P T : List Int) (w : Nat → Wr) (n : Nat) (hw : ∀ j, j < n → 0 ≤ (w j).b ∧ (w j).b < 32) : SameW n w n fun j => wrAt (P ++ (u8 n :: wsB w n ++ T)) (P.length + 1 + 9 * j) := by
  refine ⟨rfl, fun j hj => (wEq_iff _ _).2 ?_⟩
  have get : ∀ i, i < 9 → (P ++ (u8 n :: wsB w n ++ T)).getD (P.length + 1 + 9 * j + i) 0 = (wB (w j)).getD i 0 := fun i hi => by
    rw [show P.length + 1 + 9 * j + i = P.length + (9 * j + i + 1) by omega, getD_app, List.cons_append, List.getD_cons_succ, getD_left _ _ _ (by rw [wsB_length]; omega)]
    exact wsB_getD w i hi n j hj
  refine ⟨?_, fun i hi => ?_⟩
  · have := get 0 (by omega)
    simp only [Nat.add_zero] at this
    show _ = (P ++ (u8 n :: wsB w n ++ T)).getD (P.length + 1 + 9 * j) 0
    rw [this]
    exact (u8_in _ (by have := hw j hj; omega)).symm
  · have := get (i + 1) (by omega)
    show _ = (P ++ (u8 n :: wsB w n ++ T)).getD (P.length + 1 + 9 * j + 1 + i) 0
    rw [show P.length + 1 + 9 * j + 1 + i = P.length + 1 + 9 * j + (i + 1) by omega, this]
    show _ = (vL (w j).v).getD i 0
    rw [vL_getD _ _ hi]
/-- The fields that a kind names. -/
def flds (r : Rec) : Rec :=
  if r.k = 1 then { rk r.k r.nm with n := r.n, w := r.w }
  else if r.k = 2 then { rk r.k r.nm with n := r.n, w := r.w, give := r.give, take := r.take }
  else if r.k = 3 then { rk r.k r.nm with yes := r.yes }
  else if r.k = 4 then { rk r.k r.nm with shards := r.shards, st := r.st, to_ := r.to_ }
  else if r.k = 5 then rk r.k r.nm
  else { rk r.k ⟨0, 0, 0⟩ with num := r.num }
/-- Values are bytes. -/
def RecW (r : Rec) : Prop := ∀ j, j < r.n → ∀ i, i < 8 → 0 ≤ (r.w j).v i ∧ (r.w j).v i ≤ 255
/-- Reading back what was written. -/
def Back (X : Rec → List Int) (G : GetR) (S : Rec → Prop) (Fd : Rec → Rec) : Prop := ∀ (P T : List Int) (r : Rec) (kd : Int) (nm : Nm) k' bad' r', S r → G (P ++ (X r ++ T)) P.length false kd nm k' bad' r' →
  k' = P.length + (X r).length ∧ bad' = false ∧ SameR { Fd r with k := kd, nm := nm } r'
theorem back_local : Back (fun r => u8 r.n :: wsB r.w r.n) Glocal (fun r => Written r.n r.w) fun r => { rk 0 ⟨0, 0, 0⟩ with n := r.n, w := r.w } := by
  rintro P T r kd nm k' bad' r' hS ⟨m, hm, rfl, rfl, rfl⟩
  have hn := hS.2
  have e0 : (P ++ (u8 r.n :: wsB r.w r.n ++ T)).getD P.length 0 = r.n := by
    rw [getD_app0]; exact u8_in _ (by omega)
  rw [e0, Int.toNat_natCast] at hm
  have e := reads_at P T r.w r.n m hm
  subst e
  refine ⟨by simp [wsB_length]; omega, ?_, ?_⟩
  · rw [Nat.add_assoc, lack_at]
    simp only [List.cons_append, List.length_cons, List.length_append, wsB_length]
    exact decide_eq_false (by omega)
  · exact ⟨wr_at P T r.w r.n (written_b hS), rfl, rfl, rfl, rfl, rfl, rfl, ⟨rfl, rfl⟩, rfl⟩
theorem back_prep : Back (fun r => (u8 r.n :: wsB r.w r.n) ++ [u8 r.give, u8 r.take]) Gprep (fun r => Written r.n r.w ∧ Gives r) fun r => { rk 0 ⟨0, 0, 0⟩ with n := r.n, w := r.w, give := r.give, take := r.take } := by
  rintro P T r kd nm k' bad' r' hS ⟨m, hm, rfl, rfl, rfl⟩
  have hn := hS.1.2
  have ea : (u8 r.n :: wsB r.w r.n) ++ [u8 r.give, u8 r.take] ++ T = u8 r.n :: wsB r.w r.n ++ ([u8 r.give, u8 r.take] ++ T) := by simp
  simp only [ea] at hm ⊢
  have e0 : (P ++ (u8 r.n :: wsB r.w r.n ++ ([u8 r.give, u8 r.take] ++ T))).getD P.length 0 = r.n := by
    rw [getD_app0]; exact u8_in _ (by omega)
  rw [e0, Int.toNat_natCast] at hm
  have e := reads_at P ([u8 r.give, u8 r.take] ++ T) r.w r.n m hm
  subst e
  have hl : (P ++ (u8 r.n :: wsB r.w r.n)).length = P.length + 1 + 9 * r.n := by simp [wsB_length]; omega
  have g0 := getD_app0 (P ++ (u8 r.n :: wsB r.w r.n)) ([u8 r.give, u8 r.take] ++ T)
  have g1 := getD_app (P ++ (u8 r.n :: wsB r.w r.n)) ([u8 r.give, u8 r.take] ++ T) 1
  rw [hl, List.append_assoc] at g0 g1
  refine ⟨by simp [wsB_length]; omega, ?_, ?_⟩
  · rw [show P.length + 1 + 9 * r.n + 2 = P.length + (1 + 9 * r.n + 2) by omega, lack_at]
    simp only [List.cons_append, List.length_cons, List.length_append, wsB_length]
    exact decide_eq_false (by omega)
  · refine ⟨wr_at P _ r.w r.n (written_b hS.1), rfl, rfl, rfl, ?_, ?_, rfl, ⟨rfl, rfl⟩, rfl⟩
    · show r.give = _
      rw [g0]; exact (u8_in _ hS.2.1).symm
    · show r.take = _
      rw [g1]; exact (u8_in _ hS.2.2.1).symm
theorem back_out : Back (fun r => [fB r.yes]) Gout (fun _ => True) fun r => { rk 0 ⟨0, 0, 0⟩ with yes := r.yes } := by
  rintro P T r kd nm k' bad' r' hS ⟨rfl, rfl, rfl⟩
  have e0 : (P ++ ([fB r.yes] ++ T)).getD P.length 0 = fB r.yes := by rw [getD_app0]; rfl
  rw [e0, lack_at]
  refine ⟨rfl, ?_, SameW.refl _ _, rfl, rfl, ?_, rfl, rfl, rfl, ⟨rfl, rfl⟩, rfl⟩
  · have h1 : decide (([fB r.yes] ++ T).length < 1) = false := decide_eq_false (by simp)
    have h2 : decide (fB r.yes > 1) = false := decide_eq_false (by unfold fB; split <;> omega)
    rw [h1, h2]; rfl
  · show r.yes = (fB r.yes == 1)
    unfold fB
    cases r.yes <;> rfl
theorem back_commit : Back (fun r => [u8 r.shards, u8 (IntKind.i64.wrap (r.st + 1)), u8 r.to_]) Gcommit Commits fun r => { rk 0 ⟨0, 0, 0⟩ with shards := r.shards, st := r.st, to_ := r.to_ } := by
  rintro P T r kd nm k' bad' r' hS ⟨rfl, rfl, rfl⟩
  have g0 := getD_app0 P ([u8 r.shards, u8 (IntKind.i64.wrap (r.st + 1)), u8 r.to_] ++ T)
  have g1 := getD_app P ([u8 r.shards, u8 (IntKind.i64.wrap (r.st + 1)), u8 r.to_] ++ T) 1
  have g2 := getD_app P ([u8 r.shards, u8 (IntKind.i64.wrap (r.st + 1)), u8 r.to_] ++ T) 2
  obtain ⟨⟨c1, c2, c3⟩, d⟩ := hS
  refine ⟨rfl, ?_, SameW.refl _ _, rfl, rfl, rfl, rfl, rfl, ?_, ⟨?_, ?_⟩, rfl⟩
  · rw [lack_at]; exact decide_eq_false (by simp)
  · show r.shards = _
    rw [g0]; exact (u8_in _ (by omega)).symm
  · show r.st = _ - 1
    rw [g1]
    show r.st = u8 (IntKind.i64.wrap (r.st + 1)) - 1
    rw [IntWalk.i64_in _ (by omega), u8_in _ (by omega)]; omega
  · show r.to_ = _
    rw [g2]; exact (u8_in _ (by omega)).symm
theorem back_end : Back (fun r => []) Gend (fun _ => True) fun r => rk 0 ⟨0, 0, 0⟩ := by
  rintro P T r kd nm k' bad' r' hS ⟨rfl, rfl, rfl⟩
  refine ⟨rfl, ?_, SameR.refl _⟩
  have := lack_at P ([] ++ T) 0
  rw [Nat.add_zero] at this
  rw [this]; exact decide_eq_false (by omega)
theorem back_num : Back (fun r => b3 r.num) Gnum (fun r => 1 ≤ r.num ∧ r.num ≤ 1048577) fun r => { rk 0 ⟨0, 0, 0⟩ with num := r.num } := by
  rintro P T r kd nm k' bad' r' hS ⟨rfl, rfl, rfl⟩
  refine ⟨rfl, ?_, SameW.refl _ _, rfl, rfl, rfl, rfl, rfl, rfl, ⟨rfl, rfl⟩, ?_⟩
  · rw [lack_at]; exact decide_eq_false (by simp [b3_length])
  · have h1 : 1 ≤ r.num ∧ r.num ≤ 1048577 := hS
    exact (n3_at P T r.num (by omega)).symm
/-- Named kinds. -/
theorem back_named {X : Rec → List Int} {G : GetR} {S : Rec → Prop} {Fd : Rec → Rec} (h : Back X G S Fd) (P T : List Int) (r : Rec) (kd : Int) (k' : Nat) (bad' : Bool) (r' : Rec) (hN : Named r.nm) (hS : S r)
    (hg : G (P ++ (nB r.nm ++ X r ++ T)) (P.length + 9) false kd (nmAt (P ++ (nB r.nm ++ X r ++ T)) P.length) k' bad' r') :
    k' = P.length + (nB r.nm ++ X r).length ∧ bad' = false ∧ SameR { Fd r with k := kd, nm := r.nm } r' := by
  rw [List.append_assoc, nm_at P _ _ hN] at hg
  have hl : (P ++ nB r.nm).length = P.length + 9 := by simp [nB_length]
  rw [← hl, ← List.append_assoc] at hg
  obtain ⟨h1, h2, h3⟩ := h _ T r kd r.nm k' bad' r' hS hg
  refine ⟨?_, h2, h3⟩
  rw [h1]; simp; omega
/-- The bytes behind a kind. -/
def bX (r : Rec) : List Int :=
  if r.k = 1 then nB r.nm ++ (u8 r.n :: wsB r.w r.n)
  else if r.k = 2 then nB r.nm ++ ((u8 r.n :: wsB r.w r.n) ++ [u8 r.give, u8 r.take])
  else if r.k = 3 then nB r.nm ++ [fB r.yes]
  else if r.k = 4 then nB r.nm ++ [u8 r.shards, u8 (IntKind.i64.wrap (r.st + 1)), u8 r.to_]
  else if r.k = 5 then nB r.nm ++ []
  else b3 r.num
/-- What a kind asks. -/
def Such (r : Rec) : Prop :=
  if r.k = 1 then Named r.nm ∧ Written r.n r.w
  else if r.k = 2 then Named r.nm ∧ (Written r.n r.w ∧ Gives r)
  else if r.k = 3 then Named r.nm ∧ True
  else if r.k = 4 then Named r.nm ∧ Commits r
  else if r.k = 5 then Named r.nm ∧ True
  else if r.k = 6 then 1 ≤ r.num ∧ r.num ≤ 1048577
  else if r.k = 7 then 1 ≤ r.num ∧ r.num ≤ 1048576
  else False
instance (r : Rec) : Decidable (Such r) := by unfold Such; infer_instance
def MayR (r : Rec) : Prop := Such r ∧ SameR r (flds r)
instance (r : Rec) : Decidable (MayR r) := by unfold MayR; infer_instance
theorem Bys.app {L M : List Int} (h : Bys L) (g : Bys M) : Bys (L ++ M) := fun x hx => (List.mem_append.1 hx).elim (h x) (g x)
theorem Bys.b3 (x : Int) : Bys (b3 x) := fun y hy => by
  simp only [Go.Proofs.Ytnlammgemaapnaa.b3, List.mem_cons, List.not_mem_nil, or_false] at hy
  rcases hy with rfl | rfl | rfl <;> exact u8_range _
theorem Bys.nB (x : Nm) : Bys (nB x) := (Bys.b3 _).app ((Bys.b3 _).app (Bys.b3 _))
theorem Bys.vL (v : Nat → Int) (h : ∀ i, i < 8 → 0 ≤ v i ∧ v i ≤ 255) : Bys (vL v) := fun y hy => by
  simp only [Go.Proofs.Ytnlammgemaapnaa.vL, List.mem_cons, List.not_mem_nil, or_false] at hy
  rcases hy with rfl | rfl | rfl | rfl | rfl | rfl | rfl | rfl
  · exact h 0 (by omega)
  · exact h 1 (by omega)
  · exact h 2 (by omega)
  · exact h 3 (by omega)
  · exact h 4 (by omega)
  · exact h 5 (by omega)
  · exact h 6 (by omega)
  · exact h 7 (by omega)
theorem Bys.ws (w : Nat → Wr) : ∀ n, (∀ j, j < n → ∀ i, i < 8 → 0 ≤ (w j).v i ∧ (w j).v i ≤ 255) → Bys (wsB w n)
  | 0, _ => fun x hx => by simp [wsB] at hx
  | n + 1, h => (Bys.ws w n fun j hj => h j (by omega)).app fun x hx => by
      simp only [wB, List.mem_cons] at hx
      rcases hx with rfl | hx
      · exact u8_range _
      · exact Bys.vL _ (h n (by omega)) x hx
theorem Bys.cons {x : Int} {L : List Int} (h : 0 ≤ x ∧ x ≤ 255) (g : Bys L) : Bys (x :: L) := fun y hy => by
  rcases List.mem_cons.1 hy with rfl | hy
  · exact h
  · exact g y hy
theorem Bys.nil : Bys [] := fun x hx => by simp at hx
theorem Bys.bX (r : Rec) (h : RecW r) : Bys (bX r) := by
  unfold Go.Proofs.Ytnlammgemaapnaa.bX
  have hw := Bys.cons (u8_range r.n) (Bys.ws r.w r.n h)
  split
  · exact (Bys.nB _).app hw
  · split
    · exact (Bys.nB _).app (hw.app (.cons (u8_range _) (.cons (u8_range _) .nil)))
    · split
      · exact (Bys.nB _).app (.cons (by unfold fB; split <;> omega) .nil)
      · split
        · exact (Bys.nB _).app (.cons (u8_range _) (.cons (u8_range _) (.cons (u8_range _) .nil)))
        · split
          · exact (Bys.nB _).app .nil
          · exact .b3 _
end Go.Proofs.Ytnlammgemaapnaa
