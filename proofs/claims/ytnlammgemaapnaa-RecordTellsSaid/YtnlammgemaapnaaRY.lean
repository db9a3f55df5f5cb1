/- What comes in: a record and bytes, as a walk's beginning. -/
import Derived.Test.YtnlammgemaapnaaRX
set_option linter.unusedSimpArgs false
set_option linter.unusedVariables false
set_option maxRecDepth 100000
namespace Go.Proofs.Ytnlammgemaapnaa
open Go Go.Sx Go.ChangeShapes Go.WideShapes Go.ChangeAt Go.RowKit
/-- A row of writes, of bytes, that lies there. -/
def LiesW (W : World) (p : Option (Nat × Nat)) (r : Rec) : Prop := r.n ≤ maxI ∧ (p = none → r.n = 0) ∧ ∀ g o, p = some (g, o) → ∀ j, j < r.n → ∀ i u, (wrC (r.w j))[i]? = some u → W.cell? ⟨g, o + (j * 9 + i), none⟩ = some (den noV u)
def LiesB (W : World) (p : Option (Nat × Nat)) (B : List Int) : Prop := B.length ≤ maxI ∧ (p = none → B.length = 0) ∧ ∀ g o, p = some (g, o) → ∀ j, j < B.length → ∀ i u, (bE B j)[i]? = some u → W.cell? ⟨g, o + (j * 1 + i), none⟩ = some (den noV u)
section
variable {H : Type} {enc : TypeId × Value → H} {W : World} {base : Nat} {sp : Nat → Bool} {held : Bool}
theorem tyRec : Try.prog.cellTypes Try.prog.depth 31 = some [24, 3, 3, 3, 4, 27, 3, 3, 3, 3, 3, 3] := by kernel_rfl
theorem open_rec {r0 : Reach} {b0 : Nat} {v : Value} {d : DataW H} {ps : List MemPlace} (hval : Value.okWide Try.prog W r0 b0 31 v) (hd : DataW.Trod enc Try.prog W base sp held 31 v d ps) :
    ∃ (r : Rec) (cw : Nat) (p : Option (Nat × Nat)), (∀ (β : Val) (id : Nat), β id = p → v = den β (.agg (recC r (.slice id r.n cw)))) ∧ (-128 ≤ r.k ∧ r.k ≤ 127) ∧ RecW r ∧ LiesW W p r := by
  unfold Value.okWide at hval
  rw [uRec] at hval
  obtain ⟨cs, rfl, _, ts, hts, _, hrow⟩ := hval
  obtain ⟨fuel, hf⟩ := hd
  rw [tyRec] at hts
  injection hts with hts
  subst hts
  obtain ⟨r, cw, p, hcs, hk, hw, hm, hp, hel⟩ := rec_cells hf (fun v hv => by
    have hv : cs[5]? = some v := by
      have := hv
      simpa [Value.cells] using this
    obtain ⟨u, hu, hc⟩ := hrow 5 v hv
    have hu : u = 27 := by
      have : some 27 = some u := hu
      injection this with this
      exact this.symm
    subst hu
    exact hc)
  refine ⟨r, cw, p, fun β id hβ => ?_, hk, hw, hm, hp, hel⟩
  have : cs = (denL β (recC r (.slice id r.n cw))).toArray := Array.ext' (by
    have e : (Value.agg cs).cells.toList = cs.toList := rfl
    rw [← e, hcs]
    simp only [recC, denL, den, adr, hβ, Nat.add_zero])
  rw [this]; rfl
theorem open_bytes {r0 : Reach} {b0 : Nat} {v : Value} {d : DataW H} {ps : List MemPlace} (hval : Value.okWide Try.prog W r0 b0 22 v) (hd : DataW.Trod enc Try.prog W base sp held 22 v d ps) :
    ∃ (B : List Int) (cap : Nat) (p : Option (Nat × Nat)), (∀ (β : Val) (id : Nat), β id = p → v = den β (.slice id B.length cap)) ∧ Bys B ∧ LiesB W p B := by
  unfold Value.okWide at hval
  rw [uBs] at hval
  obtain ⟨fuel, hf⟩ := hd
  have hcs : v.cells.toList = [v] := by
    unfold Cell.okWide at hval
    rw [uBs] at hval
    cases v <;> first | rfl | (simp [Cell.ok, uBs] at hval; done)
  rw [hcs] at hf
  obtain ⟨p, n, cap, rfl, hm, hp, hel⟩ := open_slice uBs cU8 hval hf
  have each : ∀ i, i < n → ∃ y : Int, (0 ≤ y ∧ y ≤ 255) ∧ ∀ g o, p = some (g, o) → W.cell? ⟨g, o + (i * 1 + 0), none⟩ = some (.int .u8 y) := fun i hi => by
    match p, hp, hel with
    | none, hp, _ => have := hp rfl; omega
    | some (g, o), _, hel =>
      obtain ⟨cs, f', y, hcl, hcell, hy⟩ := hel g o rfl i hi
      match cs, hcl with
      | [c], _ =>
        obtain ⟨z, rfl, hz⟩ := one_int uU8 hy
        refine ⟨z, u8w hz, fun g' o' he => ?_⟩
        injection he with he
        injection he with hg ho
        subst hg; subst ho
        exact hcell 0 (by omega)
  let f : Nat → Int := fun i => if h : i < n then (each i h).choose else 0
  have hf0 : ∀ i, i < n → (0 ≤ f i ∧ f i ≤ 255) ∧ ∀ g o, p = some (g, o) → W.cell? ⟨g, o + (i * 1 + 0), none⟩ = some (.int .u8 (f i)) := fun i hi => by
    have : f i = (each i hi).choose := dif_pos hi
    rw [this]; exact (each i hi).choose_spec
  have hlen : ((List.range n).map f).length = n := by simp
  have hget : ∀ j, j < n → ((List.range n).map f).getD j 0 = f j := fun j hj => by
    rw [List.getD_eq_getElem?_getD, List.getElem?_map, List.getElem?_range hj]; rfl
  refine ⟨(List.range n).map f, cap, p, fun β id hβ => ?_, fun x hx => ?_, by rw [hlen]; exact hm, by rw [hlen]; exact hp, fun g o hgo j hj i u hu => ?_⟩
  · rw [hlen]
    simp only [den, adr, hβ, Nat.add_zero]
  · obtain ⟨i, hi, rfl⟩ := List.mem_map.1 hx
    exact (hf0 i (List.mem_range.1 hi)).1
  · rw [hlen] at hj
    unfold bE at hu
    rw [hget j hj] at hu
    match i, hu with
    | 0, hu =>
      injection hu with hu
      subst hu
      exact (hf0 j hj).2 g o hgo
    | i + 1, hu => simp at hu
end
theorem cap_ok {W : World} {r0 : Reach} {b0 n c : Nat} {a : Option Addr} (hval : Value.okWide Try.prog W r0 b0 22 (.slice a n c)) : n ≤ c := by
  unfold Value.okWide at hval
  rw [uBs] at hval
  simp only [] at hval
  unfold Cell.okWide at hval
  rw [uBs] at hval
  simp only [Cell.ok, uBs] at hval
  cases a with
  | none =>
    cases n with
    | zero => exact Nat.zero_le _
    | succ n => simp at hval
  | some a => exact hval.1
def val2 (p q : Option (Nat × Nat)) : Val := ⟨fun i => match i with | 0 => p | 1 => q | _ => none, fun _ => none⟩
theorem den0 (β : Val) (u : VV) (h : bd 0 u) : den β u = den noV u := den_congr (n := 0) (fun i hi => by omega) u h
theorem wrC_ok (β : Val) (n : Nat) (x : Wr) : gdL β n (wrC x) := ⟨by simp [wrC, bdL, bd], by simp [wrC, okL, okV]⟩
theorem bE_ok (β : Val) (n : Nat) (B : List Int) (j : Nat) : gdL β n (bE B j) := ⟨by simp [bE, bdL, bd], by simp [bE, okL, okV]⟩
theorem rep_w (β : Val) (n id : Nat) (W : World) (p : Option (Nat × Nat)) (hβ : β id = p) (r : Rec) (h : LiesW W p r) : BlkRep n β W id (.row 9 r.n fun j => wrC (r.w j)) := by
  obtain ⟨h1, h2, h3⟩ := h
  refine ⟨h1, fun j hj => ⟨rfl, wrC_ok _ _ _, by simp [wrC, oneV]⟩, fun h0 _ => ?_⟩
  match p, hβ, h2, h3 with
  | none, _, h2, _ => have := h2 rfl; omega
  | some (g, o), hβ, _, h3 =>
    refine ⟨g, o, hβ, fun j hj i u hu => ?_⟩
    rw [h3 g o rfl j hj i u hu, den0 β u (gd_mem (wrC_ok β 0 (r.w j)) hu).1]
theorem rep_b (β : Val) (n id : Nat) (W : World) (p : Option (Nat × Nat)) (hβ : β id = p) (B : List Int) (h : LiesB W p B) : BlkRep n β W id (rw B) := by
  obtain ⟨h1, h2, h3⟩ := h
  refine ⟨h1, fun j hj => ⟨rfl, bE_ok _ _ _ _, by simp [bE, oneV]⟩, fun h0 _ => ?_⟩
  match p, hβ, h2, h3 with
  | none, _, h2, _ => have := h2 rfl; omega
  | some (g, o), hβ, _, h3 =>
    refine ⟨g, o, hβ, fun j hj i u hu => ?_⟩
    rw [h3 g o rfl j hj i u hu, den0 β u (gd_mem (bE_ok β 0 B j) hu).1]
theorem rep2 (W : World) (p q : Option (Nat × Nat)) (r : Rec) (B : List Int) (h : LiesW W p r) (k : LiesB W q B) : RepH (val2 p q) [.row 9 r.n fun j => wrC (r.w j), rw B] W := by
  refine ⟨fun i b hi => ?_, fun i j b c hi hj hij hbo => ?_, (fun k b hb => by cases hb), fun i b hi hbo => ?_⟩
  · match i, hi with
    | 0, hi => injection hi with hi; subst hi; exact rep_w _ _ _ _ _ rfl r h
    | 1, hi => injection hi with hi; subst hi; exact rep_b _ _ _ _ _ rfl B k
    | i + 2, hi => simp at hi
  · match i, hi with
    | 0, hi => injection hi with hi; subst hi; cases hbo
    | 1, hi => injection hi with hi; subst hi; cases hbo
    | i + 2, hi => simp at hi
  · match i, hi with
    | 0, hi => injection hi with hi; subst hi; cases hbo
    | 1, hi => injection hi with hi; subst hi; cases hbo
    | i + 2, hi => simp at hi
end Go.Proofs.Ytnlammgemaapnaa
