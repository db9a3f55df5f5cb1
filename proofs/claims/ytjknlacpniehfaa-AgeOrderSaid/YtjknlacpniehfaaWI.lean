/- What comes in: names by value, a row of names; and that what was there stays. -/
import Derived.Test.YtjknlacpniehfaaWG
import Derived.ProofKit
set_option linter.unusedSimpArgs false
set_option linter.unusedVariables false
set_option maxRecDepth 100000
namespace Go.Proofs.Ytjknlacpniehfaa
open Go Go.Sx
theorem below_of_link {β β' : Val} {h h' : List Blk} {w w' : World} (hno : ∀ b ∈ h, b.owned = false) (l : Link β h w β' h' w') : Go.RowKit.Below w.heap.size w w' :=
  ⟨l.fr.os, l.fr.tape, l.fr.output, l.fr.size, fun k hk => l.fr.keep k hk fun ⟨i, b, hb, ho, _⟩ => by
    rw [hno b (List.mem_of_getElem? hb)] at ho; cases ho⟩
section
variable {H : Type} {enc : TypeId × Value → H} {W : World} {base : Nat} {sp : Nat → Bool} {held : Bool}
theorem c23 : Try.prog.cellsOf 23 = 3 := by kernel_rfl
theorem c3 : Try.prog.cellsOf 3 = 1 := by kernel_rfl
theorem nm_cells {fuel : Nat} {cs : List Value} {x : DataW H × List MemPlace} (h : DataW.trod enc Try.prog W base sp held fuel 23 cs = some x) : ∃ y : Nm, cs = [.int .i64 y.a, .int .i64 y.b, .int .i64 y.c] := by
  obtain ⟨xs, n, _, _, hl, hxl, hf⟩ := DataW.trod_struct u23 h
  rw [c23] at hl
  have hxl : xs.length = 3 := hxl
  match cs, hl with
  | [v0, v1, v2], _ =>
    have e0 := hf 0 _ rfl
    have e1 := hf 1 _ rfl
    have e2 := hf 2 _ rfl
    match xs, hxl with
    | [x0, x1, x2], _ =>
      have e0 : DataW.trod enc Try.prog W base sp held n 3 (List.take (Try.prog.cellsOf 3) (List.drop 0 [v0, v1, v2])) = some x0 := e0
      have e1 : DataW.trod enc Try.prog W base sp held n 3 (List.take (Try.prog.cellsOf 3) (List.drop 1 [v0, v1, v2])) = some x1 := e1
      have e2 : DataW.trod enc Try.prog W base sp held n 3 (List.take (Try.prog.cellsOf 3) (List.drop 2 [v0, v1, v2])) = some x2 := e2
      rw [c3] at e0 e1 e2
      obtain ⟨a, ha, _⟩ := DataW.trod_int u3 e0
      obtain ⟨b, hb, _⟩ := DataW.trod_int u3 e1
      obtain ⟨c, hc, _⟩ := DataW.trod_int u3 e2
      simp at ha hb hc
      subst ha; subst hb; subst hc
      exact ⟨⟨a, b, c⟩, rfl⟩
theorem open_nm {r : Reach} {b0 : Nat} {v : Value} {d : DataW H} {ps : List MemPlace} (hval : Value.okWide Try.prog W r b0 23 v) (hd : DataW.Trod enc Try.prog W base sp held 23 v d ps) : ∃ y : Nm, ∀ β, v = den β (nmV y) := by
  unfold Value.okWide at hval
  rw [u23] at hval
  obtain ⟨cs, rfl, _, _⟩ := hval
  obtain ⟨fuel, hf⟩ := hd
  obtain ⟨y, hy⟩ := nm_cells hf
  refine ⟨y, fun β => ?_⟩
  have : cs = (denL β (nmC y)).toArray := Array.ext' (by simpa [Value.cells, nmC, denL, den] using hy)
  rw [this]; rfl
theorem u24 : Try.prog.underlying 24 = some (.slice 23) := by kernel_rfl
theorem open_nms {r : Reach} {b0 : Nat} {v : Value} {d : DataW H} {ps : List MemPlace} (hval : Value.okWide Try.prog W r b0 24 v) (hd : DataW.Trod enc Try.prog W base sp held 24 v d ps) :
    ∃ (n cap : Nat) (f : Nat → Nm) (p : Option (Nat × Nat)), v = den (fun _ => p) (.slice 0 n cap) ∧ RepH (fun _ => p) [.row 3 n fun j => nmC (f j)] W := by
  have sep : ∀ (β : Val) (n : Nat) (el : Nat → List VV), BlkRep 1 β W 0 (.row 3 n el) → RepH β [.row 3 n el] W := fun β n el hb =>
    ⟨fun i b hi => by
      match i, hi with
      | 0, hi => simp at hi; subst hi; exact hb, fun i j b c hi hj hij ho => by
      match i, j, hi, hj with
      | 0, 0, _, _ => exact (hij rfl).elim
      | 0, j + 1, _, hj => simp at hj
      | i + 1, _, hi, _ => simp at hi⟩
  unfold Value.okWide at hval
  rw [u24] at hval
  simp only [] at hval
  unfold Cell.okWide at hval
  rw [u24] at hval
  obtain ⟨fuel, hf⟩ := hd
  rcases DataW.trod_slice u24 hf with ⟨h0, _⟩ | ⟨a, len, cap, elems, rest, n, _, h0, _, hb, hl, hm, hlen, hel, _⟩
  · refine ⟨0, 0, fun _ => ⟨0, 0, 0⟩, none, ?_, sep _ _ _ ⟨Nat.zero_le _, fun j hj => by omega, fun h => by omega⟩⟩
    cases v <;> first | (simp [Value.cells] at h0; done) | skip
    all_goals (try simp_all [Value.cells, den, adr, Cell.ok])
    all_goals (try simp [Cell.ok, u24] at hval)
  · have hv : v = .slice (some a) len cap := by
      cases v <;> first | (simp [Value.cells] at h0; done) | skip
      all_goals (try (simp [Value.cells] at h0; obtain ⟨rfl, rfl, rfl⟩ := h0; rfl))
      all_goals (try (simp_all [Value.cells, Cell.ok]; done))
      all_goals (try (simp [Cell.ok, u24] at hval))
    subst hv
    simp only [Cell.ok, u24] at hval
    have hsp : a.spot = none := hval.2.2.2.1
    have hadd : ∀ m, a.add m = ⟨a.block, a.off + m, none⟩ := fun m => by
      unfold Addr.add
      split
      · rename_i hm; subst hm; cases a; simp_all
      · rfl
    have hadd2 : ∀ m q, (a.add m).add q = ⟨a.block, a.off + (m + q), none⟩ := fun m q => by
      rw [hadd]
      unfold Addr.add
      split
      · rename_i hq; subst hq; rfl
      · simp [Nat.add_assoc]
    have each : ∀ i, i < len → ∃ y : Nm, W.cell? ⟨a.block, a.off + (i * 3 + 0), none⟩ = some (.int .i64 y.a) ∧ W.cell? ⟨a.block, a.off + (i * 3 + 1), none⟩ = some (.int .i64 y.b) ∧ W.cell? ⟨a.block, a.off + (i * 3 + 2), none⟩ = some (.int .i64 y.c) := fun i hi => by
      have h1 := hel i hi
      rw [c23] at h1
      obtain ⟨y, hy⟩ : ∃ y, elems[i]? = some y := ⟨elems[i]'(by omega), List.getElem?_eq_getElem _⟩
      rw [hy, Option.bind_eq_some_iff] at h1
      obtain ⟨cs, hcs, hx⟩ := h1
      obtain ⟨z, rfl⟩ := nm_cells hx
      refine ⟨z, ?_⟩
      unfold World.cells? at hcs
      split at hcs
      · simp [hadd2, List.range_succ, List.mapM_cons, Option.bind_eq_some_iff] at hcs
        obtain ⟨q0, q1, q2⟩ := hcs
        exact ⟨by simpa using q0, by simpa using q1, by simpa using q2⟩
      · cases hcs
    refine ⟨len, cap, fun i => if h : i < len then (each i h).choose else ⟨0, 0, 0⟩, some (a.block, a.off), ?_, sep _ _ _ ⟨by simp only [maxI]; simp only [maxLen] at hm; omega, fun j hj => ⟨rfl, by simp [nmC, bdL, bd], by simp [nmC, oneV]⟩, fun _ _ => ⟨a.block, a.off, rfl, fun j hj q u hu => ?_⟩⟩⟩
    · simp only [den, adr, Option.map_some, Nat.add_zero]
      cases a; simp_all
    · simp only [dif_pos hj] at hu
      obtain ⟨e0, e1, e2⟩ := (each j hj).choose_spec
      match q, hu with
      | 0, hu => simp [nmC] at hu; subst hu; exact e0
      | 1, hu => simp [nmC] at hu; subst hu; exact e1
      | 2, hu => simp [nmC] at hu; subst hu; exact e2
      | q + 3, hu => simp [nmC] at hu
end
end Go.Proofs.Ytjknlacpniehfaa
