/- What comes in: names by value; and that what was there stays. -/
import Derived.Test.YtnlammgemaapnaaRR
import Derived.ProofKit
import Derived.Test.YtnlammgemaapnaaRows
set_option linter.unusedSimpArgs false
set_option linter.unusedVariables false
set_option maxRecDepth 100000
namespace Go.Proofs.Ytnlammgemaapnaa
open Go Go.Sx Go.ChangeShapes Go.WideShapes Go.ChangeAt Go.RowKit
theorem uN : Try.prog.underlying 26 = some (.struct #[⟨ "Stamp", 3, 0, false, "", "", 0⟩, ⟨ "Inc", 3, 1, false, "", "", 8⟩, ⟨ "Try", 3, 2, false, "", "", 16⟩]) := by kernel_rfl
theorem u3 : Try.prog.underlying 3 = some (.int .i64) := by kernel_rfl
theorem below_of_link {β β' : Val} {h h' : List Blk} {w w' : World} (hno : ∀ b ∈ h, b.owned = false) (l : Link β h w β' h' w') : Go.RowKit.Below w.heap.size w w' :=
  ⟨l.fr.os, l.fr.tape, l.fr.output, l.fr.size, fun k hk => l.fr.keep k hk fun ⟨i, b, hb, ho, _⟩ => by
    rw [hno b (List.mem_of_getElem? hb)] at ho; cases ho⟩
section
variable {H : Type} {enc : TypeId × Value → H} {W : World} {base : Nat} {sp : Nat → Bool} {held : Bool}
theorem cN : Try.prog.cellsOf 26 = 3 := by kernel_rfl
theorem c3 : Try.prog.cellsOf 3 = 1 := by kernel_rfl
theorem nm_cells {fuel : Nat} {cs : List Value} {x : DataW H × List MemPlace} (h : DataW.trod enc Try.prog W base sp held fuel 26 cs = some x) : ∃ y : Nm, cs = [.int .i64 y.a, .int .i64 y.b, .int .i64 y.c] := by
  obtain ⟨xs, n, _, _, hl, hxl, hf⟩ := DataW.trod_struct uN h
  rw [cN] at hl
  have hxl : xs.length = 3 := hxl
  match cs, hl with
  | [v0, v1, v2], _ =>
    have e0 := hf 0 _ rfl
    have e1 := hf 1 _ rfl
    have e2 := hf 2 _ rfl
    match xs, hxl with
    | [x0, x1, x2], _ =>
      have e0 : DataW.trod enc Try.prog W base sp held n 3 (List.take (Try.prog.cellsOf 3) (List.drop 0 [v0, v1, v2])) = some x0 := e0
      have e1 : DataW.trod enc Try.prog W base sp held n 3 (List.take (Try.prog.cellsOf 3) (List.drop 1 [v0, v1, v2])) = some x1 := e1
      have e2 : DataW.trod enc Try.prog W base sp held n 3 (List.take (Try.prog.cellsOf 3) (List.drop 2 [v0, v1, v2])) = some x2 := e2
      rw [c3] at e0 e1 e2
      obtain ⟨a, ha, _⟩ := DataW.trod_int u3 e0
      obtain ⟨b, hb, _⟩ := DataW.trod_int u3 e1
      obtain ⟨c, hc, _⟩ := DataW.trod_int u3 e2
      simp at ha hb hc
      subst ha; subst hb; subst hc
      exact ⟨⟨a, b, c⟩, rfl⟩
theorem open_nm {r : Reach} {b0 : Nat} {v : Value} {d : DataW H} {ps : List MemPlace} (hval : Value.okWide Try.prog W r b0 26 v) (hd : DataW.Trod enc Try.prog W base sp held 26 v d ps) : ∃ y : Nm, ∀ β, v = den β (nmV y) := by
  unfold Value.okWide at hval
  rw [uN] at hval
  obtain ⟨cs, rfl, _, _⟩ := hval
  obtain ⟨fuel, hf⟩ := hd
  obtain ⟨y, hy⟩ := nm_cells hf
  refine ⟨y, fun β => ?_⟩
  have : cs = (denL β (nmC y)).toArray := Array.ext' (by simpa [Value.cells, nmC, denL, den] using hy)
  rw [this]; rfl
end
theorem Try.own : ownKnob Try.prog.godebug = none := by kernel_rfl
theorem Try.laidOut : laidOutB Try.prog = true := by kernel_rfl
/-- A valuation that names nothing. -/
def noV : Val := ⟨fun _ => none, fun _ => none⟩
theorem rep_nil (W : World) : RepH noV [] W := ⟨fun i b h => by simp at h, (fun i j b c h => by simp at h), (fun k b h => by cases h), (fun i b h => by simp at h)⟩
theorem gd_nm (β : Val) (n : Nat) (x : Nm) : gd β n (nmV x) := ⟨by simp [nmV, nmC, bd, bdL], by simp [nmV, nmC, okV, okL]⟩
end Go.Proofs.Ytnlammgemaapnaa
