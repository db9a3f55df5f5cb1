/- Layer 15: which messages may be, kind by kind. -/
import Derived.Test.YtnlammgemaapnaaTI
import Derived.Test.YtnlammgemaapnaaRA
set_option linter.unusedSimpArgs false
set_option linter.unusedVariables false
set_option maxRecDepth 100000
namespace Go.Proofs.Ytnlammgemaapnaa
open Go Go.Sx
theorem renL_chunk (ρ : Nat → Nat) (sz : Nat) (l : List VV) (j : Nat) : renL ρ (chunk sz l j) = chunk sz (renL ρ l) j := by
  unfold chunk
  rw [seg_eq, seg_eq, renL_map, renL_map, List.map_take, List.map_drop]
/-- A message's bytes are bytes. -/
def MsgW (m : Msg) : Prop := (∀ i, i < 8 → 0 ≤ m.v i ∧ m.v i ≤ 255) ∧ ∀ j, j < m.n → ∀ i, i < 8 → 0 ≤ (m.w j).v i ∧ (m.w j).v i ≤ 255
theorem bys_f (b : Bool) : Bys [fB b] := by cases b <;> exact Bys.cons (by decide) Bys.nil
/-- A message's head alone. -/
def bsM (m : Msg) : Msg := ⟨m.k, m.fr, m.to_, m.inc, m.your, ⟨0, 0, 0⟩, 0, 0, 0, fun _ => 0, 0, false, 0, 0, 0, fun _ => ⟨0, fun _ => 0⟩⟩
/-- What holds of a message's head. -/
def HeadM (m : Msg) (down : Bool) : Prop := (0 ≤ m.fr ∧ m.fr ≤ 4) ∧ (0 ≤ m.to_ ∧ m.to_ ≤ 4) ∧ ¬ ((m.fr == 0) = (m.to_ == 0)) ∧ down = (m.fr == 0) ∧ (1 ≤ m.inc ∧ m.inc ≤ 1048576) ∧ (0 ≤ m.your ∧ m.your ≤ 1048576)
instance (m : Msg) (d : Bool) : Decidable (HeadM m d) := by unfold HeadM; infer_instance
end Go.Proofs.Ytnlammgemaapnaa
