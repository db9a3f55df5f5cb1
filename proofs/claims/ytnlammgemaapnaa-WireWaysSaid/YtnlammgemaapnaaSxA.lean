/- Virtual values and a virtual heap: what the words of a walk speak of. Blocks have small names; a valuation says where each lies. -/
import Derived.WalkKit
import Derived.KernelRfl
set_option linter.unusedVariables false
namespace Go.Sx
open Go

/-- A value, its addresses by names of blocks. 'ro': a slice whose row is never written any more, told with its elements (p: where it lies); 'rp': a place in such a row; 'asl': a slice of an array that is a part of a block. -/
inductive VV where
  | bool (b : Bool)
  | int (k : IntKind) (n : Int)
  | str (s : ByteArray)
  | nilPtr
  | ptr (id idx sz fo : Nat)
  | nilSlice
  | slice (id len cap : Nat)
  | nilMap
  | map (id : Nat)
  | nilFunc
  | func (f : FuncId) (first caps : List VV)
  | nilIface
  | agg (l : List VV)
  | tup (l : List VV)
  | ro (p : Option (Nat × Nat)) (sz n cap : Nat) (el : Nat → List VV)
  | rp (p : Nat × Nat) (idx sz fo n : Nat) (el : Nat → List VV)
  | asl (id idx sz fo esz n cap : Nat)

/-- Where the blocks lie; and the blocks of the heap that are never written any more. -/
structure Val where
  at_ : Nat → Option (Nat × Nat)
  fz : Nat → Option Obj
instance : CoeFun Val fun _ => Nat → Option (Nat × Nat) := ⟨Val.at_⟩

def adr (β : Val) (id off : Nat) : Option Addr := (β id).map fun p => ⟨p.1, p.2 + off, none⟩

mutual
def den (β : Val) : VV → Value
  | .bool b => .bool b
  | .int k n => .int k n
  | .str s => .string s
  | .nilPtr => .pointer none
  | .ptr id idx sz fo => .pointer (adr β id (idx * sz + fo))
  | .nilSlice => .slice none 0 0
  | .slice id len cap => .slice (adr β id 0) len cap
  | .nilMap => .map none
  | .map id => .map ((β id).map (·.1))
  | .nilFunc => .nilFunc
  | .func f first caps => .func (.func f) (denL β first).toArray (denL β caps).toArray
  | .nilIface => .nilIface
  | .agg l => .agg (denL β l).toArray
  | .tup l => .tuple (denL β l).toArray
  | .ro p _ n cap _ => .slice (p.map fun q => ⟨q.1, q.2, none⟩) n cap
  | .rp p idx sz fo _ _ => .pointer (some ⟨p.1, p.2 + (idx * sz + fo), none⟩)
  | .asl id idx sz fo _ n cap => .slice (adr β id (idx * sz + fo)) n cap
def denL (β : Val) : List VV → List Value
  | [] => []
  | v :: l => den β v :: denL β l
end

theorem denL_map (β : Val) : ∀ l, denL β l = l.map (den β)
  | [] => rfl
  | v :: l => by rw [denL, denL_map β l]; rfl
theorem denL_length (β : Val) (l : List VV) : (denL β l).length = l.length := by simp [denL_map]
theorem denL_get (β : Val) (l : List VV) (i : Nat) : (denL β l)[i]? = l[i]?.map (den β) := by simp [denL_map]
theorem denL_append (β : Val) (a b : List VV) : denL β (a ++ b) = denL β a ++ denL β b := by simp [denL_map]

/-- The same, the names turned. -/
def Val.via (β : Val) (ρ : Nat → Nat) : Val := ⟨fun i => β (ρ i), β.fz⟩
mutual
/-- Names of blocks turned. -/
def ren (ρ : Nat → Nat) : VV → VV
  | .ptr id idx sz fo => .ptr (ρ id) idx sz fo
  | .slice id len cap => .slice (ρ id) len cap
  | .map id => .map (ρ id)
  | .func f first caps => .func f (renL ρ first) (renL ρ caps)
  | .agg l => .agg (renL ρ l)
  | .tup l => .tup (renL ρ l)
  | .asl id idx sz fo esz n cap => .asl (ρ id) idx sz fo esz n cap
  | v => v
def renL (ρ : Nat → Nat) : List VV → List VV
  | [] => []
  | v :: l => ren ρ v :: renL ρ l
end
theorem renL_map (ρ : Nat → Nat) : ∀ l, renL ρ l = l.map (ren ρ)
  | [] => rfl
  | v :: l => by rw [renL, renL_map ρ l]; rfl
theorem renL_length (ρ : Nat → Nat) (l : List VV) : (renL ρ l).length = l.length := by simp [renL_map]

mutual
theorem den_ren (β : Val) (ρ : Nat → Nat) : ∀ v, den β (ren ρ v) = den (β.via ρ) v
  | .bool _ | .int _ _ | .str _ | .nilPtr | .nilSlice | .nilMap | .nilFunc | .nilIface => rfl
  | .ptr _ _ _ _ | .slice _ _ _ | .map _ | .ro _ _ _ _ _ | .rp _ _ _ _ _ _ | .asl _ _ _ _ _ _ _ => rfl
  | .func f a b => by simp only [ren, den, denL_ren β ρ a, denL_ren β ρ b]
  | .agg l => by simp only [ren, den, denL_ren β ρ l]
  | .tup l => by simp only [ren, den, denL_ren β ρ l]
theorem denL_ren (β : Val) (ρ : Nat → Nat) : ∀ l, denL β (renL ρ l) = denL (β.via ρ) l
  | [] => rfl
  | v :: l => by simp only [renL, denL, den_ren β ρ v, denL_ren β ρ l]
end

mutual
/-- All names are below n. -/
def bd (n : Nat) : VV → Prop
  | .ptr id _ _ _ => id < n
  | .slice id _ _ => id < n
  | .map id => id < n
  | .func _ a b => bdL n a ∧ bdL n b
  | .agg l => bdL n l
  | .tup l => bdL n l
  | .asl id _ _ _ _ _ _ => id < n
  | _ => True
def bdL (n : Nat) : List VV → Prop
  | [] => True
  | v :: l => bd n v ∧ bdL n l
end
mutual
theorem den_congr {β β' : Val} {n : Nat} (h : ∀ i, i < n → β' i = β i) : ∀ v, bd n v → den β' v = den β v
  | .bool _, _ | .int _ _, _ | .str _, _ | .nilPtr, _ | .nilSlice, _ | .nilMap, _ | .nilFunc, _ | .nilIface, _ | .ro _ _ _ _ _, _ | .rp _ _ _ _ _ _, _ => rfl
  | .asl id _ _ _ _ _ _, hb => by simp only [den, adr, h id hb]
  | .ptr id _ _ _, hb => by simp only [den, adr, h id hb]
  | .slice id _ _, hb => by simp only [den, adr, h id hb]
  | .map id, hb => by simp only [den, h id hb]
  | .func f a b, hb => by simp only [den, denL_congr h a hb.1, denL_congr h b hb.2]
  | .agg l, hb => by simp only [den, denL_congr h l hb]
  | .tup l, hb => by simp only [den, denL_congr h l hb]
theorem denL_congr {β β' : Val} {n : Nat} (h : ∀ i, i < n → β' i = β i) : ∀ l, bdL n l → denL β' l = denL β l
  | [], _ => rfl
  | v :: l, hb => by simp only [denL, den_congr h v hb.1, denL_congr h l hb.2]
end
theorem bdL_iff (n : Nat) : ∀ l, bdL n l ↔ ∀ v ∈ l, bd n v
  | [] => by simp [bdL]
  | v :: l => by simp [bdL, bdL_iff n l]

def oneV : VV → Bool
  | .agg _ | .tup _ => false
  | _ => true
def maxI : Nat := 9223372036854775807
/-- The world bears the blocks that are never written any more. -/
def Bears (F : Nat → Option Obj) (w : World) : Prop := ∀ k b, F k = some b → w.heap[k]? = some b
/-- A valuation that names no block. -/
def noVal : Val := ⟨fun _ => none, fun _ => none⟩
mutual
/-- What rows that are never written any more hold is what the value says of them. -/
def okV (F : Nat → Option Obj) : VV → Prop
  | .ro p sz n cap el => (n ≤ cap ∧ cap ≤ maxI ∧ (p = none → cap = 0)) ∧ ∀ j, j < n → ((el j).length = sz ∧ bdL 0 (el j) ∧ (∀ u ∈ el j, oneV u = true) ∧
      ∀ g o, p = some (g, o) → ∀ w, Bears F w → ∀ i u, (el j)[i]? = some u → w.cell? ⟨g, o + (j * sz + i), none⟩ = some (den noVal u)) ∧ okL F (el j)
  | .rp p idx sz _ n el => idx < n ∧ ∀ j, j < n → ((el j).length = sz ∧ bdL 0 (el j) ∧ (∀ u ∈ el j, oneV u = true) ∧
      ∀ w, Bears F w → ∀ i u, (el j)[i]? = some u → w.cell? ⟨p.1, p.2 + (j * sz + i), none⟩ = some (den noVal u)) ∧ okL F (el j)
  | .func _ a b => okL F a ∧ okL F b
  | .agg l => okL F l
  | .tup l => okL F l
  | _ => True
def okL (F : Nat → Option Obj) : List VV → Prop
  | [] => True
  | v :: l => okV F v ∧ okL F l
end
/-- More blocks are never written any more. -/
def FLe (F F' : Nat → Option Obj) : Prop := ∀ k b, F k = some b → F' k = some b
theorem FLe.refl (F : Nat → Option Obj) : FLe F F := fun _ _ h => h
theorem FLe.trans {F G H : Nat → Option Obj} (a : FLe F G) (b : FLe G H) : FLe F H := fun k x h => b k x (a k x h)
theorem FLe.bears {F F' : Nat → Option Obj} (h : FLe F F') {w : World} (b : Bears F' w) : Bears F w := fun k x hx => b k x (h k x hx)
mutual
theorem okV_mono {F F' : Nat → Option Obj} (h : FLe F F') : ∀ v, okV F v → okV F' v
  | .bool _, _ | .int _ _, _ | .str _, _ | .nilPtr, _ | .nilSlice, _ | .nilMap, _ | .nilFunc, _ | .nilIface, _ => trivial
  | .ptr _ _ _ _, _ | .slice _ _ _, _ | .map _, _ | .asl _ _ _ _ _ _ _, _ => trivial
  | .func _ a b, hb => ⟨okL_mono h a hb.1, okL_mono h b hb.2⟩
  | .agg l, hb => okL_mono h l hb
  | .tup l, hb => okL_mono h l hb
  | .ro p sz n cap el, hb => ⟨hb.1, fun j hj => ⟨⟨(hb.2 j hj).1.1, (hb.2 j hj).1.2.1, (hb.2 j hj).1.2.2.1, fun g o hp w hw => (hb.2 j hj).1.2.2.2 g o hp w (h.bears hw)⟩, okL_mono h (el j) (hb.2 j hj).2⟩⟩
  | .rp p idx sz fo n el, hb => ⟨hb.1, fun j hj => ⟨⟨(hb.2 j hj).1.1, (hb.2 j hj).1.2.1, (hb.2 j hj).1.2.2.1, fun w hw => (hb.2 j hj).1.2.2.2 w (h.bears hw)⟩, okL_mono h (el j) (hb.2 j hj).2⟩⟩
theorem okL_mono {F F' : Nat → Option Obj} (h : FLe F F') : ∀ l, okL F l → okL F' l
  | [], _ => trivial
  | v :: l, hb => ⟨okV_mono h v hb.1, okL_mono h l hb.2⟩
end
theorem okL_iff (F : Nat → Option Obj) : ∀ l, okL F l ↔ ∀ v ∈ l, okV F v
  | [] => by simp [okL]
  | v :: l => by simp [okL, okL_iff F l]
mutual
theorem okV_ren {F : Nat → Option Obj} (ρ : Nat → Nat) : ∀ v, okV F v → okV F (ren ρ v)
  | .bool _, _ | .int _ _, _ | .str _, _ | .nilPtr, _ | .nilSlice, _ | .nilMap, _ | .nilFunc, _ | .nilIface, _ => trivial
  | .ptr _ _ _ _, _ | .slice _ _ _, _ | .map _, _ | .asl _ _ _ _ _ _ _, _ => trivial
  | .func _ a b, hb => ⟨okL_ren ρ a hb.1, okL_ren ρ b hb.2⟩
  | .agg l, hb => okL_ren ρ l hb
  | .tup l, hb => okL_ren ρ l hb
  | .ro _ _ _ _ _, hb => hb
  | .rp _ _ _ _ _ _, hb => hb
theorem okL_ren {F : Nat → Option Obj} (ρ : Nat → Nat) : ∀ l, okL F l → okL F (renL ρ l)
  | [], _ => trivial
  | v :: l, hb => ⟨okV_ren ρ v hb.1, okL_ren ρ l hb.2⟩
end
mutual
theorem okV_of_ren {F : Nat → Option Obj} (ρ : Nat → Nat) : ∀ v, okV F (ren ρ v) → okV F v
  | .bool _, _ | .int _ _, _ | .str _, _ | .nilPtr, _ | .nilSlice, _ | .nilMap, _ | .nilFunc, _ | .nilIface, _ => trivial
  | .ptr _ _ _ _, _ | .slice _ _ _, _ | .map _, _ | .asl _ _ _ _ _ _ _, _ => trivial
  | .func _ a b, hb => ⟨okL_of_ren ρ a hb.1, okL_of_ren ρ b hb.2⟩
  | .agg l, hb => okL_of_ren ρ l hb
  | .tup l, hb => okL_of_ren ρ l hb
  | .ro _ _ _ _ _, hb => hb
  | .rp _ _ _ _ _ _, hb => hb
theorem okL_of_ren {F : Nat → Option Obj} (ρ : Nat → Nat) : ∀ l, okL F (renL ρ l) → okL F l
  | [], _ => trivial
  | v :: l, hb => ⟨okV_of_ren ρ v hb.1, okL_of_ren ρ l hb.2⟩
end
/-- All names are below n, and all that is told of rows holds. -/
def gd (β : Val) (n : Nat) (v : VV) : Prop := bd n v ∧ okV β.fz v
def gdL (β : Val) (n : Nat) (l : List VV) : Prop := bdL n l ∧ okL β.fz l
theorem gdL_iff (β : Val) (n : Nat) (l : List VV) : gdL β n l ↔ ∀ v ∈ l, gd β n v := by
  unfold gdL gd
  rw [bdL_iff, okL_iff]
  exact ⟨fun h v hv => ⟨h.1 v hv, h.2 v hv⟩, fun h => ⟨fun v hv => (h v hv).1, fun v hv => (h v hv).2⟩⟩
theorem gdL_cons {β : Val} {n : Nat} {v : VV} {l : List VV} (h : gd β n v) (k : gdL β n l) : gdL β n (v :: l) := ⟨⟨h.1, k.1⟩, ⟨h.2, k.2⟩⟩
theorem gd_ptr {β : Val} {n id idx sz fo : Nat} (h : id < n) : gd β n (.ptr id idx sz fo) := ⟨h, trivial⟩
theorem gdL_nil {β : Val} {n : Nat} : gdL β n [] := ⟨trivial, trivial⟩
theorem gd_mem {β : Val} {n : Nat} {l : List VV} (h : gdL β n l) {i : Nat} {u : VV} (hu : l[i]? = some u) : gd β n u := (gdL_iff β n l).1 h u (List.mem_of_getElem? hu)
end Go.Sx
