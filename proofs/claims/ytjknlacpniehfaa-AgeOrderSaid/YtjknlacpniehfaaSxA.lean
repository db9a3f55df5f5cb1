/- Virtual values and a virtual heap: what the words of a walk speak of. Blocks have small names; a valuation says where each lies. -/
import Derived.WalkKit
import Derived.KernelRfl
namespace Go.Sx
open Go

/-- A value, its addresses by names of blocks. -/
inductive VV where
  | bool (b : Bool)
  | int (k : IntKind) (n : Int)
  | str (s : ByteArray)
  | nilPtr
  | ptr (id idx sz fo : Nat)
  | nilSlice
  | slice (id len cap : Nat)
  | nilMap
  | map (id : Nat)
  | nilFunc
  | func (f : FuncId) (first caps : List VV)
  | nilIface
  | agg (l : List VV)
  | tup (l : List VV)

/-- Where the blocks lie. -/
abbrev Val := Nat → Option (Nat × Nat)

def adr (β : Val) (id off : Nat) : Option Addr := (β id).map fun p => ⟨p.1, p.2 + off, none⟩

mutual
def den (β : Val) : VV → Value
  | .bool b => .bool b
  | .int k n => .int k n
  | .str s => .string s
  | .nilPtr => .pointer none
  | .ptr id idx sz fo => .pointer (adr β id (idx * sz + fo))
  | .nilSlice => .slice none 0 0
  | .slice id len cap => .slice (adr β id 0) len cap
  | .nilMap => .map none
  | .map id => .map ((β id).map (·.1))
  | .nilFunc => .nilFunc
  | .func f first caps => .func (.func f) (denL β first).toArray (denL β caps).toArray
  | .nilIface => .nilIface
  | .agg l => .agg (denL β l).toArray
  | .tup l => .tuple (denL β l).toArray
def denL (β : Val) : List VV → List Value
  | [] => []
  | v :: l => den β v :: denL β l
end

theorem denL_map (β : Val) : ∀ l, denL β l = l.map (den β)
  | [] => rfl
  | v :: l => by rw [denL, denL_map β l]; rfl
theorem denL_length (β : Val) (l : List VV) : (denL β l).length = l.length := by simp [denL_map]
theorem denL_get (β : Val) (l : List VV) (i : Nat) : (denL β l)[i]? = l[i]?.map (den β) := by simp [denL_map]
theorem denL_append (β : Val) (a b : List VV) : denL β (a ++ b) = denL β a ++ denL β b := by simp [denL_map]

mutual
/-- Names of blocks turned. -/
def ren (ρ : Nat → Nat) : VV → VV
  | .ptr id idx sz fo => .ptr (ρ id) idx sz fo
  | .slice id len cap => .slice (ρ id) len cap
  | .map id => .map (ρ id)
  | .func f first caps => .func f (renL ρ first) (renL ρ caps)
  | .agg l => .agg (renL ρ l)
  | .tup l => .tup (renL ρ l)
  | v => v
def renL (ρ : Nat → Nat) : List VV → List VV
  | [] => []
  | v :: l => ren ρ v :: renL ρ l
end
theorem renL_map (ρ : Nat → Nat) : ∀ l, renL ρ l = l.map (ren ρ)
  | [] => rfl
  | v :: l => by rw [renL, renL_map ρ l]; rfl
theorem renL_length (ρ : Nat → Nat) (l : List VV) : (renL ρ l).length = l.length := by simp [renL_map]

mutual
theorem den_ren (β : Val) (ρ : Nat → Nat) : ∀ v, den β (ren ρ v) = den (fun i => β (ρ i)) v
  | .bool _ | .int _ _ | .str _ | .nilPtr | .nilSlice | .nilMap | .nilFunc | .nilIface => rfl
  | .ptr _ _ _ _ | .slice _ _ _ | .map _ => rfl
  | .func f a b => by simp only [ren, den, denL_ren β ρ a, denL_ren β ρ b]
  | .agg l => by simp only [ren, den, denL_ren β ρ l]
  | .tup l => by simp only [ren, den, denL_ren β ρ l]
theorem denL_ren (β : Val) (ρ : Nat → Nat) : ∀ l, denL β (renL ρ l) = denL (fun i => β (ρ i)) l
  | [] => rfl
  | v :: l => by simp only [renL, denL, den_ren β ρ v, denL_ren β ρ l]
end

mutual
/-- All names are below n. -/
def bd (n : Nat) : VV → Prop
  | .ptr id _ _ _ => id < n
  | .slice id _ _ => id < n
  | .map id => id < n
  | .func _ a b => bdL n a ∧ bdL n b
  | .agg l => bdL n l
  | .tup l => bdL n l
  | _ => True
def bdL (n : Nat) : List VV → Prop
  | [] => True
  | v :: l => bd n v ∧ bdL n l
end
mutual
theorem den_congr {β β' : Val} {n : Nat} (h : ∀ i, i < n → β' i = β i) : ∀ v, bd n v → den β' v = den β v
  | .bool _, _ | .int _ _, _ | .str _, _ | .nilPtr, _ | .nilSlice, _ | .nilMap, _ | .nilFunc, _ | .nilIface, _ => rfl
  | .ptr id _ _ _, hb => by simp only [den, adr, h id hb]
  | .slice id _ _, hb => by simp only [den, adr, h id hb]
  | .map id, hb => by simp only [den, h id hb]
  | .func f a b, hb => by simp only [den, denL_congr h a hb.1, denL_congr h b hb.2]
  | .agg l, hb => by simp only [den, denL_congr h l hb]
  | .tup l, hb => by simp only [den, denL_congr h l hb]
theorem denL_congr {β β' : Val} {n : Nat} (h : ∀ i, i < n → β' i = β i) : ∀ l, bdL n l → denL β' l = denL β l
  | [], _ => rfl
  | v :: l, hb => by simp only [denL, den_congr h v hb.1, denL_congr h l hb.2]
end
theorem bdL_iff (n : Nat) : ∀ l, bdL n l ↔ ∀ v ∈ l, bd n v
  | [] => by simp [bdL]
  | v :: l => by simp [bdL, bdL_iff n l]

end Go.Sx
