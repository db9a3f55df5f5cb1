/- The equations by which simp runs code: each step is one that the kernel sees. -/
import Derived.Test.YtnlammgemaapnaaSxL
set_option linter.unusedVariables false
namespace Go.Sx
open Go
section
variable {P : Program}
theorem m00  : fitsK [] [] = true := rfl
theorem m01 {ks : List (Option IntKind)} {b : Bool} {l : List VV} : fitsK (none :: ks) (.bool b :: l) = fitsK ks l := rfl
theorem m02 {ks : List (Option IntKind)} {k : IntKind} {n : Int} {l : List VV} : fitsK (some k :: ks) (.int k n :: l) = fitsK ks l := fitsK_int
def wOpt {α : Type} (x : Option α) (F : α → Prop) : Prop :=
  match x with
  | some a => F a
  | none => False
theorem m03 {v : VV} {K : VV → Prop} : vWith (some v) K = K v := rfl
theorem m04 {α : Type} {a : α} {F : α → Prop} : wOpt (some a) F = F a := rfl
theorem m05 {x : Operand} {t : List (Option VV)} {h : List Blk} {K : VV → List Blk → Prop} : vop P (.move x) t h K = vWith (ev t x) fun v => K v h := rfl
theorem m06 {fr : Bool} {x : Operand} {d : Option Tmp} {ty : TypeId} {pos : String} {af : Array Edge} {gd : Option (Nat × Bool)} {st : St} {K : St → Prop} : vstep P fr ⟨d, .move x, ty, pos, af, gd⟩ st K = vop P (.move x) st.t st.h fun v h' => K ⟨tput st.t d v, h'⟩ := rfl
theorem m07 {x : Operand} {d : Option Tmp} {ty : TypeId} {pos : String} {af : Array Edge} {gd : Option (Nat × Bool)} {st : St} {K : St → Prop} {hk : List Blk} : vQuiet P ⟨d, .move x, ty, pos, af, gd⟩ hk st K = vop P (.move x) st.t (pad hk st.h.length) fun v _ => K ⟨tput st.t d v, st.h⟩ := propext ⟨fun h => h.2, fun h => ⟨rfl, h⟩⟩
theorem m08 {x : Operand} {t : List (Option VV)} {h : List Blk} {K : VV → List Blk → Prop} : vop P (.assign x) t h K = vWith (ev t x) fun v => K v h := rfl
theorem m09 {fr : Bool} {x : Operand} {d : Option Tmp} {ty : TypeId} {pos : String} {af : Array Edge} {gd : Option (Nat × Bool)} {st : St} {K : St → Prop} : vstep P fr ⟨d, .assign x, ty, pos, af, gd⟩ st K = vop P (.assign x) st.t st.h fun v h' => K ⟨tput st.t d v, h'⟩ := rfl
theorem m0a {x : Operand} {d : Option Tmp} {ty : TypeId} {pos : String} {af : Array Edge} {gd : Option (Nat × Bool)} {st : St} {K : St → Prop} {hk : List Blk} : vQuiet P ⟨d, .assign x, ty, pos, af, gd⟩ hk st K = vop P (.assign x) st.t (pad hk st.h.length) fun v _ => K ⟨tput st.t d v, st.h⟩ := propext ⟨fun h => h.2, fun h => ⟨rfl, h⟩⟩
theorem m0b {c a b : Operand} {t : List (Option VV)} {h : List Blk} {K : VV → List Blk → Prop} : vop P (.pick c a b) t h K = vPick (ev t c) (ev t a) (ev t b) fun v => K v h := rfl
theorem m0c {fr : Bool} {c a b : Operand} {d : Option Tmp} {ty : TypeId} {pos : String} {af : Array Edge} {gd : Option (Nat × Bool)} {st : St} {K : St → Prop} : vstep P fr ⟨d, .pick c a b, ty, pos, af, gd⟩ st K = vop P (.pick c a b) st.t st.h fun v h' => K ⟨tput st.t d v, h'⟩ := rfl
theorem m0d {c a b : Operand} {d : Option Tmp} {ty : TypeId} {pos : String} {af : Array Edge} {gd : Option (Nat × Bool)} {st : St} {K : St → Prop} {hk : List Blk} : vQuiet P ⟨d, .pick c a b, ty, pos, af, gd⟩ hk st K = vop P (.pick c a b) st.t (pad hk st.h.length) fun v _ => K ⟨tput st.t d v, st.h⟩ := propext ⟨fun h => h.2, fun h => ⟨rfl, h⟩⟩
theorem m0e {e : TypeId} {t : List (Option VV)} {h : List Blk} {K : VV → List Blk → Prop} : vop P (.alloc e) t h K = vAlloc P e h K := rfl
theorem m0f {fr : Bool} {e : TypeId} {d : Option Tmp} {ty : TypeId} {pos : String} {af : Array Edge} {gd : Option (Nat × Bool)} {st : St} {K : St → Prop} : vstep P fr ⟨d, .alloc e, ty, pos, af, gd⟩ st K = vop P (.alloc e) st.t st.h fun v h' => K ⟨tput st.t d v, h'⟩ := rfl
theorem m0g {e : TypeId} {x : Operand} {t : List (Option VV)} {h : List Blk} {K : VV → List Blk → Prop} : vop P (.box e x) t h K = vWith (ev t x) fun v => vBox e v h K := rfl
theorem m0h {fr : Bool} {e : TypeId} {x : Operand} {d : Option Tmp} {ty : TypeId} {pos : String} {af : Array Edge} {gd : Option (Nat × Bool)} {st : St} {K : St → Prop} : vstep P fr ⟨d, .box e x, ty, pos, af, gd⟩ st K = vop P (.box e x) st.t st.h fun v h' => K ⟨tput st.t d v, h'⟩ := rfl
theorem m0i {e : TypeId} {ps : Array (Nat × Operand)} {t : List (Option VV)} {h : List Blk} {K : VV → List Blk → Prop} : vop P (.build e ps) t h K = vBuild P e (vParts (ev t) ps.toList) h K := rfl
theorem m0j {fr : Bool} {e : TypeId} {ps : Array (Nat × Operand)} {d : Option Tmp} {ty : TypeId} {pos : String} {af : Array Edge} {gd : Option (Nat × Bool)} {st : St} {K : St → Prop} : vstep P fr ⟨d, .build e ps, ty, pos, af, gd⟩ st K = vop P (.build e ps) st.t st.h fun v h' => K ⟨tput st.t d v, h'⟩ := rfl
theorem m0k {e : TypeId} {ps : Array (Nat × Operand)} {d : Option Tmp} {ty : TypeId} {pos : String} {af : Array Edge} {gd : Option (Nat × Bool)} {st : St} {K : St → Prop} {hk : List Blk} : vQuiet P ⟨d, .build e ps, ty, pos, af, gd⟩ hk st K = vop P (.build e ps) st.t (pad hk st.h.length) fun v _ => K ⟨tput st.t d v, st.h⟩ := propext ⟨fun h => h.2, fun h => ⟨rfl, h⟩⟩
theorem m0l {e : TypeId} {n : Nat} {ps : Array (Nat × Operand)} {t : List (Option VV)} {h : List Blk} {K : VV → List Blk → Prop} : vop P (.buildSlice e n ps) t h K = vBuildSlice P e n (vParts (ev t) ps.toList) h K := rfl
theorem m0m {fr : Bool} {e : TypeId} {n : Nat} {ps : Array (Nat × Operand)} {d : Option Tmp} {ty : TypeId} {pos : String} {af : Array Edge} {gd : Option (Nat × Bool)} {st : St} {K : St → Prop} : vstep P fr ⟨d, .buildSlice e n ps, ty, pos, af, gd⟩ st K = vop P (.buildSlice e n ps) st.t st.h fun v h' => K ⟨tput st.t d v, h'⟩ := rfl
theorem m0n {e : TypeId} {x : Operand} {t : List (Option VV)} {h : List Blk} {K : VV → List Blk → Prop} : vop P (.load e x) t h K = vWith (ev t x) fun p => vLoad P e p h K := rfl
theorem m0o {fr : Bool} {e : TypeId} {x : Operand} {d : Option Tmp} {ty : TypeId} {pos : String} {af : Array Edge} {gd : Option (Nat × Bool)} {st : St} {K : St → Prop} : vstep P fr ⟨d, .load e x, ty, pos, af, gd⟩ st K = vop P (.load e x) st.t st.h fun v h' => K ⟨tput st.t d v, h'⟩ := rfl
theorem m0p {e : TypeId} {x : Operand} {d : Option Tmp} {ty : TypeId} {pos : String} {af : Array Edge} {gd : Option (Nat × Bool)} {st : St} {K : St → Prop} {hk : List Blk} : vQuiet P ⟨d, .load e x, ty, pos, af, gd⟩ hk st K = vop P (.load e x) st.t (pad hk st.h.length) fun v _ => K ⟨tput st.t d v, st.h⟩ := propext ⟨fun h => h.2, fun h => ⟨rfl, h⟩⟩
theorem m0q {e : TypeId} {p x : Operand} {t : List (Option VV)} {h : List Blk} {K : VV → List Blk → Prop} : vop P (.store e p x) t h K = vWith (ev t p) fun p => vWith (ev t x) fun v => vStore P e p v h K := rfl
theorem m0r {fr : Bool} {e : TypeId} {p x : Operand} {d : Option Tmp} {ty : TypeId} {pos : String} {af : Array Edge} {gd : Option (Nat × Bool)} {st : St} {K : St → Prop} : vstep P fr ⟨d, .store e p x, ty, pos, af, gd⟩ st K = vop P (.store e p x) st.t st.h fun v h' => K ⟨tput st.t d v, h'⟩ := rfl
theorem m0s {x : Operand} {t : List (Option VV)} {h : List Blk} {K : VV → List Blk → Prop} : vop P (.nilCheck x) t h K = vWith (ev t x) fun v => vNilCheck v h K := rfl
theorem m0t {fr : Bool} {x : Operand} {d : Option Tmp} {ty : TypeId} {pos : String} {af : Array Edge} {gd : Option (Nat × Bool)} {st : St} {K : St → Prop} : vstep P fr ⟨d, .nilCheck x, ty, pos, af, gd⟩ st K = vop P (.nilCheck x) st.t st.h fun v h' => K ⟨tput st.t d v, h'⟩ := rfl
theorem m0u {x : Operand} {d : Option Tmp} {ty : TypeId} {pos : String} {af : Array Edge} {gd : Option (Nat × Bool)} {st : St} {K : St → Prop} {hk : List Blk} : vQuiet P ⟨d, .nilCheck x, ty, pos, af, gd⟩ hk st K = vop P (.nilCheck x) st.t (pad hk st.h.length) fun v _ => K ⟨tput st.t d v, st.h⟩ := propext ⟨fun h => h.2, fun h => ⟨rfl, h⟩⟩
theorem m0v {x : Operand} {d : Option Tmp} {ty : TypeId} {pos : String} {af : Array Edge} {gd : Option (Nat × Bool)} {st : St} {K : St → Prop} {hk : List Blk} : vViewS P ⟨d, .nilCheck x, ty, pos, af, gd⟩ hk st K = vop P (.nilCheck x) st.t st.h fun v h' => kept hk h' ∧ K ⟨tput st.t d v, h'⟩ := propext ⟨fun h => h.2, fun h => ⟨rfl, h⟩⟩
theorem m0w {op : BinOp} {e e2 : TypeId} {x y : Operand} {t : List (Option VV)} {h : List Blk} {K : VV → List Blk → Prop} : vop P (.binOp op e x y e2) t h K = vWith (ev t x) fun a => vWith (ev t y) fun b => vBinH P op e a b h K := rfl
theorem m0x {fr : Bool} {op : BinOp} {e e2 : TypeId} {x y : Operand} {d : Option Tmp} {ty : TypeId} {pos : String} {af : Array Edge} {gd : Option (Nat × Bool)} {st : St} {K : St → Prop} : vstep P fr ⟨d, .binOp op e x y e2, ty, pos, af, gd⟩ st K = vop P (.binOp op e x y e2) st.t st.h fun v h' => K ⟨tput st.t d v, h'⟩ := rfl
theorem m0y {op : BinOp} {e e2 : TypeId} {x y : Operand} {d : Option Tmp} {ty : TypeId} {pos : String} {af : Array Edge} {gd : Option (Nat × Bool)} {st : St} {K : St → Prop} {hk : List Blk} : vQuiet P ⟨d, .binOp op e x y e2, ty, pos, af, gd⟩ hk st K = vop P (.binOp op e x y e2) st.t (pad hk st.h.length) fun v _ => K ⟨tput st.t d v, st.h⟩ := propext ⟨fun h => h.2, fun h => ⟨rfl, h⟩⟩
theorem m0z {op : UnOp} {e : TypeId} {x : Operand} {t : List (Option VV)} {h : List Blk} {K : VV → List Blk → Prop} : vop P (.unOp op e x) t h K = vWith (ev t x) fun a => vUn op a fun v => K v h := rfl
theorem m10 {fr : Bool} {op : UnOp} {e : TypeId} {x : Operand} {d : Option Tmp} {ty : TypeId} {pos : String} {af : Array Edge} {gd : Option (Nat × Bool)} {st : St} {K : St → Prop} : vstep P fr ⟨d, .unOp op e x, ty, pos, af, gd⟩ st K = vop P (.unOp op e x) st.t st.h fun v h' => K ⟨tput st.t d v, h'⟩ := rfl
theorem m11 {op : UnOp} {e : TypeId} {x : Operand} {d : Option Tmp} {ty : TypeId} {pos : String} {af : Array Edge} {gd : Option (Nat × Bool)} {st : St} {K : St → Prop} {hk : List Blk} : vQuiet P ⟨d, .unOp op e x, ty, pos, af, gd⟩ hk st K = vop P (.unOp op e x) st.t (pad hk st.h.length) fun v _ => K ⟨tput st.t d v, st.h⟩ := propext ⟨fun h => h.2, fun h => ⟨rfl, h⟩⟩
theorem m12 {s e : TypeId} {x : Operand} {t : List (Option VV)} {h : List Blk} {K : VV → List Blk → Prop} : vop P (.convert s e x) t h K = vWith (ev t x) fun a => vConvH P s e a h K := rfl
theorem m13 {fr : Bool} {s e : TypeId} {x : Operand} {d : Option Tmp} {ty : TypeId} {pos : String} {af : Array Edge} {gd : Option (Nat × Bool)} {st : St} {K : St → Prop} : vstep P fr ⟨d, .convert s e x, ty, pos, af, gd⟩ st K = vop P (.convert s e x) st.t st.h fun v h' => K ⟨tput st.t d v, h'⟩ := rfl
theorem m14 {s e : TypeId} {x : Operand} {d : Option Tmp} {ty : TypeId} {pos : String} {af : Array Edge} {gd : Option (Nat × Bool)} {st : St} {K : St → Prop} {hk : List Blk} : vQuiet P ⟨d, .convert s e x, ty, pos, af, gd⟩ hk st K = vop P (.convert s e x) st.t (pad hk st.h.length) fun v _ => K ⟨tput st.t d v, st.h⟩ := propext ⟨fun h => h.2, fun h => ⟨rfl, h⟩⟩
theorem m15 {fn : Fn} {a b : Array Operand} {t : List (Option VV)} {h : List Blk} {K : VV → List Blk → Prop} : vop P (.makeFunc fn a b) t h K = vFunc fn (evs t a.toList) (evs t b.toList) fun v => K v h := rfl
theorem m16 {fr : Bool} {fn : Fn} {a b : Array Operand} {d : Option Tmp} {ty : TypeId} {pos : String} {af : Array Edge} {gd : Option (Nat × Bool)} {st : St} {K : St → Prop} : vstep P fr ⟨d, .makeFunc fn a b, ty, pos, af, gd⟩ st K = vop P (.makeFunc fn a b) st.t st.h fun v h' => K ⟨tput st.t d v, h'⟩ := rfl
theorem m17 {fn : Fn} {a b : Array Operand} {d : Option Tmp} {ty : TypeId} {pos : String} {af : Array Edge} {gd : Option (Nat × Bool)} {st : St} {K : St → Prop} {hk : List Blk} : vQuiet P ⟨d, .makeFunc fn a b, ty, pos, af, gd⟩ hk st K = vop P (.makeFunc fn a b) st.t (pad hk st.h.length) fun v _ => K ⟨tput st.t d v, st.h⟩ := propext ⟨fun h => h.2, fun h => ⟨rfl, h⟩⟩
theorem m18 {e : TypeId} {x : Operand} {lo hi mx : Option Operand} {t : List (Option VV)} {h : List Blk} {K : VV → List Blk → Prop} : vop P (.slice e x lo hi mx) t h K = vWith (ev t x) fun v => vSlice P e v (optV (ev t) lo) (optV (ev t) hi) (optV (ev t) mx) h K := rfl
theorem m19 {fr : Bool} {e : TypeId} {x : Operand} {lo hi mx : Option Operand} {d : Option Tmp} {ty : TypeId} {pos : String} {af : Array Edge} {gd : Option (Nat × Bool)} {st : St} {K : St → Prop} : vstep P fr ⟨d, .slice e x lo hi mx, ty, pos, af, gd⟩ st K = vop P (.slice e x lo hi mx) st.t st.h fun v h' => K ⟨tput st.t d v, h'⟩ := rfl
theorem m1a {e : TypeId} {x : Operand} {lo hi mx : Option Operand} {d : Option Tmp} {ty : TypeId} {pos : String} {af : Array Edge} {gd : Option (Nat × Bool)} {st : St} {K : St → Prop} {hk : List Blk} : vViewS P ⟨d, .slice e x lo hi mx, ty, pos, af, gd⟩ hk st K = vop P (.slice e x lo hi mx) st.t st.h fun v h' => kept hk h' ∧ K ⟨tput st.t d v, h'⟩ := propext ⟨fun h => h.2, fun h => ⟨rfl, h⟩⟩
theorem m1b {e : TypeId} {x : Operand} {f : Nat} {t : List (Option VV)} {h : List Blk} {K : VV → List Blk → Prop} : vop P (.fieldAddr e x f) t h K = vWith (ev t x) fun v => vFieldAddr P e v f h K := rfl
theorem m1c {fr : Bool} {e : TypeId} {x : Operand} {f : Nat} {d : Option Tmp} {ty : TypeId} {pos : String} {af : Array Edge} {gd : Option (Nat × Bool)} {st : St} {K : St → Prop} : vstep P fr ⟨d, .fieldAddr e x f, ty, pos, af, gd⟩ st K = vop P (.fieldAddr e x f) st.t st.h fun v h' => K ⟨tput st.t d v, h'⟩ := rfl
theorem m1d {e : TypeId} {x : Operand} {f : Nat} {d : Option Tmp} {ty : TypeId} {pos : String} {af : Array Edge} {gd : Option (Nat × Bool)} {st : St} {K : St → Prop} {hk : List Blk} : vQuiet P ⟨d, .fieldAddr e x f, ty, pos, af, gd⟩ hk st K = vop P (.fieldAddr e x f) st.t (pad hk st.h.length) fun v _ => K ⟨tput st.t d v, st.h⟩ := propext ⟨fun h => h.2, fun h => ⟨rfl, h⟩⟩
theorem m1e {e : TypeId} {x : Operand} {f : Nat} {d : Option Tmp} {ty : TypeId} {pos : String} {af : Array Edge} {gd : Option (Nat × Bool)} {st : St} {K : St → Prop} {hk : List Blk} : vViewS P ⟨d, .fieldAddr e x f, ty, pos, af, gd⟩ hk st K = vop P (.fieldAddr e x f) st.t st.h fun v h' => kept hk h' ∧ K ⟨tput st.t d v, h'⟩ := propext ⟨fun h => h.2, fun h => ⟨rfl, h⟩⟩
theorem m1f {e : TypeId} {x : Operand} {f : Nat} {t : List (Option VV)} {h : List Blk} {K : VV → List Blk → Prop} : vop P (.field e x f) t h K = vWith (ev t x) fun v => vField P e v f h K := rfl
theorem m1g {fr : Bool} {e : TypeId} {x : Operand} {f : Nat} {d : Option Tmp} {ty : TypeId} {pos : String} {af : Array Edge} {gd : Option (Nat × Bool)} {st : St} {K : St → Prop} : vstep P fr ⟨d, .field e x f, ty, pos, af, gd⟩ st K = vop P (.field e x f) st.t st.h fun v h' => K ⟨tput st.t d v, h'⟩ := rfl
theorem m1h {e : TypeId} {x : Operand} {f : Nat} {d : Option Tmp} {ty : TypeId} {pos : String} {af : Array Edge} {gd : Option (Nat × Bool)} {st : St} {K : St → Prop} {hk : List Blk} : vQuiet P ⟨d, .field e x f, ty, pos, af, gd⟩ hk st K = vop P (.field e x f) st.t (pad hk st.h.length) fun v _ => K ⟨tput st.t d v, st.h⟩ := propext ⟨fun h => h.2, fun h => ⟨rfl, h⟩⟩
theorem m1i {e : TypeId} {x i : Operand} {t : List (Option VV)} {h : List Blk} {K : VV → List Blk → Prop} : vop P (.indexAddr e x i) t h K = vWith (ev t x) fun v => vWith (ev t i) fun i => vIndexAddr P e v i h K := rfl
theorem m1j {fr : Bool} {e : TypeId} {x i : Operand} {d : Option Tmp} {ty : TypeId} {pos : String} {af : Array Edge} {gd : Option (Nat × Bool)} {st : St} {K : St → Prop} : vstep P fr ⟨d, .indexAddr e x i, ty, pos, af, gd⟩ st K = vop P (.indexAddr e x i) st.t st.h fun v h' => K ⟨tput st.t d v, h'⟩ := rfl
theorem m1k {e : TypeId} {x i : Operand} {d : Option Tmp} {ty : TypeId} {pos : String} {af : Array Edge} {gd : Option (Nat × Bool)} {st : St} {K : St → Prop} {hk : List Blk} : vQuiet P ⟨d, .indexAddr e x i, ty, pos, af, gd⟩ hk st K = vop P (.indexAddr e x i) st.t (pad hk st.h.length) fun v _ => K ⟨tput st.t d v, st.h⟩ := propext ⟨fun h => h.2, fun h => ⟨rfl, h⟩⟩
theorem m1l {e : TypeId} {x i : Operand} {d : Option Tmp} {ty : TypeId} {pos : String} {af : Array Edge} {gd : Option (Nat × Bool)} {st : St} {K : St → Prop} {hk : List Blk} : vViewS P ⟨d, .indexAddr e x i, ty, pos, af, gd⟩ hk st K = vop P (.indexAddr e x i) st.t st.h fun v h' => kept hk h' ∧ K ⟨tput st.t d v, h'⟩ := propext ⟨fun h => h.2, fun h => ⟨rfl, h⟩⟩
theorem m1m {e : TypeId} {x i : Operand} {t : List (Option VV)} {h : List Blk} {K : VV → List Blk → Prop} : vop P (.index e x i) t h K = vWith (ev t x) fun v => vWith (ev t i) fun i => vIndex P e v i h K := rfl
theorem m1n {fr : Bool} {e : TypeId} {x i : Operand} {d : Option Tmp} {ty : TypeId} {pos : String} {af : Array Edge} {gd : Option (Nat × Bool)} {st : St} {K : St → Prop} : vstep P fr ⟨d, .index e x i, ty, pos, af, gd⟩ st K = vop P (.index e x i) st.t st.h fun v h' => K ⟨tput st.t d v, h'⟩ := rfl
theorem m1o {e : TypeId} {x i : Operand} {d : Option Tmp} {ty : TypeId} {pos : String} {af : Array Edge} {gd : Option (Nat × Bool)} {st : St} {K : St → Prop} {hk : List Blk} : vQuiet P ⟨d, .index e x i, ty, pos, af, gd⟩ hk st K = vop P (.index e x i) st.t (pad hk st.h.length) fun v _ => K ⟨tput st.t d v, st.h⟩ := propext ⟨fun h => h.2, fun h => ⟨rfl, h⟩⟩
theorem m1p {x : Operand} {i : Nat} {t : List (Option VV)} {h : List Blk} {K : VV → List Blk → Prop} : vop P (.extract x i) t h K = vWith (ev t x) fun v => vExtract v i h K := rfl
theorem m1q {fr : Bool} {x : Operand} {i : Nat} {d : Option Tmp} {ty : TypeId} {pos : String} {af : Array Edge} {gd : Option (Nat × Bool)} {st : St} {K : St → Prop} : vstep P fr ⟨d, .extract x i, ty, pos, af, gd⟩ st K = vop P (.extract x i) st.t st.h fun v h' => K ⟨tput st.t d v, h'⟩ := rfl
theorem m1r {x : Operand} {i : Nat} {d : Option Tmp} {ty : TypeId} {pos : String} {af : Array Edge} {gd : Option (Nat × Bool)} {st : St} {K : St → Prop} {hk : List Blk} : vQuiet P ⟨d, .extract x i, ty, pos, af, gd⟩ hk st K = vop P (.extract x i) st.t (pad hk st.h.length) fun v _ => K ⟨tput st.t d v, st.h⟩ := propext ⟨fun h => h.2, fun h => ⟨rfl, h⟩⟩
theorem m1s {e : TypeId} {l c : Operand} {t : List (Option VV)} {h : List Blk} {K : VV → List Blk → Prop} : vop P (.makeSlice e l c) t h K = vWith (ev t l) fun l => vWith (ev t c) fun c => vMake P e l c h K := rfl
theorem m1t {fr : Bool} {e : TypeId} {l c : Operand} {d : Option Tmp} {ty : TypeId} {pos : String} {af : Array Edge} {gd : Option (Nat × Bool)} {st : St} {K : St → Prop} : vstep P fr ⟨d, .makeSlice e l c, ty, pos, af, gd⟩ st K = vop P (.makeSlice e l c) st.t st.h fun v h' => K ⟨tput st.t d v, h'⟩ := rfl
theorem m1u {e : TypeId} {t : List (Option VV)} {h : List Blk} {K : VV → List Blk → Prop} : vop P (.makeMap e none) t h K = K (.map h.length) (h ++ [.map true [] 0]) := rfl
theorem m1v {fr : Bool} {e : TypeId} {d : Option Tmp} {ty : TypeId} {pos : String} {af : Array Edge} {gd : Option (Nat × Bool)} {st : St} {K : St → Prop} : vstep P fr ⟨d, .makeMap e none, ty, pos, af, gd⟩ st K = vop P (.makeMap e none) st.t st.h fun v h' => K ⟨tput st.t d v, h'⟩ := rfl
theorem m1w {e : TypeId} {x i : Operand} {ok : Bool} {t : List (Option VV)} {h : List Blk} {K : VV → List Blk → Prop} : vop P (.lookup e x i ok) t h K = vWith (ev t x) fun m => vWith (ev t i) fun k => vLookup P e m k ok h K := rfl
theorem m1x {fr : Bool} {e : TypeId} {x i : Operand} {ok : Bool} {d : Option Tmp} {ty : TypeId} {pos : String} {af : Array Edge} {gd : Option (Nat × Bool)} {st : St} {K : St → Prop} : vstep P fr ⟨d, .lookup e x i ok, ty, pos, af, gd⟩ st K = vop P (.lookup e x i ok) st.t st.h fun v h' => K ⟨tput st.t d v, h'⟩ := rfl
theorem m1y {e : TypeId} {x i : Operand} {ok : Bool} {d : Option Tmp} {ty : TypeId} {pos : String} {af : Array Edge} {gd : Option (Nat × Bool)} {st : St} {K : St → Prop} {hk : List Blk} : vQuiet P ⟨d, .lookup e x i ok, ty, pos, af, gd⟩ hk st K = vop P (.lookup e x i ok) st.t (pad hk st.h.length) fun v _ => K ⟨tput st.t d v, st.h⟩ := propext ⟨fun h => h.2, fun h => ⟨rfl, h⟩⟩
theorem m1z {e : TypeId} {x i : Operand} {t : List (Option VV)} {h : List Blk} {K : VV → List Blk → Prop} : vop P (.mapEntry e x i) t h K = vWith (ev t x) fun m => vWith (ev t i) fun k => vMapEntry P e m k h K := rfl
theorem m20 {fr : Bool} {e : TypeId} {x i : Operand} {d : Option Tmp} {ty : TypeId} {pos : String} {af : Array Edge} {gd : Option (Nat × Bool)} {st : St} {K : St → Prop} : vstep P fr ⟨d, .mapEntry e x i, ty, pos, af, gd⟩ st K = vop P (.mapEntry e x i) st.t st.h fun v h' => K ⟨tput st.t d v, h'⟩ := rfl
theorem m21 {e : TypeId} {m s x : Operand} {t : List (Option VV)} {h : List Blk} {K : VV → List Blk → Prop} : vop P (.entryStore e m s x) t h K = vWith (ev t m) fun m => vWith (ev t s) fun s => vWith (ev t x) fun x => vEntryStore m s x h K := rfl
theorem m22 {fr : Bool} {e : TypeId} {m s x : Operand} {d : Option Tmp} {ty : TypeId} {pos : String} {af : Array Edge} {gd : Option (Nat × Bool)} {st : St} {K : St → Prop} : vstep P fr ⟨d, .entryStore e m s x, ty, pos, af, gd⟩ st K = vop P (.entryStore e m s x) st.t st.h fun v h' => K ⟨tput st.t d v, h'⟩ := rfl
theorem m23 {b : Builtin} {as : Array Operand} {ts : Array TypeId} {t : List (Option VV)} {h : List Blk} {K : VV → List Blk → Prop} : vop P (.call { callee := .builtin b, args := as, argTypes := ts }) t h K = vBuiltin P b ts.toList (evs t as.toList) h K := rfl
theorem m24 {fr : Bool} {b : Builtin} {as : Array Operand} {ts : Array TypeId} {d : Option Tmp} {ty : TypeId} {pos : String} {af : Array Edge} {gd : Option (Nat × Bool)} {st : St} {K : St → Prop} : vstep P fr ⟨d, .call { callee := .builtin b, args := as, argTypes := ts }, ty, pos, af, gd⟩ st K = vop P (.call { callee := .builtin b, args := as, argTypes := ts }) st.t st.h fun v h' => K ⟨tput st.t d v, h'⟩ := rfl
theorem m25 {as : Array Operand} {ts : Array TypeId} {d : Option Tmp} {ty : TypeId} {pos : String} {af : Array Edge} {gd : Option (Nat × Bool)} {st : St} {K : St → Prop} {hk : List Blk} : vQuiet P ⟨d, .call { callee := .builtin .len, args := as, argTypes := ts }, ty, pos, af, gd⟩ hk st K = vop P (.call { callee := .builtin .len, args := as, argTypes := ts }) st.t (pad hk st.h.length) fun v _ => K ⟨tput st.t d v, st.h⟩ := propext ⟨fun h => h.2, fun h => ⟨rfl, h⟩⟩
theorem m26 {as : Array Operand} {ts : Array TypeId} {d : Option Tmp} {ty : TypeId} {pos : String} {af : Array Edge} {gd : Option (Nat × Bool)} {st : St} {K : St → Prop} {hk : List Blk} : vQuiet P ⟨d, .call { callee := .builtin .max, args := as, argTypes := ts }, ty, pos, af, gd⟩ hk st K = vop P (.call { callee := .builtin .max, args := as, argTypes := ts }) st.t (pad hk st.h.length) fun v _ => K ⟨tput st.t d v, st.h⟩ := propext ⟨fun h => h.2, fun h => ⟨rfl, h⟩⟩
theorem m27 {as : Array Operand} {ts : Array TypeId} {d : Option Tmp} {ty : TypeId} {pos : String} {af : Array Edge} {gd : Option (Nat × Bool)} {st : St} {K : St → Prop} {hk : List Blk} : vQuiet P ⟨d, .call { callee := .builtin .min, args := as, argTypes := ts }, ty, pos, af, gd⟩ hk st K = vop P (.call { callee := .builtin .min, args := as, argTypes := ts }) st.t (pad hk st.h.length) fun v _ => K ⟨tput st.t d v, st.h⟩ := propext ⟨fun h => h.2, fun h => ⟨rfl, h⟩⟩
theorem m28 {fr : Bool} {f : Operand} {as : Array Operand} {ts : Array TypeId} {d : Option Tmp} {ty : TypeId} {pos : String} {af : Array Edge} {gd : Option (Nat × Bool)} {st : St} {K : St → Prop} : vstep P fr ⟨d, .call { callee := .value f, args := as, argTypes := ts }, ty, pos, af, gd⟩ st K = vEnter P fr (ev st.t f) (evs st.t as.toList) st.h fun v h' => K ⟨tput st.t d v, h'⟩ := rfl
theorem m29 {fr : Bool} {f : FuncId} {a c as : List VV} {h : List Blk} {K : VV → List Blk → Prop} : vEnter P fr (some (.func f a c)) (some as) h K = VC P fr f (a ++ (as ++ c)) h K := rfl
theorem m2a {α : Type} {l : List α} : (List.toArray l).toList = l := rfl
theorem m2b {t : List (Option VV)} {n : Nat} : ev t (.tmp n) = tget t n := rfl
theorem m2c {t : List (Option VV)} {v : Value} : ev t (.const v) = ofVal v := rfl
theorem m2d {t : List (Option VV)} {f : FuncId} : ev t (.func f) = some (.func f [] []) := rfl
theorem m2e {x : Option VV} {l : List (Option VV)} : tget (x :: l) 0 = x := by cases x <;> rfl
theorem m2f {x : Option VV} {l : List (Option VV)} {n : Nat} : tget (x :: l) (n + 1) = tget l n := rfl
theorem m2g {t : List (Option VV)} {n : Nat} {v : VV} : tput t (some n) v = lset t n (some v) := rfl
theorem m2h {t : List (Option VV)} {v : VV} : tput t none v = t := rfl
theorem m2i {t : List (Option VV)} : evs t [] = some [] := rfl
def ocons {α : Type} (x : Option α) (l : Option (List α)) : Option (List α) :=
  match x, l with
  | some v, some r => some (v :: r)
  | _, _ => none
theorem m2j {t : List (Option VV)} {x : Operand} {l : List Operand} : evs t (x :: l) = ocons (ev t x) (evs t l) := by rw [evs]; cases ev t x <;> cases evs t l <;> rfl
theorem m2k {α : Type} {v : α} {r : List α} : ocons (some v) (some r) = some (v :: r) := rfl
def pcons (i : Nat) (x : Option VV) (l : Option (List (Nat × VV))) : Option (List (Nat × VV)) :=
  match x, l with
  | some v, some r => some ((i, v) :: r)
  | _, _ => none
theorem m2l {e : Operand → Option VV} : vParts e [] = some [] := rfl
theorem m2m {e : Operand → Option VV} {i : Nat} {x : Operand} {l : List (Nat × Operand)} : vParts e ((i, x) :: l) = pcons i (e x) (vParts e l) := by rw [vParts]; cases e x <;> cases vParts e l <;> rfl
theorem m2n {i : Nat} {v : VV} {r : List (Nat × VV)} : pcons i (some v) (some r) = some ((i, v) :: r) := rfl
theorem m2o {a b : Option VV} {K : VV → Prop} : vPick (some (.bool true)) a b K = vWith a K := rfl
theorem m2p {a b : Option VV} {K : VV → Prop} : vPick (some (.bool false)) a b K = vWith b K := rfl
theorem m2q {p : Prop} [Decidable p] {x y : Bool} {K : VV → Prop} : vPick (some (.bool (decide p))) (some (.bool x)) (some (.bool y)) K = K (.bool (if p then x else y)) := by by_cases h : p <;> simp only [h, decide_true, decide_false, if_true, if_false] <;> rfl
theorem m2r {f : FuncId} {a b : List VV} {K : VV → Prop} : vFunc (.func f) (some a) (some b) K = K (.func f a b) := rfl
theorem m2s {t : TypeId} {x : VV} {h : List Blk} {K : VV → List Blk → Prop} : vBuiltin P .len [t] (some [x]) h K = vLen P t x h K := rfl
theorem m2t {t : TypeId} {s x : VV} {h : List Blk} {K : VV → List Blk → Prop} : vBuiltin P .append [t, t] (some [s, x]) h K = vApp P t s x h K := propext ⟨fun h => h.2, fun h => ⟨.inl rfl, h⟩⟩
theorem m2u {t : TypeId} {s x : VV} {h : List Blk} {K : VV → List Blk → Prop} : vBuiltin P .copy [t, t] (some [s, x]) h K = vCopy P t s x h K := propext ⟨fun h => h.2, fun h => ⟨rfl, h⟩⟩
theorem m2v {ts : List TypeId} {k k2 : IntKind} {x y : Int} {h : List Blk} {K : VV → List Blk → Prop} : vBuiltin P .max ts (some [.int k x, .int k2 y]) h K = K (.int k (if y > x then y else x)) h := rfl
theorem m2w {ts : List TypeId} {k k2 : IntKind} {x y : Int} {h : List Blk} {K : VV → List Blk → Prop} : vBuiltin P .min ts (some [.int k x, .int k2 y]) h K = K (.int k (if y < x then y else x)) h := rfl
def wAgg (a : Option Bool) (s : Option Nat) (l : List VV) (fo : Nat) (K : VV → Prop) : Prop :=
  match a, s with
  | some true, some s => (fo + s ≤ l.length ∧ 0 < s) ∧ K (.agg (seg l fo s))
  | some false, _ => vWith (nth l fo) K
  | _, _ => False
theorem m2x {t : TypeId} {l : List VV} {fo : Nat} {K : VV → Prop} : vTake P t l fo K = wAgg (tagg P t) (tsz P t) l fo K := by unfold vTake wAgg; cases tagg P t with | none => rfl | some b => cases b <;> cases tsz P t <;> simp only [] <;> cases nth l fo <;> rfl
theorem m2y {s : Nat} {l : List VV} {fo : Nat} {K : VV → Prop} : wAgg (some true) (some s) l fo K = ((fo + s ≤ l.length ∧ 0 < s) ∧ K (.agg (seg l fo s))) := rfl
theorem m2z {s : Option Nat} {l : List VV} {fo : Nat} {K : VV → Prop} : wAgg (some false) s l fo K = vWith (nth l fo) K := rfl
theorem m30 {o : Bool} {ty : TypeId} {l : List VV} {idx sz : Nat} {K : List VV → Prop} : vCont (.cells o ty l) idx sz K = (idx = 0 ∧ K l) := rfl
theorem m31 {s n : Nat} {el : Nat → List VV} {idx sz : Nat} {K : List VV → Prop} : vCont (.row s n el) idx sz K = (sz = s ∧ idx < n ∧ K (el idx)) := rfl
theorem m32 {ty s n cap : Nat} {el : Nat → List VV} {idx sz : Nat} {K : List VV → Prop} : vCont (.own ty s n cap el) idx sz K = (sz = s ∧ idx < n ∧ K (el idx)) := rfl
theorem m33 {t : TypeId} {id idx sz fo : Nat} {h : List Blk} {K : VV → List Blk → Prop} : vLoad P t (.ptr id idx sz fo) h K = wOpt (nth h id) fun b => vCont b idx sz fun l => vTake P t l fo fun v => K v h := by simp only [vLoad]; cases nth h id <;> rfl
def wSt (b : Blk) (n : Option Nat) (id idx sz fo : Nat) (v : VV) (h : List Blk) (K : VV → List Blk → Prop) : Prop :=
  match b with
  | .cells true ty l => (idx = 0 ∧ n = some (cellsV v).length ∧ fo + (cellsV v).length ≤ l.length ∧ (cellsV v).all oneV = true ∧ vStore.isTup v = false) ∧ K (.tup []) (lset h id (.cells true ty (splice l fo (cellsV v))))
  | .own ty sz' n' cap el => (sz = sz' ∧ idx < n' ∧ n = some (cellsV v).length ∧ fo + (cellsV v).length ≤ sz' ∧ (cellsV v).all oneV = true ∧ vStore.isTup v = false) ∧ K (.tup []) (lset h id (.own ty sz' n' cap fun j => if j = idx then splice (el idx) fo (cellsV v) else el j))
  | _ => False
theorem m34 {t : TypeId} {p : Nat × Nat} {idx sz fo n : Nat} {el : Nat → List VV} {h : List Blk} {K : VV → List Blk → Prop} : vLoad P t (.rp p idx sz fo n el) h K = vTake P t (el idx) fo fun v => K v h := rfl
theorem m35 {t : TypeId} {id idx sz fo : Nat} {v : VV} {h : List Blk} {K : VV → List Blk → Prop} : vStore P t (.ptr id idx sz fo) v h K = wOpt (nth h id) fun b => wSt b (tsz P t) id idx sz fo v h K := by simp only [vStore]; cases nth h id with | none => rfl | some b => cases b with | cells o ty l => cases o <;> rfl | _ => rfl
theorem m36 {n : Option Nat} {ty : TypeId} {l : List VV} {id idx sz fo : Nat} {v : VV} {h : List Blk} {K : VV → List Blk → Prop} : wSt (.cells true ty l) n id idx sz fo v h K = ((idx = 0 ∧ n = some (cellsV v).length ∧ fo + (cellsV v).length ≤ l.length ∧ (cellsV v).all oneV = true ∧ vStore.isTup v = false) ∧ K (.tup []) (lset h id (.cells true ty (splice l fo (cellsV v))))) := rfl
theorem m37 {n : Option Nat} {ty sz' n' cap : Nat} {el : Nat → List VV} {id idx sz fo : Nat} {v : VV} {h : List Blk} {K : VV → List Blk → Prop} : wSt (.own ty sz' n' cap el) n id idx sz fo v h K = ((sz = sz' ∧ idx < n' ∧ n = some (cellsV v).length ∧ fo + (cellsV v).length ≤ sz' ∧ (cellsV v).all oneV = true ∧ vStore.isTup v = false) ∧ K (.tup []) (lset h id (.own ty sz' n' cap fun j => if j = idx then splice (el idx) fo (cellsV v) else el j))) := rfl
theorem m38 {t : TypeId} {l : List VV} {h : List Blk} {K : VV → List Blk → Prop} : vNew t l h K = (l.all oneV = true ∧ K (.ptr h.length 0 0 0) (h ++ [.cells true t l])) := rfl
theorem m39 {t : TypeId} {h : List Blk} {K : VV → List Blk → Prop} : vAlloc P t h K = wOpt (tzero P t) fun l => vNew t l h K := by simp only [vAlloc]; cases tzero P t <;> rfl
theorem m3a {t : TypeId} {v : VV} {h : List Blk} {K : VV → List Blk → Prop} : vBox t v h K = (vStore.isTup v = false ∧ vNew t (cellsV v) h K) := rfl
theorem m3b {id idx sz : Nat} {h : List Blk} : vAt id idx sz h = wOpt (nth h id) fun b => vCont b idx sz fun l => 0 < l.length := by simp only [vAt]; cases nth h id <;> rfl
theorem m3c {s : TypeId} {id idx sz fo f : Nat} {h : List Blk} {K : VV → List Blk → Prop} : vFieldAddr P s (.ptr id idx sz fo) f h K = wOpt (tfld P s f) fun x => (0 < x.2.2 ∧ vAt id idx sz h) ∧ K (.ptr id idx sz (fo + x.1)) h := by simp only [vFieldAddr]; cases tfld P s f <;> rfl
theorem m3d {s : TypeId} {p : Nat × Nat} {idx sz fo n f : Nat} {el : Nat → List VV} {h : List Blk} {K : VV → List Blk → Prop} : vFieldAddr P s (.rp p idx sz fo n el) f h K = wOpt (tfld P s f) fun x => 0 < x.2.2 ∧ K (.rp p idx sz (fo + x.1) n el) h := by simp only [vFieldAddr]; cases tfld P s f <;> rfl
theorem m3e {t : TypeId} {p : Option (Nat × Nat)} {sz n c : Nat} {el : Nat → List VV} {k : IntKind} {i : Int} {h : List Blk} {K : VV → List Blk → Prop} : vIndexAddr P t (.ro p sz n c el) (.int k i) h K = wOpt (tsl P t) fun q => q.2 = sz ∧ (0 ≤ i ∧ i < n) ∧ K (.rp (p.getD (0, 0)) i.toNat sz 0 n el) h := by simp only [vIndexAddr]; cases tsl P t <;> rfl
theorem m3f {t : TypeId} {id idx sz fo esz n c : Nat} {k : IntKind} {i : Int} {h : List Blk} {K : VV → List Blk → Prop} : vIndexAddr P t (.asl id idx sz fo esz n c) (.int k i) h K = wOpt (tsl P t) fun q => q.2 = esz ∧ (0 ≤ i ∧ i < n) ∧ vAt id idx sz h ∧ K (.ptr id idx sz (fo + i.toNat * esz)) h := by simp only [vIndexAddr]; cases tsl P t <;> rfl
theorem m3g {t : TypeId} {p : Nat × Nat} {idx sz fo n : Nat} {el : Nat → List VV} {k : IntKind} {i : Int} {h : List Blk} {K : VV → List Blk → Prop} : vIndexAddr P t (.rp p idx sz fo n el) (.int k i) h K = wOpt (tarr P t) fun q => (0 ≤ i ∧ i < q.1) ∧ K (.rp p idx sz (fo + i.toNat * q.2.2) n el) h := by simp only [vIndexAddr]; cases tarr P t <;> rfl
theorem m3h {t : TypeId} {id len cap : Nat} {k : IntKind} {i : Int} {h : List Blk} {K : VV → List Blk → Prop} : vIndexAddr P t (.slice id len cap) (.int k i) h K = wOpt (tsl P t) fun p => wOpt (nth h id) fun b => (0 ≤ i ∧ i < len) ∧ vCont b i.toNat p.2 (fun l => 0 < l.length) ∧ K (.ptr id i.toNat p.2 0) h := by simp only [vIndexAddr]; cases tsl P t <;> cases nth h id <;> rfl
theorem m3i {t : TypeId} {id idx sz fo : Nat} {k : IntKind} {i : Int} {h : List Blk} {K : VV → List Blk → Prop} : vIndexAddr P t (.ptr id idx sz fo) (.int k i) h K = wOpt (tarr P t) fun p => (0 ≤ i ∧ i < p.1) ∧ vAt id idx sz h ∧ K (.ptr id idx sz (fo + i.toNat * p.2.2)) h := by simp only [vIndexAddr]; cases tarr P t <;> rfl
theorem m3j {id idx sz fo : Nat} {h : List Blk} {K : VV → List Blk → Prop} : vNilCheck (.ptr id idx sz fo) h K = (vAt id idx sz h ∧ K (.ptr id idx sz fo) h) := rfl
theorem m3k {p : Nat × Nat} {idx sz fo n : Nat} {el : Nat → List VV} {h : List Blk} {K : VV → List Blk → Prop} : vNilCheck (.rp p idx sz fo n el) h K = K (.rp p idx sz fo n el) h := rfl
theorem m3l {f : FuncId} {a c : List VV} {h : List Blk} {K : VV → List Blk → Prop} : vNilCheck (.func f a c) h K = K (.func f a c) h := rfl
theorem m3m {t : TypeId} {l : List VV} {f : Nat} {h : List Blk} {K : VV → List Blk → Prop} : vField P t (.agg l) f h K = wOpt (tfld P t f) fun x => vTake P x.2.1 l x.1 fun v => K v h := by simp only [vField]; cases tfld P t f <;> rfl
theorem m3n {t : TypeId} {l : List VV} {k : IntKind} {i : Int} {h : List Blk} {K : VV → List Blk → Prop} : vIndex P t (.agg l) (.int k i) h K = wOpt (tarr P t) fun p => (0 ≤ i ∧ i < p.1) ∧ vTake P p.2.1 l (i.toNat * p.2.2) fun v => K v h := by simp only [vIndex]; cases tarr P t <;> rfl
theorem m3o {l : List VV} {i : Nat} {h : List Blk} {K : VV → List Blk → Prop} : vExtract (.tup l) i h K = vWith (nth l i) fun v => K v h := by simp only [vExtract]; cases nth l i <;> rfl
def wFill (place : Nat → Option (Nat × Nat)) (x : Option (Nat × Nat)) (l : List VV) (v : VV) (rest : List (Nat × VV)) : Option (List VV) :=
  match x with
  | none => none
  | some (off, size) => if (cellsV v).length = size ∧ off + size ≤ l.length ∧ vStore.isTup v = false ∧ (cellsV v).all oneV = true then vfill place (splice l off (cellsV v)) rest else none
theorem m3p {place : Nat → Option (Nat × Nat)} {l : List VV} : vfill place l [] = some l := rfl
theorem m3q {place : Nat → Option (Nat × Nat)} {l : List VV} {i : Nat} {v : VV} {rest : List (Nat × VV)} : vfill place l ((i, v) :: rest) = wFill place (place i) l v rest := by rw [vfill]; rfl
theorem m3r {place : Nat → Option (Nat × Nat)} {off size : Nat} {l : List VV} {v : VV} {rest : List (Nat × VV)} : wFill place (some (off, size)) l v rest = if (cellsV v).length = size ∧ off + size ≤ l.length ∧ vStore.isTup v = false ∧ (cellsV v).all oneV = true then vfill place (splice l off (cellsV v)) rest else none := rfl
def wBuild (pl : Option (List (Nat × Nat))) (a : Option (Nat × TypeId × Nat)) (z : List VV) (ps : List (Nat × VV)) (F : List VV → Prop) : Prop :=
  match pl, a with
  | some pl, _ => wOpt (vfill (fun i => nth pl i) z ps) F
  | none, some p => wOpt (vfill (fun i => some (i * p.2.2, p.2.2)) z ps) F
  | none, none => False
theorem m3s {t : TypeId} {ps : Option (List (Nat × VV))} {h : List Blk} {K : VV → List Blk → Prop} : vBuild P t ps h K = wOpt ps fun ps => wOpt (tzero P t) fun z => z.all oneV = true ∧ wBuild (tplaces P t) (tarr P t) z ps fun l => K (.agg l) h := by
  unfold vBuild wBuild
  cases ps with
  | none => cases tzero P t <;> rfl
  | some ps => cases tzero P t with
    | none => rfl
    | some z =>
      refine congrArg (And _) ?_
      cases tplaces P t with
      | some pl =>
        show (match vfill (fun i => nth pl i) z ps with | some l => K (.agg l) h | none => False) = wOpt (vfill (fun i => nth pl i) z ps) _
        cases vfill (fun i => nth pl i) z ps <;> rfl
      | none => cases tarr P t with
        | none => rfl
        | some p =>
          obtain ⟨n, e, s⟩ := p
          show (match vfill (fun i => some (i * s, s)) z ps with | some l => K (.agg l) h | none => False) = wOpt (vfill (fun i => some (i * s, s)) z ps) _
          cases vfill (fun i => some (i * s, s)) z ps <;> rfl
theorem m3t {pl : List (Nat × Nat)} {a : Option (Nat × TypeId × Nat)} {z : List VV} {ps : List (Nat × VV)} {F : List VV → Prop} : wBuild (some pl) a z ps F = wOpt (vfill (fun i => nth pl i) z ps) F := rfl
theorem m3u {p : Nat × TypeId × Nat} {z : List VV} {ps : List (Nat × VV)} {F : List VV → Prop} : wBuild none (some p) z ps F = wOpt (vfill (fun i => some (i * p.2.2, p.2.2)) z ps) F := rfl
theorem m3v {t : TypeId} {len : Nat} {ps : Option (List (Nat × VV))} {h : List Blk} {K : VV → List Blk → Prop} : vBuildSlice P t len ps h K = wOpt ps fun ps => wOpt (tsl P t) fun p => wOpt (tzero P p.1) fun z => (z.all oneV = true ∧ z.length = p.2 ∧ 0 < p.2 ∧ len * p.2 ≤ 16777216) ∧ wOpt (vfill (fun i => some (i * p.2, p.2)) (rep z len) ps) fun l => K (.slice h.length len len) (h ++ [.own p.1 p.2 len len (chunk p.2 l)]) := by unfold vBuildSlice; cases ps with | none => rfl | some ps => cases tsl P t with | none => rfl | some p => obtain ⟨e, s⟩ := p; simp only []; show (match tzero P e with | some z => _ | none => False) = wOpt (tzero P e) _; cases tzero P e with | none => rfl | some z => (refine congrArg (And _) ?_; show _ = wOpt (vfill (fun i => some (i * s, s)) (rep z len) ps) _; cases vfill (fun i => some (i * s, s)) (rep z len) ps <;> rfl)
def wSl (s : Nat) (x : VV) (lo hi mx : Option (Option VV)) (h : List Blk) (K : VV → List Blk → Prop) : Prop :=
  match x with
  | .slice id len cap => wOpt (vInt lo 0) fun l => wOpt (vInt hi len) fun e => wOpt (vInt mx cap) fun m => wOpt (nth h id) fun b =>
    (0 ≤ l ∧ l ≤ e ∧ e ≤ m ∧ m ≤ cap) ∧ (mx.isSome = true → hi.isSome = true) ∧ wOpt (vView b l.toNat (e.toNat - l.toNat)) fun q => wOpt (vSlice.vEl b) fun s' => (e.toNat ≤ q.1 ∧ s' = s) ∧ K (.slice h.length (e.toNat - l.toNat) (m.toNat - l.toNat)) (lset h id b.deg ++ [q.2])
  | .nilSlice => wOpt (vInt lo 0) fun l => wOpt (vInt hi 0) fun e => wOpt (vInt mx 0) fun m => (l = 0 ∧ e = 0 ∧ m = 0) ∧ (mx.isSome = true → hi.isSome = true) ∧ K .nilSlice h
  | _ => False
def wNone {α : Type} (x : Option α) (A : Prop) : Prop :=
  match x with
  | none => A
  | some _ => False
theorem m3w {α : Type} {A : Prop} : wNone (none : Option α) A = A := rfl
theorem m3x {t : TypeId} {id len cap : Nat} {lo hi mx : Option (Option VV)} {h : List Blk} {K : VV → List Blk → Prop} : vSlice P t (.slice id len cap) lo hi mx h K = wOpt (tsl P t) fun p => wSl p.2 (.slice id len cap) lo hi mx h K := by
  unfold vSlice wSl
  cases tsl P t with
  | none => rfl
  | some p =>
    obtain ⟨e, s⟩ := p
    show (match vInt lo 0, vInt hi len, vInt mx cap, nth h id with | some l, some e, some m, some b => _ | _, _, _, _ => False) = wOpt (vInt lo 0) _
    cases vInt lo 0 with
    | none => rfl
    | some l => cases vInt hi len with
      | none => rfl
      | some e => cases vInt mx cap with
        | none => rfl
        | some m => cases nth h id with
          | none => rfl
          | some b => cases b <;> rfl
theorem m3y {t : TypeId} {lo hi mx : Option (Option VV)} {h : List Blk} {K : VV → List Blk → Prop} : vSlice P t .nilSlice lo hi mx h K = wOpt (tsl P t) fun p => wSl p.2 .nilSlice lo hi mx h K := by
  unfold vSlice wSl
  cases tsl P t with
  | none => rfl
  | some p =>
    show (match vInt lo 0, vInt hi 0, vInt mx 0 with | some l, some e, some m => _ | _, _, _ => False) = wOpt (vInt lo 0) _
    cases vInt lo 0 with
    | none => rfl
    | some l => cases vInt hi 0 with
      | none => rfl
      | some e => cases vInt mx 0 <;> rfl
theorem m3z {t : TypeId} {p : Option (Nat × Nat)} {sz n cap : Nat} {el : Nat → List VV} {lo hi mx : Option (Option VV)} {h : List Blk} {K : VV → List Blk → Prop} : vSlice P t (.ro p sz n cap el) lo hi mx h K = wOpt (tsl P t) fun q => wOpt (vInt lo 0) fun l => wOpt (vInt hi n) fun e => wOpt (vInt mx cap) fun m => (0 ≤ l ∧ l ≤ e ∧ e ≤ m ∧ m ≤ cap) ∧ (mx.isSome = true → hi.isSome = true) ∧ (e.toNat ≤ n ∧ q.2 = sz) ∧ K (.ro (roOff p l.toNat m.toNat sz) sz (e.toNat - l.toNat) (m.toNat - l.toNat) fun j => el (l.toNat + j)) h := by
  unfold vSlice
  cases tsl P t with
  | none => rfl
  | some q =>
    show (match vInt lo 0, vInt hi n, vInt mx cap with | some l, some e, some m => _ | _, _, _ => False) = wOpt (vInt lo 0) _
    cases vInt lo 0 with
    | none => rfl
    | some l => cases vInt hi n with
      | none => rfl
      | some e => cases vInt mx cap <;> rfl
theorem m40 {t : TypeId} {id idx sz fo : Nat} {lo hi mx : Option (Option VV)} {h : List Blk} {K : VV → List Blk → Prop} : vSlice P t (.ptr id idx sz fo) lo hi mx h K = wNone (tsl P t) (wOpt (tarr P t) fun q => (lo.isNone = true ∧ hi.isNone = true ∧ mx.isNone = true) ∧ vAt id idx sz h ∧ K (.asl id idx sz fo q.2.2 q.1 q.1) h) := by unfold vSlice; cases tsl P t with | some q => rfl | none => (show (match tarr P t with | some (n, _, s) => _ | none => False) = wOpt (tarr P t) _; cases tarr P t <;> rfl)
theorem m41 {s id len cap : Nat} {lo hi mx : Option (Option VV)} {h : List Blk} {K : VV → List Blk → Prop} : wSl s (.slice id len cap) lo hi mx h K = wOpt (vInt lo 0) fun l => wOpt (vInt hi len) fun e => wOpt (vInt mx cap) fun m => wOpt (nth h id) fun b => (0 ≤ l ∧ l ≤ e ∧ e ≤ m ∧ m ≤ cap) ∧ (mx.isSome = true → hi.isSome = true) ∧ wOpt (vView b l.toNat (e.toNat - l.toNat)) fun q => wOpt (vSlice.vEl b) fun s' => (e.toNat ≤ q.1 ∧ s' = s) ∧ K (.slice h.length (e.toNat - l.toNat) (m.toNat - l.toNat)) (lset h id b.deg ++ [q.2]) := rfl
theorem m42 {s : Nat} {lo hi mx : Option (Option VV)} {h : List Blk} {K : VV → List Blk → Prop} : wSl s .nilSlice lo hi mx h K = wOpt (vInt lo 0) fun l => wOpt (vInt hi 0) fun e => wOpt (vInt mx 0) fun m => (l = 0 ∧ e = 0 ∧ m = 0) ∧ (mx.isSome = true → hi.isSome = true) ∧ K .nilSlice h := rfl
theorem m43 {d : Nat} : vInt none d = some (d : Int) := rfl
theorem m44 {k : IntKind} {i : Int} {d : Nat} : vInt (some (some (.int k i))) d = some i := rfl
theorem m45 {e : Operand → Option VV} : optV e none = none := rfl
theorem m46 {e : Operand → Option VV} {x : Operand} : optV e (some x) = some (e x) := rfl
theorem m47 {s m l n : Nat} {el : Nat → List VV} : vView (.row s m el) l n = some (m, .row s n fun j => el (l + j)) := rfl
theorem m48 {ty s m cap l n : Nat} {el : Nat → List VV} : vView (.own ty s m cap el) l n = some (m, .row s n fun j => el (l + j)) := rfl
theorem m49 {s m : Nat} {el : Nat → List VV} : vSlice.vEl (.row s m el) = some s := rfl
theorem m4a {ty s m cap : Nat} {el : Nat → List VV} : vSlice.vEl (.own ty s m cap el) = some s := rfl
theorem m4b {t : TypeId} {k : IntKind} {x y : Int} {K : VV → Prop} : vBin P .add t (.int k x) (.int k y) K = K (.int k (k.wrap (x + y))) := propext ⟨fun h => h.2, fun h => ⟨rfl, h⟩⟩
theorem m4c {t : TypeId} {k : IntKind} {x y : Int} {K : VV → Prop} : vBin P .sub t (.int k x) (.int k y) K = K (.int k (k.wrap (x - y))) := propext ⟨fun h => h.2, fun h => ⟨rfl, h⟩⟩
theorem m4d {t : TypeId} {k : IntKind} {x y : Int} {K : VV → Prop} : vBin P .mul t (.int k x) (.int k y) K = K (.int k (k.wrap (x * y))) := propext ⟨fun h => h.2, fun h => ⟨rfl, h⟩⟩
theorem m4e {t : TypeId} {k : IntKind} {x y : Int} {K : VV → Prop} : vBin P .and t (.int k x) (.int k y) K = K (.int k (bitsI .and k x y)) := propext ⟨fun h => h.2, fun h => ⟨rfl, h⟩⟩
theorem m4f {t : TypeId} {k : IntKind} {x y : Int} {K : VV → Prop} : vBin P .or t (.int k x) (.int k y) K = K (.int k (bitsI .or k x y)) := propext ⟨fun h => h.2, fun h => ⟨rfl, h⟩⟩
theorem m4g {t : TypeId} {k : IntKind} {x y : Int} {K : VV → Prop} : vBin P .xor t (.int k x) (.int k y) K = K (.int k (bitsI .xor k x y)) := propext ⟨fun h => h.2, fun h => ⟨rfl, h⟩⟩
theorem m4h {t : TypeId} {k : IntKind} {x y : Int} {K : VV → Prop} : vBin P .eql t (.int k x) (.int k y) K = K (.bool (x == y)) := propext ⟨fun h => h.2, fun h => ⟨rfl, h⟩⟩
theorem m4i {t : TypeId} {k : IntKind} {x y : Int} {K : VV → Prop} : vBin P .neq t (.int k x) (.int k y) K = K (.bool (x != y)) := propext ⟨fun h => h.2, fun h => ⟨rfl, h⟩⟩
theorem m4j {t : TypeId} {k : IntKind} {x y : Int} {K : VV → Prop} : vBin P .lss t (.int k x) (.int k y) K = K (.bool (decide (x < y))) := propext ⟨fun h => h.2, fun h => ⟨rfl, h⟩⟩
theorem m4k {t : TypeId} {k : IntKind} {x y : Int} {K : VV → Prop} : vBin P .leq t (.int k x) (.int k y) K = K (.bool (decide (x ≤ y))) := propext ⟨fun h => h.2, fun h => ⟨rfl, h⟩⟩
theorem m4l {t : TypeId} {k : IntKind} {x y : Int} {K : VV → Prop} : vBin P .gtr t (.int k x) (.int k y) K = K (.bool (decide (x > y))) := propext ⟨fun h => h.2, fun h => ⟨rfl, h⟩⟩
theorem m4m {t : TypeId} {k : IntKind} {x y : Int} {K : VV → Prop} : vBin P .geq t (.int k x) (.int k y) K = K (.bool (decide (x ≥ y))) := propext ⟨fun h => h.2, fun h => ⟨rfl, h⟩⟩
theorem m4n {t : TypeId} {k : IntKind} {x y : Int} {K : VV → Prop} : vBin P .quo t (.int k x) (.int k y) K = (y ≠ 0 ∧ K (.int k (k.wrap (x.tdiv y)))) := propext ⟨fun h => ⟨h.1.2, h.2⟩, fun h => ⟨⟨rfl, h.1⟩, h.2⟩⟩
theorem m4o {t : TypeId} {k : IntKind} {x y : Int} {K : VV → Prop} : vBin P .rem t (.int k x) (.int k y) K = (y ≠ 0 ∧ K (.int k (x.tmod y))) := propext ⟨fun h => ⟨h.1.2, h.2⟩, fun h => ⟨⟨rfl, h.1⟩, h.2⟩⟩
theorem m4p {t : TypeId} {k k2 : IntKind} {x y : Int} {K : VV → Prop} : vBin P .shl t (.int k x) (.int k2 y) K = (0 ≤ y ∧ K (.int k (shlI k x y))) := rfl
theorem m4q {t : TypeId} {k k2 : IntKind} {x y : Int} {K : VV → Prop} : vBin P .shr t (.int k x) (.int k2 y) K = (0 ≤ y ∧ K (.int k (shrI k x y))) := rfl
theorem m4r {t : TypeId} {x y : Bool} {K : VV → Prop} : vBin P .eql t (.bool x) (.bool y) K = (P.underlying t = some .bool ∧ K (.bool (x == y))) := rfl
theorem m4s {t : TypeId} {x y : Bool} {K : VV → Prop} : vBin P .neq t (.bool x) (.bool y) K = (P.underlying t = some .bool ∧ K (.bool (x != y))) := rfl
theorem m4t {t : TypeId} {x y : List VV} {K : VV → Prop} : vBin P .eql t (.agg x) (.agg y) K = (EqOK P t x y ∧ K (.bool (eqL x y))) := rfl
theorem m4u {t : TypeId} {x y : List VV} {K : VV → Prop} : vBin P .neq t (.agg x) (.agg y) K = (EqOK P t x y ∧ K (.bool (!eqL x y))) := rfl
theorem m4v {t : TypeId} {x y : ByteArray} {K : VV → Prop} : vBin P .eql t (.str x) (.str y) K = K (.bool (x == y)) := rfl
theorem m4w {t : TypeId} {x y : ByteArray} {K : VV → Prop} : vBin P .neq t (.str x) (.str y) K = K (.bool (x != y)) := rfl
theorem m4x {b : Bool} {K : VV → Prop} : vUn .not (.bool b) K = K (.bool (!b)) := rfl
theorem m4y {k : IntKind} {n : Int} {K : VV → Prop} : vUn .xor (.int k n) K = K (.int k (bitsI .xor k (if k.signed then -1 else k.max) n)) := rfl
theorem m4z {k : IntKind} {n : Int} {K : VV → Prop} : vUn .neg (.int k n) K = K (.int k (k.wrap (0 - n))) := rfl
theorem m50 {k : IntKind} {x : Int} {b : VV} {op : BinOp} {t : TypeId} {h : List Blk} {K : VV → List Blk → Prop} : vBinH P op t (.int k x) b h K = vBin P op t (.int k x) b fun v => K v h := rfl
theorem m51 {x : Bool} {b : VV} {op : BinOp} {t : TypeId} {h : List Blk} {K : VV → List Blk → Prop} : vBinH P op t (.bool x) b h K = vBin P op t (.bool x) b fun v => K v h := rfl
theorem m52 {x : List VV} {b : VV} {op : BinOp} {t : TypeId} {h : List Blk} {K : VV → List Blk → Prop} : vBinH P op t (.agg x) b h K = vBin P op t (.agg x) b fun v => K v h := rfl
theorem m53 {x : ByteArray} {b : VV} {op : BinOp} {t : TypeId} {h : List Blk} {K : VV → List Blk → Prop} : vBinH P op t (.str x) b h K = vBin P op t (.str x) b fun v => K v h := rfl
theorem m54 {id idx sz fo : Nat} {op : BinOp} {t : TypeId} {h : List Blk} {K : VV → List Blk → Prop} : vBinH P op t (.ptr id idx sz fo) .nilPtr h K = ((tptr P t = true ∧ vAt id idx sz h) ∧ vNe op false fun v => K v h) := rfl
theorem m55 {id idx sz fo : Nat} {op : BinOp} {t : TypeId} {h : List Blk} {K : VV → List Blk → Prop} : vBinH P op t .nilPtr (.ptr id idx sz fo) h K = ((tptr P t = true ∧ vAt id idx sz h) ∧ vNe op false fun v => K v h) := rfl
theorem m56 {p : Nat × Nat} {idx sz fo n : Nat} {el : Nat → List VV} {op : BinOp} {t : TypeId} {h : List Blk} {K : VV → List Blk → Prop} : vBinH P op t (.rp p idx sz fo n el) .nilPtr h K = (tptr P t = true ∧ vNe op false fun v => K v h) := rfl
theorem m57 {op : BinOp} {t : TypeId} {h : List Blk} {K : VV → List Blk → Prop} : vBinH P op t .nilPtr .nilPtr h K = (tptr P t = true ∧ vNe op true fun v => K v h) := rfl
theorem m58 {f : FuncId} {a c : List VV} {op : BinOp} {t : TypeId} {h : List Blk} {K : VV → List Blk → Prop} : vBinH P op t (.func f a c) .nilFunc h K = (tfun P t = true ∧ vNe op false fun v => K v h) := rfl
theorem m59 {op : BinOp} {t : TypeId} {h : List Blk} {K : VV → List Blk → Prop} : vBinH P op t .nilFunc .nilFunc h K = (tfun P t = true ∧ vNe op true fun v => K v h) := rfl
theorem m5a {b : Bool} {K : VV → Prop} : vNe .eql b K = K (.bool b) := rfl
theorem m5b {b : Bool} {K : VV → Prop} : vNe .neq b K = K (.bool (!b)) := rfl
theorem m5c {k : IntKind} {n : Int} {s e : TypeId} {h : List Blk} {K : VV → List Blk → Prop} : vConvH P s e (.int k n) h K = vConv P s e (.int k n) fun v => K v h := rfl
theorem m5d {id n c : Nat} {s e : TypeId} {h : List Blk} {K : VV → List Blk → Prop} : vConvH P s e (.slice id n c) h K = vStr P s e (.slice id n c) h K := rfl
theorem m5e {s e : TypeId} {h : List Blk} {K : VV → List Blk → Prop} : vConvH P s e .nilSlice h K = vStr P s e .nilSlice h K := rfl
theorem m5f {p : Option (Nat × Nat)} {sz n c : Nat} {el : Nat → List VV} {s e : TypeId} {h : List Blk} {K : VV → List Blk → Prop} : vConvH P s e (.ro p sz n c el) h K = vStr P s e (.ro p sz n c el) h K := rfl
theorem m5g {x : VV} {s e : TypeId} {h : List Blk} {K : VV → List Blk → Prop} : vStr P s e x h K = ((tstr P e = true ∧ tbytes P s = true) ∧ vSrc x h 1 fun n el => (∀ j, j < n → isByte (el j) = true) ∧ K (.str (bytesOf n el)) h) := rfl
theorem m5h {v : Int} : isByte [.int .u8 v] = true := rfl
theorem m5i {t : TypeId} {kl kc : IntKind} {l c : Int} {h : List Blk} {K : VV → List Blk → Prop} : vMake P t (.int kl l) (.int kc c) h K = wOpt (tapp P t) fun p => wOpt (tsl P t) fun _ => wOpt (tzero P p.1) fun z => (0 ≤ l ∧ l ≤ c ∧ c.toNat * p.2.2 ≤ 281474976710656 ∧ c.toNat ≤ maxI ∧ z.length = p.2.1 ∧ z.all oneV = true) ∧ K (.slice h.length l.toNat c.toNat) (h ++ [.own p.1 p.2.1 l.toNat c.toNat fun _ => z]) := by unfold vMake; cases tapp P t with | none => rfl | some p => (obtain ⟨e, sz, b⟩ := p; cases tsl P t with | none => rfl | some q => (show (match tzero P e with | some z => _ | none => False) = wOpt (tzero P e) _; cases tzero P e <;> rfl))
theorem m5j {t : TypeId} {id idx sz0 fo esz n c : Nat} {x : VV} {h : List Blk} {K : VV → List Blk → Prop} : vCopy P t (.asl id idx sz0 fo esz n c) x h K = wOpt (tsl P t) fun p => p.2 = esz ∧ 0 < p.2 ∧ vSrc x h esz fun m el => wOpt (nth h id) fun b => vCopyB b id idx fo esz n m el h K := by unfold vCopy; cases tsl P t with | none => rfl | some p => (refine congrArg (And _) (congrArg (And _) (congrArg (vSrc x h esz) (funext fun m => funext fun el => ?_))); cases nth h id <;> rfl)
theorem m5k {ty id idx fo esz n m : Nat} {l : List VV} {el : Nat → List VV} {h : List Blk} {K : VV → List Blk → Prop} : vCopyB (.cells true ty l) id idx fo esz n m el h K = ((idx = 0 ∧ fo + n * esz ≤ l.length ∧ 0 < l.length) ∧ K (.int .i64 ((min m n : Nat) : Int)) (lset h id (.cells true ty (splice l fo (flat (min m n) el))))) := rfl
theorem m5l {el : Nat → List VV} : flat 0 el = [] := rfl
theorem m5m {n : Nat} {el : Nat → List VV} : flat (n + 1) el = flat n el ++ el n := by simp [flat, List.range_succ]
theorem m5n {s e : TypeId} {k : IntKind} {n : Int} {K : VV → Prop} : vConv P s e (.int k n) K = wOpt (tint P e) fun k' => (P.underlying s).isSome = true ∧ K (.int k' (k'.wrap n)) := by simp only [vConv]; cases tint P e <;> rfl
theorem m5o {t : TypeId} {id n c : Nat} {h : List Blk} {K : VV → List Blk → Prop} : vLen P t (.slice id n c) h K = ((tsl P t).isSome = true ∧ K (.int .i64 n) h) := rfl
theorem m5p {t : TypeId} {p : Option (Nat × Nat)} {s n c : Nat} {el : Nat → List VV} {h : List Blk} {K : VV → List Blk → Prop} : vLen P t (.ro p s n c el) h K = ((tsl P t).isSome = true ∧ K (.int .i64 n) h) := rfl
theorem m5q {t : TypeId} {id idx sz fo esz n c : Nat} {h : List Blk} {K : VV → List Blk → Prop} : vLen P t (.asl id idx sz fo esz n c) h K = ((tsl P t).isSome = true ∧ K (.int .i64 n) h) := rfl
theorem m5r {t : TypeId} {h : List Blk} {K : VV → List Blk → Prop} : vLen P t .nilSlice h K = ((tsl P t).isSome = true ∧ K (.int .i64 0) h) := rfl
theorem m5s {t : TypeId} {s : ByteArray} {h : List Blk} {K : VV → List Blk → Prop} : vLen P t (.str s) h K = (P.underlying t = some .string ∧ K (.int .i64 s.size) h) := rfl
def wSrc (b : Blk) (m sz : Nat) (K : Nat → (Nat → List VV) → Prop) : Prop :=
  match b with
  | .row s n el => (s = sz ∧ n = m) ∧ K m el
  | .own _ s n _ el => (s = sz ∧ n = m) ∧ K m el
  | _ => False
theorem m5t {p : Option (Nat × Nat)} {s n c : Nat} {el : Nat → List VV} {h : List Blk} {sz : Nat} {K : Nat → (Nat → List VV) → Prop} : vSrc (.ro p s n c el) h sz K = (s = sz ∧ K n el) := rfl
theorem m5u {id idx sz0 fo esz n c : Nat} {h : List Blk} {sz : Nat} {K : Nat → (Nat → List VV) → Prop} : vSrc (.asl id idx sz0 fo esz n c) h sz K = wOpt (nth h id) fun b => vCont b idx sz0 fun l => (esz = sz ∧ fo + n * esz ≤ l.length ∧ 0 < l.length ∧ n ≤ maxI) ∧ K n fun j => seg l (fo + j * esz) esz := by simp only [vSrc]; cases nth h id <;> rfl
theorem m5v {h : List Blk} {sz : Nat} {K : Nat → (Nat → List VV) → Prop} : vSrc .nilSlice h sz K = K 0 fun _ => [] := rfl
theorem m5w {id m c : Nat} {h : List Blk} {sz : Nat} {K : Nat → (Nat → List VV) → Prop} : vSrc (.slice id m c) h sz K = wOpt (nth h id) fun b => wSrc b m sz K := by simp only [vSrc]; cases nth h id with | none => rfl | some b => cases b <;> rfl
theorem m5x {s n m sz : Nat} {el : Nat → List VV} {K : Nat → (Nat → List VV) → Prop} : wSrc (.row s n el) m sz K = ((s = sz ∧ n = m) ∧ K m el) := rfl
theorem m5y {ty s n c m sz : Nat} {el : Nat → List VV} {K : Nat → (Nat → List VV) → Prop} : wSrc (.own ty s n c el) m sz K = ((s = sz ∧ n = m) ∧ K m el) := rfl
def wApB (b : Blk) (e sz bytes id n cap : Nat) (h : List Blk) (m : Nat) (elx : Nat → List VV) (K : VV → List Blk → Prop) : Prop :=
  match b with
  | .own e' sz' n' cap0 el => (e' = e ∧ sz' = sz ∧ n' = n ∧ cap0 = cap ∧ (n + m) * bytes ≤ 140737488355328 ∧ n + m ≤ maxI) ∧ ∀ cap', n + m ≤ cap' → cap' ≤ maxI → K (.slice h.length (n + m) cap') (lset h id .gone ++ [.own e sz (n + m) cap' (elApp n el elx)])
  | .row sz' n' el => (sz' = sz ∧ n' = n ∧ cap < n + m ∧ (n + m) * bytes ≤ 140737488355328 ∧ n + m ≤ maxI) ∧ ∀ cap', n + m ≤ cap' → cap' ≤ maxI → K (.slice h.length (n + m) cap') (h ++ [.own e sz (n + m) cap' (elApp n el elx)])
  | _ => False
def wAp (e sz bytes : Nat) (s : VV) (h : List Blk) (m : Nat) (elx : Nat → List VV) (K : VV → List Blk → Prop) : Prop :=
  match s with
  | .nilSlice => m * bytes ≤ 140737488355328 ∧ m ≤ maxI ∧ ∀ cap', m ≤ cap' → cap' ≤ maxI → K (.slice h.length m cap') (h ++ [.own e sz m cap' elx])
  | .slice id n cap => wOpt (nth h id) fun b => wApB b e sz bytes id n cap h m elx K
  | .ro p sz0 n cap el => (sz0 = sz ∧ (m = 0 ∨ cap < n + m) ∧ (n + m) * bytes ≤ 140737488355328 ∧ n + m ≤ maxI) ∧ (m = 0 → K (.ro p sz0 n cap el) h) ∧ (cap < n + m → ∀ cap', n + m ≤ cap' → cap' ≤ maxI → K (.slice h.length (n + m) cap') (h ++ [.own e sz (n + m) cap' (elApp n el elx)]))
  | _ => False
theorem m5z {t : TypeId} {s x : VV} {h : List Blk} {K : VV → List Blk → Prop} : vApp P t s x h K = wOpt (tapp P t) fun p => vSrc x h p.2.1 fun m elx => wAp p.1 p.2.1 p.2.2 s h m elx K := by
  unfold vApp
  cases tapp P t with
  | none => rfl
  | some p =>
    obtain ⟨e, sz, bytes⟩ := p
    simp only [m04]
    refine congrArg (vSrc x h sz) (funext fun m => funext fun elx => ?_)
    unfold wAp
    cases s with
    | slice id n cap =>
      show (match nth h id with | some (.own e' sz' n' cap0 el) => _ | some (.row sz' n' el) => _ | _ => False) = wOpt (nth h id) _
      cases nth h id with
      | none => rfl
      | some b => cases b <;> rfl
    | _ => rfl
theorem m60 {e sz bytes m : Nat} {elx : Nat → List VV} {h : List Blk} {K : VV → List Blk → Prop} : wAp e sz bytes .nilSlice h m elx K = (m * bytes ≤ 140737488355328 ∧ m ≤ maxI ∧ ∀ cap', m ≤ cap' → cap' ≤ maxI → K (.slice h.length m cap') (h ++ [.own e sz m cap' elx])) := rfl
theorem m61 {p : Option (Nat × Nat)} {sz0 n cap : Nat} {el : Nat → List VV} {e sz bytes m : Nat} {elx : Nat → List VV} {h : List Blk} {K : VV → List Blk → Prop} : wAp e sz bytes (.ro p sz0 n cap el) h m elx K = ((sz0 = sz ∧ (m = 0 ∨ cap < n + m) ∧ (n + m) * bytes ≤ 140737488355328 ∧ n + m ≤ maxI) ∧ (m = 0 → K (.ro p sz0 n cap el) h) ∧ (cap < n + m → ∀ cap', n + m ≤ cap' → cap' ≤ maxI → K (.slice h.length (n + m) cap') (h ++ [.own e sz (n + m) cap' (elApp n el elx)]))) := rfl
theorem m62 {id n cap : Nat} {e sz bytes m : Nat} {elx : Nat → List VV} {h : List Blk} {K : VV → List Blk → Prop} : wAp e sz bytes (.slice id n cap) h m elx K = wOpt (nth h id) fun b => wApB b e sz bytes id n cap h m elx K := rfl
theorem m63 {e' sz' n' cap0 id n cap : Nat} {el : Nat → List VV} {e sz bytes m : Nat} {elx : Nat → List VV} {h : List Blk} {K : VV → List Blk → Prop} : wApB (.own e' sz' n' cap0 el) e sz bytes id n cap h m elx K = ((e' = e ∧ sz' = sz ∧ n' = n ∧ cap0 = cap ∧ (n + m) * bytes ≤ 140737488355328 ∧ n + m ≤ maxI) ∧ ∀ cap', n + m ≤ cap' → cap' ≤ maxI → K (.slice h.length (n + m) cap') (lset h id .gone ++ [.own e sz (n + m) cap' (elApp n el elx)])) := rfl
theorem m64 {sz' n' id n cap : Nat} {el : Nat → List VV} {e sz bytes m : Nat} {elx : Nat → List VV} {h : List Blk} {K : VV → List Blk → Prop} : wApB (.row sz' n' el) e sz bytes id n cap h m elx K = ((sz' = sz ∧ n' = n ∧ cap < n + m ∧ (n + m) * bytes ≤ 140737488355328 ∧ n + m ≤ maxI) ∧ ∀ cap', n + m ≤ cap' → cap' ≤ maxI → K (.slice h.length (n + m) cap') (h ++ [.own e sz (n + m) cap' (elApp n el elx)])) := rfl
def wMap (d : Option TypeDesc) (F : TypeId → TypeId → Prop) : Prop :=
  match d with
  | some (.map k e) => F k e
  | _ => False
def wLook (P : Program) (kt : TypeId) (k z : VV) (ok : Bool) (b : Blk) (h : List Blk) (K : VV → List Blk → Prop) : Prop :=
  match b with
  | .map _ es _ => MapOK P kt k es ∧ K (if ok then .tup [kval z (kfind k es 0), .bool (kfind k es 0).isSome] else kval z (kfind k es 0)) h
  | _ => False
def wKf (x : Option (Nat × VV)) (A : Nat → VV → Prop) (B : Prop) : Prop :=
  match x with
  | some (i, v) => A i v
  | none => B
def wEnt (P : Program) (kt : TypeId) (k z : VV) (id : Nat) (b : Blk) (h : List Blk) (K : VV → List Blk → Prop) : Prop :=
  match b with
  | .map true es ck => MapOK P kt k es ∧ wKf (kfind k es 0) (fun i v => K (.tup [v, .int .i64 (((es[i]?).map fun e => e.2.2).getD 0)]) h) (K (.tup [z, .int .i64 ck]) (lset h id (.map true (es ++ [(k, z, ck)]) (ck + 1))))
  | _ => False
def wEst (s : Int) (x : VV) (id : Nat) (b : Blk) (h : List Blk) (K : VV → List Blk → Prop) : Prop :=
  match b with
  | .map true es ck => wOpt (bfind s es) fun i => K (.tup []) (lset h id (.map true (eput es i x) ck))
  | _ => False
theorem m65 {k e : TypeId} {F : TypeId → TypeId → Prop} : wMap (some (.map k e)) F = F k e := rfl
theorem m66 {i : Nat} {v : VV} {A : Nat → VV → Prop} {B : Prop} : wKf (some (i, v)) A B = A i v := rfl
theorem m67 {A : Nat → VV → Prop} {B : Prop} : wKf none A B = B := rfl
theorem m68 {t : TypeId} {id : Nat} {k : VV} {ok : Bool} {h : List Blk} {K : VV → List Blk → Prop} : vLookup P t (.map id) k ok h K = wMap (P.underlying t) fun kt et => wOpt (tzv P et) fun z => wOpt (nth h id) fun b => wLook P kt k z ok b h K := by
  unfold vLookup
  cases P.underlying t with
  | none => rfl
  | some d => cases d with
    | map kt et =>
      show (match tzv P et, VV.map id with | some z, .nilMap => _ | some z, .map id => _ | _, _ => False) = wOpt (tzv P et) _
      cases tzv P et with
      | none => rfl
      | some z =>
        show (match nth h id with | some (.map _ es _) => _ | _ => False) = wOpt (nth h id) _
        cases nth h id with
        | none => rfl
        | some b => cases b <;> rfl
    | _ => rfl
theorem m69 {t : TypeId} {k : VV} {ok : Bool} {h : List Blk} {K : VV → List Blk → Prop} : vLookup P t .nilMap k ok h K = wMap (P.underlying t) fun kt et => wOpt (tzv P et) fun z => MapOK P kt k [] ∧ K (if ok then .tup [z, .bool false] else z) h := by
  unfold vLookup
  cases P.underlying t with
  | none => rfl
  | some d => cases d with
    | map kt et =>
      show (match tzv P et, VV.nilMap with | some z, .nilMap => _ | some z, .map id => _ | _, _ => False) = wOpt (tzv P et) _
      cases tzv P et <;> rfl
    | _ => rfl
theorem m6a {kt : TypeId} {k z : VV} {ok o : Bool} {es : List (VV × VV × Nat)} {ck : Nat} {h : List Blk} {K : VV → List Blk → Prop} : wLook P kt k z ok (.map o es ck) h K = (MapOK P kt k es ∧ K (if ok then .tup [kval z (kfind k es 0), .bool (kfind k es 0).isSome] else kval z (kfind k es 0)) h) := rfl
theorem m6b {t : TypeId} {id : Nat} {k : VV} {h : List Blk} {K : VV → List Blk → Prop} : vMapEntry P t (.map id) k h K = wMap (P.underlying t) fun kt et => wOpt (tzv P et) fun z => wOpt (nth h id) fun b => wEnt P kt k z id b h K := by
  unfold vMapEntry
  cases P.underlying t with
  | none => rfl
  | some d => cases d with
    | map kt et =>
      show (match tzv P et, VV.map id with | some z, .map id => _ | _, _ => False) = wOpt (tzv P et) _
      cases tzv P et with
      | none => rfl
      | some z =>
        show (match nth h id with | some (.map true es ck) => _ | _ => False) = wOpt (nth h id) _
        cases nth h id with
        | none => rfl
        | some b => cases b with
          | map o es ck => cases o with
            | false => rfl
            | true =>
              refine congrArg (And _) ?_
              show (match kfind k es 0 with | some (i, v) => _ | none => _) = wKf (kfind k es 0) _ _
              cases kfind k es 0 <;> rfl
          | _ => rfl
    | _ => rfl
theorem m6c {kt : TypeId} {k z : VV} {id : Nat} {es : List (VV × VV × Nat)} {ck : Nat} {h : List Blk} {K : VV → List Blk → Prop} : wEnt P kt k z id (.map true es ck) h K = (MapOK P kt k es ∧ wKf (kfind k es 0) (fun i v => K (.tup [v, .int .i64 (((es[i]?).map fun e => e.2.2).getD 0)]) h) (K (.tup [z, .int .i64 ck]) (lset h id (.map true (es ++ [(k, z, ck)]) (ck + 1))))) := rfl
theorem m6d {id : Nat} {q : IntKind} {s : Int} {x : VV} {h : List Blk} {K : VV → List Blk → Prop} : vEntryStore (.map id) (.int q s) x h K = wOpt (nth h id) fun b => wEst s x id b h K := by
  simp only [vEntryStore]
  cases nth h id with
  | none => rfl
  | some b => cases b with
    | map o es ck => cases o with
      | false => rfl
      | true =>
        show (match bfind s es with | some i => _ | none => False) = wOpt (bfind s es) _
        cases bfind s es <;> rfl
    | _ => rfl
theorem m6e {id : Nat} {s : Int} {x : VV} {es : List (VV × VV × Nat)} {ck : Nat} {h : List Blk} {K : VV → List Blk → Prop} : wEst s x id (.map true es ck) h K = wOpt (bfind s es) fun i => K (.tup []) (lset h id (.map true (eput es i x) ck)) := rfl
theorem m6f {fr : Bool} {all : List Oper} {st : St} {K : St → Prop} : wrun P fr all [] st K = K st := rfl
theorem m6g {fr : Bool} {all l : List Oper} {d : Option Tmp} {o : Op} {ty : TypeId} {pos : String} {af : Array Edge} {st : St} {K : St → Prop} : wrun P fr all (⟨d, o, ty, pos, af, none⟩ :: l) st K = vstep P fr ⟨d, o, ty, pos, af, none⟩ st fun st' => wrun P fr all l st' K := rfl
theorem m6h {fr : Bool} {all l : List Oper} {j : Nat} {w : Bool} {d : Option Tmp} {o : Op} {ty : TypeId} {pos : String} {af : Array Edge} {st : St} {K : St → Prop} : wrun P fr all (⟨d, o, ty, pos, af, some (j, w)⟩ :: l) st K = vG all j w (gslot all j st.t) st.t (fun t => vstep P fr ⟨d, o, ty, pos, af, some (j, w)⟩ ⟨t, st.h⟩ fun st' => wrun P fr all l st' K) (fun t => wrun P fr all l ⟨tput t d (.tup []), st.h⟩ K) := rfl
theorem m6i {all : List Oper} {j : Nat} {b : Bool} {t : List (Option VV)} {A B : List (Option VV) → Prop} : vG all j true (some (.bool b)) t A B = vB b (A (gput all j t true)) (B (gput all j t false)) := rfl
theorem m6j {all : List Oper} {j : Nat} {b : Bool} {t : List (Option VV)} {A B : List (Option VV) → Prop} : vG all j false (some (.bool b)) t A B = vB b (B (gput all j t true)) (A (gput all j t false)) := rfl
theorem m6k {all : List Oper} {j : Nat} {w : Bool} {l : List VV} {t : List (Option VV)} {A B : List (Option VV) → Prop} : vG all j w (some (.tup l)) t A B = B t := rfl
def gputo (o : Option Oper) (t : List (Option VV)) (b : Bool) : List (Option VV) :=
  match o with
  | some o => tput t o.dst (.bool b)
  | none => t
def gslo (o : Option Oper) (t : List (Option VV)) : Option VV :=
  match o with
  | some o => (match o.dst with | some d => tget t d | none => none)
  | none => none
theorem m6l {all : List Oper} {j : Nat} {t : List (Option VV)} {b : Bool} : gput all j t b = gputo (nth all j) t b := by unfold gput gputo; cases nth all j <;> rfl
theorem m6m {d : Tmp} {o : Op} {ty : TypeId} {pos : String} {af : Array Edge} {gd : Option (Nat × Bool)} {t : List (Option VV)} {b : Bool} : gputo (some ⟨some d, o, ty, pos, af, gd⟩) t b = lset t d (some (.bool b)) := rfl
theorem m6n {all : List Oper} {j : Nat} {t : List (Option VV)} : gslot all j t = gslo (nth all j) t := by unfold gslot gslo; cases nth all j <;> rfl
theorem m6o {d : Tmp} {o : Op} {ty : TypeId} {pos : String} {af : Array Edge} {gd : Option (Nat × Bool)} {t : List (Option VV)} : gslo (some ⟨some d, o, ty, pos, af, gd⟩) t = tget t d := rfl
theorem m6p {n : Nat} {t : List (Option VV)} {b : Bool} : cput (.tmp n) t b = lset t n (some (.bool b)) := rfl
theorem m6q {c : Operand} {t : List (Option VV)} {b : Bool} {A B : List (Option VV) → Prop} : vC c t (some (.bool b)) A B = vB b (A (cput c t true)) (B (cput c t false)) := rfl
def wGd (all : List Oper) (o : Oper) (st : St) (A B : List (Option VV) → Prop) : Prop :=
  match o.guard with
  | none => A st.t
  | some (j, w) => vG all j w (gslot all j st.t) st.t A B
theorem m6r {all : List Oper} {d : Option Tmp} {o : Op} {ty : TypeId} {pos : String} {af : Array Edge} {st : St} {A B : List (Option VV) → Prop} : wGd all ⟨d, o, ty, pos, af, none⟩ st A B = A st.t := rfl
theorem m6s {all : List Oper} {j : Nat} {w : Bool} {d : Option Tmp} {o : Op} {ty : TypeId} {pos : String} {af : Array Edge} {st : St} {A B : List (Option VV) → Prop} : wGd all ⟨d, o, ty, pos, af, some (j, w)⟩ st A B = vG all j w (gslot all j st.t) st.t A B := rfl
theorem m6t {all : List Oper} {hk : List Blk} {st : St} {K : St → Prop} : wcrt P all hk .done st K = K st := rfl
theorem m6u {all : List Oper} {hk : List Blk} {st : St} {K : St → Prop} {i : Nat} {c : Crt} : wcrt P all hk (.take i c) st K = wOpt (nth all i) fun o => wGd all o st (fun t => vQuiet P o hk ⟨t, st.h⟩ fun st' => wcrt P all hk c st' K) (fun t => wcrt P all hk c ⟨tput t o.dst (.tup []), st.h⟩ K) := by rw [wcrt]; cases nth all i with | none => rfl | some o => (obtain ⟨d, op, ty, pos, af, gd⟩ := o; cases gd <;> rfl)
theorem m6v {all : List Oper} {hk : List Blk} {st : St} {K : St → Prop} {i : Nat} {c : Crt} : wcrt P all hk (.view i c) st K = wOpt (nth all i) fun o => wGd all o st (fun t => vViewS P o hk ⟨t, st.h⟩ fun st' => wcrt P all hk c st' K) (fun t => wcrt P all hk c ⟨tput t o.dst (.tup []), st.h⟩ K) := by rw [wcrt]; cases nth all i with | none => rfl | some o => (obtain ⟨d, op, ty, pos, af, gd⟩ := o; cases gd <;> rfl)
theorem m6w {all : List Oper} {hk : List Blk} {st : St} {K : St → Prop} {i : Nat} {c : Crt} : wcrt P all hk (.one i c) st K = wOpt (nth all i) fun o => wGd all o st (fun t => vstep P true o ⟨t, st.h⟩ fun st' => kept hk st'.h ∧ wcrt P all hk c st' K) (fun t => wcrt P all hk c ⟨tput t o.dst (.tup []), st.h⟩ K) := by rw [wcrt]; cases nth all i with | none => rfl | some o => (obtain ⟨d, op, ty, pos, af, gd⟩ := o; cases gd <;> rfl)
theorem m6x {all : List Oper} {hk : List Blk} {st : St} {K : St → Prop} {i j : Nat} {c e : Crt} : wcrt P all hk (.two i c j e) st K = (wcrt P all hk (.one i c) st K ∧ wcrt P all hk (.one j e) st K) := rfl
theorem m6y {A B : Prop} : vThen A B .normal = A := rfl
theorem m6z {A B : Prop} {i : Nat} : vThen A B (.exit i) = B := rfl
theorem m70 {A B : Prop} : vThen A B .ret = B := rfl
theorem m71 {A B : Prop} {l : Nat} : vThen A B (.goto l) = B := rfl
theorem m72 {σ : Type} {n0 : N0} {inv : σ → St} {φ : σ → Prop} {μ : σ → Nat} {s : σ} {Q : Exit → St → Prop} {st : St} : vRnd n0 inv φ μ s Q .normal st = (∃ s', φ s' ∧ μ s' < μ s ∧ Le n0 st (inv s')) := rfl
theorem m73 {σ : Type} {n0 : N0} {inv : σ → St} {φ : σ → Prop} {μ : σ → Nat} {s : σ} {Q : Exit → St → Prop} {st : St} {i : Nat} : vRnd n0 inv φ μ s Q (.exit i) st = Q (.exit i) st := rfl
theorem m74 {σ : Type} {n0 : N0} {inv : σ → St} {φ : σ → Prop} {μ : σ → Nat} {s : σ} {Q : Exit → St → Prop} {st : St} : vRnd n0 inv φ μ s Q .ret st = Q .ret st := rfl
theorem m75 {σ : Type} {n0 : N0} {inv : σ → St} {φ : σ → Prop} {μ : σ → Nat} {s : σ} {Q : Exit → St → Prop} {st : St} {l : Nat} : vRnd n0 inv φ μ s Q (.goto l) st = Q (.goto l) st := rfl
theorem m76 {rs : List ResultVar} {K : VV → List Blk → Prop} {st : St} : vEnd P rs K .normal st = vres P st.t st.h rs fun vs => K (single vs) st.h := rfl
theorem m77 {rs : List ResultVar} {K : VV → List Blk → Prop} {st : St} : vEnd P rs K .ret st = vres P st.t st.h rs fun vs => K (single vs) st.h := rfl
theorem m78 {rs : List ResultVar} {K : VV → List Blk → Prop} {st : St} {i : Nat} : vEnd P rs K (.exit i) st = False := rfl
theorem m79 {rs : List ResultVar} {K : VV → List Blk → Prop} {st : St} {i : Nat} : vEnd P rs K (.goto i) st = False := rfl
theorem m7a {t : List (Option VV)} {h : List Blk} {K : List VV → Prop} : vres P t h [] K = K [] := rfl
theorem m7b {t : List (Option VV)} {h : List Blk} {l : List ResultVar} {K : List VV → Prop} {n : Tmp} : vres P t h (.tmp n :: l) K = vWith (tget t n) fun v => vres P t h l fun vs => K (v :: vs) := rfl
theorem m7c {t : List (Option VV)} {h : List Blk} {l : List ResultVar} {K : List VV → Prop} {n : Tmp} {ty : TypeId} : vres P t h (.cell n ty :: l) K = vWith (tget t n) fun p => vLoad P ty p h fun v _ => vres P t h l fun vs => K (v :: vs) := rfl
theorem m7d {v : VV} : single [v] = v := rfl
theorem m7e {v w : VV} {l : List VV} : single (v :: w :: l) = .tup (v :: w :: l) := rfl
theorem m7f  : single [] = .tup [] := rfl
theorem m7g {n0 : N0} {c : Code} {Q : Exit → St → Prop} {n : Nat} {st : St} : vrnd P n0 c Q (n + 1) st = vgo P n0 c st [] fun e st' => vThen (vrnd P n0 c Q n st') (Q e st') e := rfl
theorem m7h {n0 : N0} {c : Code} {Q : Exit → St → Prop} {st : St} : vrnd P n0 c Q 0 st = False := rfl
theorem m7i {α : Type} {x y : α} {l : List α} : lset (x :: l) 0 y = y :: l := rfl
theorem m7j {α : Type} {x y : α} {l : List α} {n : Nat} : lset (x :: l) (n + 1) y = x :: lset l n y := rfl
theorem m7k {α : Type} {y : α} {n : Nat} : lset [] n y = [] := rfl
theorem m7l {α : Type} {x : α} {l : List α} : nth (x :: l) 0 = some x := rfl
theorem m7m {α : Type} {x : α} {l : List α} {n : Nat} : nth (x :: l) (n + 1) = nth l n := rfl
theorem m7n {α : Type} {n : Nat} : nth ([] : List α) n = none := rfl
theorem m7o {α : Type} {l : List α} {o : Nat} : seg l o 0 = [] := by cases l <;> cases o <;> rfl
theorem m7p {α : Type} {x : α} {l : List α} {n : Nat} : seg (x :: l) 0 (n + 1) = x :: seg l 0 n := rfl
theorem m7q {α : Type} {x : α} {l : List α} {o n : Nat} : seg (x :: l) (o + 1) (n + 1) = seg l o (n + 1) := rfl
theorem m7r {α : Type} {o n : Nat} : seg ([] : List α) o n = [] := by cases n <;> rfl
theorem m7s {l : List VV} {o : Nat} : splice l o [] = l := by cases l <;> cases o <;> rfl
theorem m7t {x v : VV} {l vs : List VV} : splice (x :: l) 0 (v :: vs) = v :: splice l 0 vs := rfl
theorem m7u {x v : VV} {l vs : List VV} {o : Nat} : splice (x :: l) (o + 1) (v :: vs) = x :: splice l o (v :: vs) := rfl
theorem m7v {α : Type} {z : List α} : rep z 0 = [] := rfl
theorem m7w {α : Type} {z : List α} {n : Nat} : rep z (n + 1) = z ++ rep z n := rfl
theorem m7x {hk : List Blk} {n : Nat} : pad hk n = hk ++ List.replicate (n - hk.length) .gone := rfl
theorem m7y {h : List Blk} : kept [] h = True := rfl
theorem m7z {hk h : List Blk} {b : Blk} : kept (.gone :: hk) (b :: h) = kept hk h := rfl
theorem m80 {hk h : List Blk} {b : Blk} {o : Bool} {ty : TypeId} {l : List VV} : kept (.cells o ty l :: hk) (b :: h) = (b = .cells o ty l ∧ kept hk h) := rfl
theorem m81 {hk h : List Blk} {b : Blk} {s n : Nat} {el : Nat → List VV} : kept (.row s n el :: hk) (b :: h) = (b = .row s n el ∧ kept hk h) := rfl
theorem m82 {hk h : List Blk} {b : Blk} {o : Bool} {es : List (VV × VV × Nat)} {ck : Nat} : kept (.map o es ck :: hk) (b :: h) = (b = .map o es ck ∧ kept hk h) := rfl
theorem m83 {hk h : List Blk} {b : Blk} {ty s n c : Nat} {el : Nat → List VV} : kept (.own ty s n c el :: hk) (b :: h) = (b = .own ty s n c el ∧ kept hk h) := rfl
/-- A cut: where the code leaves by the exit i, the state is one of few. -/
def vCut {σ : Type} (n0 : N0) (mid : σ → St) (ψ : σ → Prop) (i : Nat) (Q : Exit → St → Prop) (e : Exit) (st : St) : Prop :=
  match e with
  | .exit j => if j = i then (∃ s, ψ s ∧ Le n0 st (mid s)) else Q (.exit j) st
  | e => Q e st
theorem wcut {n0 : N0} {σ : Type} (mid : σ → St) (ψ : σ → Prop) (i : Nat) {c : Code} {st : St} {Q : Exit → St → Prop} (h1 : VW P n0 c st (vCut n0 mid ψ i Q)) (h2 : ∀ s, ψ s → Q (.exit i) (mid s)) : VW P n0 c st Q := fun E β a w he r =>
  Code.wp_mono (fun e a' w' ⟨st', β', r', h'⟩ => by
    cases e with
    | exit j =>
      simp only [vCut] at h'
      split at h'
      · rename_i hj
        subst hj
        obtain ⟨s, hs, hl⟩ := h'
        obtain ⟨β2, r2⟩ := hl E β' a' w' he r'
        exact ⟨mid s, β2, r2, h2 s hs⟩
      · exact ⟨st', β', r', h'⟩
    | _ => exact ⟨st', β', r', h'⟩) (h1 E β a w he r)
theorem m84 {σ : Type} {n0 : N0} {mid : σ → St} {ψ : σ → Prop} {i : Nat} {Q : Exit → St → Prop} {st : St} {j : Nat} : vCut n0 mid ψ i Q (.exit j) st = if j = i then (∃ s, ψ s ∧ Le n0 st (mid s)) else Q (.exit j) st := rfl
theorem m85 {σ : Type} {n0 : N0} {mid : σ → St} {ψ : σ → Prop} {i : Nat} {Q : Exit → St → Prop} {st : St} : vCut n0 mid ψ i Q .normal st = Q .normal st := rfl
theorem m86 {σ : Type} {n0 : N0} {mid : σ → St} {ψ : σ → Prop} {i : Nat} {Q : Exit → St → Prop} {st : St} : vCut n0 mid ψ i Q .ret st = Q .ret st := rfl
theorem m87 {σ : Type} {n0 : N0} {mid : σ → St} {ψ : σ → Prop} {i : Nat} {Q : Exit → St → Prop} {st : St} {l : Nat} : vCut n0 mid ψ i Q (.goto l) st = Q (.goto l) st := rfl
/-- THE RULE for a call, its side conditions in one. -/
theorem vframe {b fr : Bool} {f : FuncId} {args : List VV} {hc : List Blk} {Q : VV → List Blk → Prop} (hv : VC P b f args hc Q) (r : List Nat) {h : List Blk} {K : VV → List Blk → Prop} {args' : List VV}
    (hs : shr (r.zip (hc.map Blk.owned)) = true) (hx : args' = renL (rr r h.length) args ∧ given (rr r h.length) h r hc ∧ bdL hc.length args ∧ bdH hc.length hc)
    (hK : ∀ v h', Q v h' → hc.length ≤ h'.length → (exct h r hc = true ∨ (h'.drop hc.length).all Blk.owned = true) ∧ K (ren (rr r h.length) v) (mrg (rr r h.length) r hc h' h))  (hfr : (fr && !b) = false := by rfl) :
    VC P fr f args' h K := VC.any hfr (VCall.frame hv r hx.1 hx.2.1 hs hx.2.2.1 hx.2.2.2 hK)
/-- A call from a state that is told with less. -/
theorem VC.le {fr : Bool} {f : FuncId} {args : List VV} {h : List Blk} {K : VV → List Blk → Prop} (args2 : List VV) (h2 : List Blk) (hle : Le ⟨h.length, fr⟩ ⟨args.map some, h⟩ ⟨args2.map some, h2⟩) (hv : VC P fr f args2 h2 K) : VC P fr f args h K := by
  refine ⟨hv.1, fun β w R hb => ?_⟩
  have r0 : Rep ⟨β, h, w, fr⟩ ⟨args.map some, h⟩ β { tmps := (denL β args).toArray, defers := [] } w := by
    refine ⟨⟨by simp [denL_length], fun i v hi => ?_⟩, rfl, R, Link.refl _ _ _, fun _ => rfl⟩
    simp only [List.getElem?_map, Option.map_eq_some_iff, Option.some.injEq, exists_eq_right] at hi
    exact ⟨by simp only [List.getElem?_toArray, denL_get, hi, Option.map_some], gd_mem hb hi⟩
  obtain ⟨β2, r2⟩ := hle ⟨β, h, w, fr⟩ β _ w rfl r0
  have hlen : args2.length = args.length := by
    have := r2.t.1
    simpa [denL_length] using this
  have hget : ∀ (i : Nat) v, args2[i]? = some v → (denL β args)[i]? = some (den β2 v) ∧ gd β2 h2.length v := fun i v hi => by
    have := r2.t.2 i v (by simp [hi])
    exact ⟨by simpa using this.1, this.2⟩
  have hargs : denL β2 args2 = denL β args := by
    apply List.ext_getElem?
    intro i
    rw [denL_get]
    cases hi : args2[i]? with
    | none =>
      have : (denL β args).length ≤ i := by rw [denL_length, ← hlen]; exact List.getElem?_eq_none_iff.1 hi
      rw [List.getElem?_eq_none this]; rfl
    | some v => rw [(hget i v hi).1]; rfl
  have hg : gdL β2 h2.length args2 := (gdL_iff _ _ _).2 fun v hv => by
    obtain ⟨i, hi⟩ := List.getElem?_of_mem hv
    exact (hget i v hi).2
  have hc := hv.2 β2 w r2.h hg
  rw [hargs] at hc
  refine hc.mono ?_
  rintro e w' ⟨v, β', h', rfl, R', l', hb', hs', hK⟩
  exact ⟨v, β', h', rfl, R', r2.l.trans l', hb', fun e => (hs' e).trans (r2.s e), hK⟩
/-- The outcome is told with less. -/
theorem VC.out {fr : Bool} {f : FuncId} {args : List VV} {h : List Blk} {K : VV → List Blk → Prop} (hv : VC P fr f args h fun v h' => ∃ v2 h2, Le ⟨h.length, fr⟩ ⟨[some v], h'⟩ ⟨[some v2], h2⟩ ∧ K v2 h2) : VC P fr f args h K := by
  refine ⟨hv.1, fun β w R hb => (hv.2 β w R hb).mono ?_⟩
  rintro e w' ⟨v, β', h', rfl, R', l', hb', hs', v2, h2, hle, hK⟩
  have r0 : Rep ⟨β, h, w, fr⟩ ⟨[some v], h'⟩ β' { tmps := #[den β' v], defers := [] } w' := by
    refine ⟨⟨rfl, fun i u hi => ?_⟩, rfl, R', l', hs'⟩
    cases i with
    | zero => simp at hi; subst hi; exact ⟨rfl, hb'⟩
    | succ i => simp at hi
  obtain ⟨β2, r2⟩ := hle ⟨β, h, w, fr⟩ β' _ w' rfl r0
  obtain ⟨q1, q2⟩ := r2.t.2 0 v2 rfl
  have q3 : den β' v = den β2 v2 := by simpa using q1
  exact ⟨v2, β2, h2, by rw [q3], r2.h, r2.l, q2, r2.s, hK⟩
/-- A join: the code's normal end is told as one state. -/
def vJoin (n0 : N0) (mid : St) (Q : Exit → St → Prop) (e : Exit) (st : St) : Prop :=
  match e with
  | .normal => Le n0 st mid
  | e => Q e st
theorem wjoin {n0 : N0} (mid : St) {c : Code} {st : St} {Q : Exit → St → Prop} (h1 : VW P n0 c st (vJoin n0 mid Q)) (h2 : Q .normal mid) : VW P n0 c st Q := fun E β a w he r =>
  Code.wp_mono (fun e a' w' ⟨st', β', r', h'⟩ => by
    cases e with
    | normal =>
      obtain ⟨β2, r2⟩ := h' E β' a' w' he r'
      exact ⟨mid, β2, r2, h2⟩
    | _ => exact ⟨st', β', r', h'⟩) (h1 E β a w he r)
theorem wbodyV {fr : Bool} {f : FuncId} {fn : Func} {c : Code} {args : List VV} {h : List Blk} {K : VV → List Blk → Prop} (hf : P.funcs[f]? = some fn) (hb : fn.body = some c) (hn : (fn.name == "runtime.NumGoroutine") = false)
    (hv : VW P ⟨h.length, fr⟩ c ⟨args.map some ++ List.replicate (fn.ntmps - args.length) none, h⟩ (vEnd P fn.results.toList K)) : VC P fr f args h K := vcall_bodyV hf hb hn hv
theorem wgo {n0 : N0} {c : Code} {st : St} {Q : Exit → St → Prop} (hv : vgo P n0 c st [] Q) : VW P n0 c st Q := vwp_ok c st Q hv
/-- The code after its first k parts. -/
def vcutAt : Nat → Code → Option (Code × Code)
  | 0, c => some (.skip, c)
  | k + 1, .seq x y => match vcutAt k y with
    | some p => some (.seq x p.1, p.2)
    | none => none
  | _, _ => none
def vStop {σ : Type} (n0 : N0) (mid : σ → St) (ψ : σ → Prop) (Q : Exit → St → Prop) (e : Exit) (st : St) : Prop :=
  match e with
  | .normal => ∃ s, ψ s ∧ Le n0 st (mid s)
  | e => Q e st
/-- A cut behind the first k parts: the state there is one of few. -/
theorem wsplit {σ : Type} {n0 : N0} (mid : σ → St) (ψ : σ → Prop) : ∀ (k : Nat) {c p s : Code} {st : St} {Q : Exit → St → Prop}, vcutAt k c = some (p, s) → vgo P n0 p st [] (vStop n0 mid ψ Q) → (∀ x, ψ x → VW P n0 s (mid x) Q) → VW P n0 c st Q
  | 0, c, p, s, st, Q, hc, h1, h2 => by
    simp only [vcutAt, Option.some.injEq, Prod.mk.injEq] at hc
    obtain ⟨rfl, rfl⟩ := hc
    obtain ⟨x, hx, hl⟩ := h1
    exact (h2 x hx).le hl
  | k + 1, .seq a y, p, s, st, Q, hc, h1, h2 => by
    simp only [vcutAt] at hc
    split at hc
    · rename_i p' hp
      simp only [Option.some.injEq, Prod.mk.injEq] at hc
      obtain ⟨rfl, rfl⟩ := hc
      intro E β ac w he r
      refine wp_seq (Code.wp_mono (fun e a' w' ⟨st', β', r', h'⟩ => ?_) (vwp_ok a st _ h1 E β ac w he r))
      cases e with
      | normal => exact wsplit mid ψ k (p := p'.1) (s := p'.2) hp h' h2 E β' a' w' he r'
      | _ => exact ⟨st', β', r', h'⟩
    · cases hc
theorem m88 {σ : Type} {n0 : N0} {mid : σ → St} {ψ : σ → Prop} {Q : Exit → St → Prop} {st : St} : vStop n0 mid ψ Q .normal st = (∃ s, ψ s ∧ Le n0 st (mid s)) := rfl
theorem m89 {σ : Type} {n0 : N0} {mid : σ → St} {ψ : σ → Prop} {Q : Exit → St → Prop} {st : St} : vStop n0 mid ψ Q .ret st = Q .ret st := rfl
theorem m8a {σ : Type} {n0 : N0} {mid : σ → St} {ψ : σ → Prop} {Q : Exit → St → Prop} {st : St} {i : Nat} : vStop n0 mid ψ Q (.exit i) st = Q (.exit i) st := rfl
theorem m8b {n0 : N0} {mid : St} {Q : Exit → St → Prop} {st : St} : vJoin n0 mid Q .normal st = Le n0 st mid := rfl
theorem m8c {n0 : N0} {mid : St} {Q : Exit → St → Prop} {st : St} : vJoin n0 mid Q .ret st = Q .ret st := rfl
theorem m8d {n0 : N0} {mid : St} {Q : Exit → St → Prop} {st : St} {i : Nat} : vJoin n0 mid Q (.exit i) st = Q (.exit i) st := rfl
theorem m8e {t t2 : TypeId} {s x : VV} {h : List Blk} {K : VV → List Blk → Prop} : vBuiltin P .append [t, t2] (some [s, x]) h K = ((t = t2 ∨ (tsl P t2).isSome = true) ∧ vApp P t s x h K) := rfl
theorem m8f {fr : Bool} {all l m : List Oper} {o : Oper} {st : St} {K : St → Prop} : wrun P fr all (List.append (o :: l) m) st K = wrun P fr all (o :: List.append l m) st K := rfl
theorem m8g {fr : Bool} {all m : List Oper} {st : St} {K : St → Prop} : wrun P fr all (List.append [] m) st K = wrun P fr all m st K := rfl
theorem m8h {α : Type} {x : α} {l m : List α} : nth (List.append (x :: l) m) 0 = some x := rfl
theorem m8i {α : Type} {x : α} {l m : List α} {n : Nat} : nth (List.append (x :: l) m) (n + 1) = nth (List.append l m) n := rfl
theorem m8j {α : Type} {m : List α} {n : Nat} : nth (List.append [] m) n = nth m n := rfl
end
theorem wOpt_lazy {α : Type} {x x' : Option α} {F : α → Prop} {tk' : Prop} (_tk : Tick = tk') (h0 : x = x') : wOpt x F = wOpt x' F := by subst h0; rfl
theorem wAgg_lazy  {a a' : Option Bool} {s s' : Option Nat} {l l' : List VV} {fo fo' : Nat} {K : VV → Prop} {tk' : Prop} (_tk : Tick = tk') (h0 : a = a') (h1 : s = s') (h2 : l = l') (h3 : fo = fo') : wAgg a s l fo K = wAgg a' s' l' fo' K := by subst h0 h1 h2 h3; rfl
theorem wSt_lazy  {b b' : Blk} {n n' : Option Nat} {id : Nat} {idx idx' : Nat} {sz sz' : Nat} {fo fo' : Nat} {v v' : VV} {h h' : List Blk} {K : VV → List Blk → Prop} {tk' : Prop} (_tk : Tick = tk') (h0 : b = b') (h1 : n = n') (h2 : idx = idx') (h3 : sz = sz') (h4 : fo = fo') (h5 : v = v') (h6 : h = h') : wSt b n id idx sz fo v h K = wSt b' n' id idx' sz' fo' v' h' K := by subst h0 h1 h2 h3 h4 h5 h6; rfl
theorem wBuild_lazy  {pl pl' : Option (List (Nat × Nat))} {a a' : Option (Nat × TypeId × Nat)} {z z' : List VV} {ps ps' : List (Nat × VV)} {F : List VV → Prop} {tk' : Prop} (_tk : Tick = tk') (h0 : pl = pl') (h1 : a = a') (h2 : z = z') (h3 : ps = ps') : wBuild pl a z ps F = wBuild pl' a' z' ps' F := by subst h0 h1 h2 h3; rfl
theorem wSl_lazy  {s s' : Nat} {x x' : VV} {lo lo' : Option (Option VV)} {hi hi' : Option (Option VV)} {mx mx' : Option (Option VV)} {h h' : List Blk} {K : VV → List Blk → Prop} {tk' : Prop} (_tk : Tick = tk') (h0 : s = s') (h1 : x = x') (h2 : lo = lo') (h3 : hi = hi') (h4 : mx = mx') (h5 : h = h') : wSl s x lo hi mx h K = wSl s' x' lo' hi' mx' h' K := by subst h0 h1 h2 h3 h4 h5; rfl
theorem wNone_lazy {α : Type} {x x' : Option α} {A : Prop} {tk' : Prop} (_tk : Tick = tk') (h0 : x = x') : wNone x A = wNone x' A := by subst h0; rfl
theorem vBinH_lazy  {P : Program} {op : BinOp} {t : TypeId} {a a' : VV} {b b' : VV} {h h' : List Blk} {K : VV → List Blk → Prop} {tk' : Prop} (_tk : Tick = tk') (h0 : a = a') (h1 : b = b') (h2 : h = h') : vBinH P op t a b h K = vBinH P op t a' b' h' K := by subst h0 h1 h2; rfl
theorem vNe_lazy  {op : BinOp} {b b' : Bool} {K : VV → Prop} {tk' : Prop} (_tk : Tick = tk') (h0 : b = b') : vNe op b K = vNe op b' K := by subst h0; rfl
theorem vConvH_lazy  {P : Program} {s : TypeId} {e : TypeId} {x x' : VV} {h h' : List Blk} {K : VV → List Blk → Prop} {tk' : Prop} (_tk : Tick = tk') (h0 : x = x') (h1 : h = h') : vConvH P s e x h K = vConvH P s e x' h' K := by subst h0 h1; rfl
theorem vStr_lazy  {P : Program} {s : TypeId} {e : TypeId} {x x' : VV} {h h' : List Blk} {K : VV → List Blk → Prop} {tk' : Prop} (_tk : Tick = tk') (h0 : x = x') (h1 : h = h') : vStr P s e x h K = vStr P s e x' h' K := by subst h0 h1; rfl
theorem vMake_lazy  {P : Program} {t : TypeId} {l l' : VV} {c c' : VV} {h h' : List Blk} {K : VV → List Blk → Prop} {tk' : Prop} (_tk : Tick = tk') (h0 : l = l') (h1 : c = c') (h2 : h = h') : vMake P t l c h K = vMake P t l' c' h' K := by subst h0 h1 h2; rfl
theorem vCopy_lazy  {P : Program} {t : TypeId} {d d' : VV} {x x' : VV} {h h' : List Blk} {K : VV → List Blk → Prop} {tk' : Prop} (_tk : Tick = tk') (h0 : d = d') (h1 : x = x') (h2 : h = h') : vCopy P t d x h K = vCopy P t d' x' h' K := by subst h0 h1 h2; rfl
theorem vCopyB_lazy  {b b' : Blk} {id id' : Nat} {idx idx' : Nat} {fo fo' : Nat} {esz esz' : Nat} {n n' : Nat} {m m' : Nat} {el el' : Nat → List VV} {h h' : List Blk} {K : VV → List Blk → Prop} {tk' : Prop} (_tk : Tick = tk') (h0 : b = b') (h1 : id = id') (h2 : idx = idx') (h3 : fo = fo') (h4 : esz = esz') (h5 : n = n') (h6 : m = m') (h7 : el = el') (h8 : h = h') : vCopyB b id idx fo esz n m el h K = vCopyB b' id' idx' fo' esz' n' m' el' h' K := by subst h0 h1 h2 h3 h4 h5 h6 h7 h8; rfl
theorem wSrc_lazy  {b b' : Blk} {m m' : Nat} {sz sz' : Nat} {K : Nat → (Nat → List VV) → Prop} {tk' : Prop} (_tk : Tick = tk') (h0 : b = b') (h1 : m = m') (h2 : sz = sz') : wSrc b m sz K = wSrc b' m' sz' K := by subst h0 h1 h2; rfl
theorem wApB_lazy  {b b' : Blk} {e e' : Nat} {sz sz' : Nat} {bytes bytes' : Nat} {id : Nat} {n n' : Nat} {cap cap' : Nat} {h h' : List Blk} {m m' : Nat} {elx elx' : Nat → List VV} {K : VV → List Blk → Prop} {tk' : Prop} (_tk : Tick = tk') (h0 : b = b') (h1 : e = e') (h2 : sz = sz') (h3 : bytes = bytes') (h4 : n = n') (h5 : cap = cap') (h6 : h = h') (h7 : m = m') (h8 : elx = elx') : wApB b e sz bytes id n cap h m elx K = wApB b' e' sz' bytes' id n' cap' h' m' elx' K := by subst h0 h1 h2 h3 h4 h5 h6 h7 h8; rfl
theorem wAp_lazy  {e e' : Nat} {sz sz' : Nat} {bytes bytes' : Nat} {s s' : VV} {h h' : List Blk} {m m' : Nat} {elx elx' : Nat → List VV} {K : VV → List Blk → Prop} {tk' : Prop} (_tk : Tick = tk') (h0 : e = e') (h1 : sz = sz') (h2 : bytes = bytes') (h3 : s = s') (h4 : h = h') (h5 : m = m') (h6 : elx = elx') : wAp e sz bytes s h m elx K = wAp e' sz' bytes' s' h' m' elx' K := by subst h0 h1 h2 h3 h4 h5 h6; rfl
theorem wMap_lazy  {d d' : Option TypeDesc} {F : TypeId → TypeId → Prop} {tk' : Prop} (_tk : Tick = tk') (h0 : d = d') : wMap d F = wMap d' F := by subst h0; rfl
theorem wLook_lazy  {P : Program} {kt : TypeId} {k k' : VV} {z z' : VV} {ok : Bool} {b b' : Blk} {h h' : List Blk} {K : VV → List Blk → Prop} {tk' : Prop} (_tk : Tick = tk') (h0 : k = k') (h1 : z = z') (h2 : b = b') (h3 : h = h') : wLook P kt k z ok b h K = wLook P kt k' z' ok b' h' K := by subst h0 h1 h2 h3; rfl
theorem wKf_lazy  {x x' : Option (Nat × VV)} {A : Nat → VV → Prop} {B : Prop} {tk' : Prop} (_tk : Tick = tk') (h0 : x = x') : wKf x A B = wKf x' A B := by subst h0; rfl
theorem wEnt_lazy  {P : Program} {kt : TypeId} {k k' : VV} {z z' : VV} {id : Nat} {b b' : Blk} {h h' : List Blk} {K : VV → List Blk → Prop} {tk' : Prop} (_tk : Tick = tk') (h0 : k = k') (h1 : z = z') (h2 : b = b') (h3 : h = h') : wEnt P kt k z id b h K = wEnt P kt k' z' id b' h' K := by subst h0 h1 h2 h3; rfl
theorem wEst_lazy  {s s' : Int} {x x' : VV} {id : Nat} {b b' : Blk} {h h' : List Blk} {K : VV → List Blk → Prop} {tk' : Prop} (_tk : Tick = tk') (h0 : s = s') (h1 : x = x') (h2 : b = b') (h3 : h = h') : wEst s x id b h K = wEst s' x' id b' h' K := by subst h0 h1 h2 h3; rfl
theorem vLookup_lazy  {P : Program} {t : TypeId} {m m' : VV} {k k' : VV} {ok : Bool} {h h' : List Blk} {K : VV → List Blk → Prop} {tk' : Prop} (_tk : Tick = tk') (h0 : m = m') (h1 : k = k') (h2 : h = h') : vLookup P t m k ok h K = vLookup P t m' k' ok h' K := by subst h0 h1 h2; rfl
theorem vMapEntry_lazy  {P : Program} {t : TypeId} {m m' : VV} {k k' : VV} {h h' : List Blk} {K : VV → List Blk → Prop} {tk' : Prop} (_tk : Tick = tk') (h0 : m = m') (h1 : k = k') (h2 : h = h') : vMapEntry P t m k h K = vMapEntry P t m' k' h' K := by subst h0 h1 h2; rfl
theorem vEntryStore_lazy  {m m' : VV} {s s' : VV} {x x' : VV} {h h' : List Blk} {K : VV → List Blk → Prop} {tk' : Prop} (_tk : Tick = tk') (h0 : m = m') (h1 : s = s') (h2 : x = x') (h3 : h = h') : vEntryStore m s x h K = vEntryStore m' s' x' h' K := by subst h0 h1 h2 h3; rfl
theorem wGd_lazy  {all : List Oper} {o : Oper} {st st' : St} {A : List (Option VV) → Prop} {B : List (Option VV) → Prop} {tk' : Prop} (_tk : Tick = tk') (h0 : st = st') : wGd all o st A B = wGd all o st' A B := by subst h0; rfl
theorem vCut_lazy {σ : Type} {n0 : N0} {mid : σ → St} {ψ : σ → Prop} {i : Nat} {Q : Exit → St → Prop} {e e' : Exit} {st st' : St} {tk' : Prop} (_tk : Tick = tk') (h0 : e = e') (h1 : st = st') : vCut n0 mid ψ i Q e st = vCut n0 mid ψ i Q e' st' := by subst h0 h1; rfl
theorem vStop_lazy {σ : Type} {n0 : N0} {mid : σ → St} {ψ : σ → Prop} {Q : Exit → St → Prop} {e e' : Exit} {st st' : St} {tk' : Prop} (_tk : Tick = tk') (h0 : e = e') (h1 : st = st') : vStop n0 mid ψ Q e st = vStop n0 mid ψ Q e' st' := by subst h0 h1; rfl
theorem vJoin_lazy  {n0 : N0} {mid : St} {Q : Exit → St → Prop} {e e' : Exit} {st st' : St} {tk' : Prop} (_tk : Tick = tk') (h0 : e = e') (h1 : st = st') : vJoin n0 mid Q e st = vJoin n0 mid Q e' st' := by subst h0 h1; rfl
attribute [congr] wOpt_lazy wAgg_lazy wSt_lazy wBuild_lazy wSl_lazy wNone_lazy vBinH_lazy vNe_lazy vConvH_lazy vStr_lazy vMake_lazy vCopy_lazy vCopyB_lazy wSrc_lazy wApB_lazy wAp_lazy wMap_lazy wLook_lazy wKf_lazy wEnt_lazy wEst_lazy vLookup_lazy vMapEntry_lazy vEntryStore_lazy wGd_lazy vCut_lazy vStop_lazy vJoin_lazy
end Go.Sx
