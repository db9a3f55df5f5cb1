/- Code on virtual states: one function that says what must hold for a walk to come to an end of which Q holds; and that it does so. -/
import Derived.Test.YtnlammgemaapnaaSxFc
import Derived.LoopN
import Derived.Scope
set_option linter.unusedSimpArgs false
set_option linter.unusedVariables false
namespace Go.Sx
open Go

structure St where
  t : List (Option VV)
  h : List Blk

def tget (t : List (Option VV)) (n : Nat) : Option VV :=
  match nth t n with
  | some v => v
  | none => none
def tput (t : List (Option VV)) (d : Option Tmp) (v : VV) : List (Option VV) :=
  match d with
  | some n => lset t n (some v)
  | none => t
def ev (t : List (Option VV)) : Operand → Option VV
  | .tmp n => tget t n
  | .const v => ofVal v
  | .func f => some (.func f [] [])
  | .global _ => none
def evs (t : List (Option VV)) : List Operand → Option (List VV)
  | [] => some []
  | x :: l => match ev t x, evs t l with
    | some v, some r => some (v :: r)
    | _, _ => none

def RepT (β : Val) (n : Nat) (t : List (Option VV)) (tmps : Array Value) : Prop :=
  t.length = tmps.size ∧ ∀ (i : Nat) v, t[i]? = some (some v) → tmps[i]? = some (den β v) ∧ gd β n v

/-- The beginning of the function's walk. -/
structure Entry where
  β : Val
  h : List Blk
  w : World
  fr : Bool
/-- How many blocks there were at the function's beginning; whether no more blocks are kept for good. -/
structure N0 where
  n : Nat
  fr : Bool
def Entry.key (E : Entry) : N0 := ⟨E.h.length, E.fr⟩
structure Rep (E : Entry) (st : St) (β : Val) (a : Act) (w : World) : Prop where
  t : RepT β st.h.length st.t a.tmps
  d : a.defers = []
  h : RepH β st.h w
  l : Link E.β E.h E.w β st.h w
  s : E.fr = true → β.fz = E.β.fz

theorem RepT.move {β β' : Val} {n n' : Nat} {t : List (Option VV)} {tmps : Array Value} (r : RepT β n t tmps) (hn : n ≤ n') (hβ : ∀ i, i < n → β' i = β i) (hF : FLe β.fz β'.fz) : RepT β' n' t tmps :=
  ⟨r.1, fun i v hv => ⟨by rw [(r.2 i v hv).1, den_congr hβ v (r.2 i v hv).2.1], gd_mono hn hF (r.2 i v hv).2⟩⟩
theorem RepT.put {β : Val} {n : Nat} {t : List (Option VV)} {tmps : Array Value} (r : RepT β n t tmps) (d : Tmp) (v : VV) (hb : gd β n v) : RepT β n (lset t d (some v)) (tmps.setIfInBounds d (den β v)) := by
  rw [lset_eq]
  refine ⟨by simpa using r.1, fun i u hu => ?_⟩
  by_cases hi : i = d
  · subst hi
    rw [List.getElem?_set] at hu
    simp only [if_true] at hu
    split at hu
    · injection hu with hu; injection hu with hu; subst hu
      rename_i hlt
      have : i < tmps.size := by rw [← r.1]; exact hlt
      exact ⟨by simp [this], hb⟩
    · cases hu
  · rw [List.getElem?_set_ne (Ne.symm hi)] at hu
    exact ⟨by rw [Array.getElem?_setIfInBounds_ne (Ne.symm hi)]; exact (r.2 i u hu).1, (r.2 i u hu).2⟩
theorem tget_some {t : List (Option VV)} {n : Nat} {v : VV} (hv : tget t n = some v) : t[n]? = some (some v) := by
  unfold tget at hv
  rw [nth_eq] at hv
  split at hv
  · rename_i u hu; rw [hu, hv]
  · cases hv
theorem ev_ok {β : Val} {n : Nat} {t : List (Option VV)} {a : Act} (r : RepT β n t a.tmps) : ∀ x v, ev t x = some v → a.eval x = den β v ∧ gd β n v
  | .tmp i, v, hv => by
    have := r.2 i v (tget_some hv)
    exact ⟨by simp only [Act.eval, Array.getD_eq_getD_getElem?, this.1, Option.getD_some], this.2⟩
  | .const c, v, hv => by
    have := ofVal_den β c v hv
    exact ⟨this.1.symm, gd_mono (Nat.zero_le _) (FLe.refl _) this.2⟩
  | .func f, v, hv => by simp only [ev, Option.some.injEq] at hv; subst hv; exact ⟨rfl, ⟨trivial, trivial⟩, ⟨trivial, trivial⟩⟩
  | .global g, v, hv => by simp [ev] at hv
theorem evs_ok {β : Val} {n : Nat} {t : List (Option VV)} {a : Act} (r : RepT β n t a.tmps) : ∀ l vs, evs t l = some vs → l.map a.eval = denL β vs ∧ gdL β n vs
  | [], vs, hv => by simp [evs] at hv; subst hv; exact ⟨rfl, gdL_nil⟩
  | x :: l, vs, hv => by
    simp only [evs] at hv
    split at hv
    · rename_i v r' h1 h2
      injection hv with hv; subst hv
      have e1 := ev_ok r x v h1
      have e2 := evs_ok r l r' h2
      exact ⟨by simp [denL, e1.1, e2.1], gdL_cons e1.2 e2.2⟩
    · cases hv

/-! ### One operation that is no call of a Go function -/
def vWith (x : Option VV) (K : VV → Prop) : Prop := match x with | some v => K v | none => False
def vPickB : Bool → Option VV → Option VV → (VV → Prop) → Prop
  | true, a, _, K => vWith a K
  | false, _, b, K => vWith b K
theorem vPickB_bools (c x y : Bool) (K : VV → Prop) : vPickB c (some (.bool x)) (some (.bool y)) K = K (.bool (if c then x else y)) := by cases c <;> rfl
def vPick (c a b : Option VV) (K : VV → Prop) : Prop :=
  match c with
  | some (.bool c) => vPickB c a b K
  | _ => False
def vFunc (fn : Fn) (a b : Option (List VV)) (K : VV → Prop) : Prop :=
  match fn, a, b with
  | .func f, some a, some b => K (.func f a b)
  | _, _, _ => False
def vBuiltin (P : Program) (b : Builtin) (ts : List TypeId) (as : Option (List VV)) (h : List Blk) (K : VV → List Blk → Prop) : Prop :=
  match b, ts, as with
  | .len, [t], some [x] => vLen P t x h K
  | .append, [t, t'], some [s, x] => appT P t t' ∧ vApp P t s x h K
  | .copy, [t, t'], some [s, x] => t = t' ∧ vCopy P t s x h K
  | .max, _, some [.int k x, .int k' y] => K (.int k (if y > x then y else x)) h
  | .min, _, some [.int k x, .int k' y] => K (.int k (if y < x then y else x)) h
  | _, _, _ => False
def vop (P : Program) (o : Op) (t : List (Option VV)) (h : List Blk) (K : VV → List Blk → Prop) : Prop :=
  match o with
  | .move x | .assign x => vWith (ev t x) fun v => K v h
  | .pick c a b => vPick (ev t c) (ev t a) (ev t b) fun v => K v h
  | .alloc ty => vAlloc P ty h K
  | .box ty x => vWith (ev t x) fun v => vBox ty v h K
  | .build ty ps => vBuild P ty (vParts (ev t) ps.toList) h K
  | .buildSlice ty n ps => vBuildSlice P ty n (vParts (ev t) ps.toList) h K
  | .load ty x => vWith (ev t x) fun p => vLoad P ty p h K
  | .store ty p x => vWith (ev t p) fun p => vWith (ev t x) fun v => vStore P ty p v h K
  | .nilCheck x => vWith (ev t x) fun v => vNilCheck v h K
  | .binOp op ty x y _ => vWith (ev t x) fun a => vWith (ev t y) fun b => vBinH P op ty a b h K
  | .unOp op _ x => vWith (ev t x) fun a => vUn op a fun v => K v h
  | .convert s d x => vWith (ev t x) fun a => vConvH P s d a h K
  | .makeFunc fn a b => vFunc fn (evs t a.toList) (evs t b.toList) fun v => K v h
  | .slice ty x lo hi mx => vWith (ev t x) fun v => vSlice P ty v (optV (ev t) lo) (optV (ev t) hi) (optV (ev t) mx) h K
  | .fieldAddr ty x f => vWith (ev t x) fun v => vFieldAddr P ty v f h K
  | .field ty x f => vWith (ev t x) fun v => vField P ty v f h K
  | .indexAddr ty x i => vWith (ev t x) fun v => vWith (ev t i) fun i => vIndexAddr P ty v i h K
  | .index ty x i => vWith (ev t x) fun v => vWith (ev t i) fun i => vIndex P ty v i h K
  | .extract x i => vWith (ev t x) fun v => vExtract v i h K
  | .makeSlice ty l c => vWith (ev t l) fun l => vWith (ev t c) fun c => vMake P ty l c h K
  | .makeMap _ none => K (.map h.length) (h ++ [.map true [] 0])
  | .lookup ty x i ok => vWith (ev t x) fun m => vWith (ev t i) fun k => vLookup P ty m k ok h K
  | .mapEntry ty x i => vWith (ev t x) fun m => vWith (ev t i) fun k => vMapEntry P ty m k h K
  | .entryStore _ m s x => vWith (ev t m) fun m => vWith (ev t s) fun s => vWith (ev t x) fun x => vEntryStore m s x h K
  | .call { callee := .builtin b, args, argTypes } => vBuiltin P b argTypes.toList (evs t args.toList) h K
  | _ => False

section
variable {P : Program} {β : Val} {h : List Blk} {w : World} {K : VV → List Blk → Prop}
theorem vWith_some {x : Option VV} {K' : VV → Prop} (hv : vWith x K') : ∃ v, x = some v ∧ K' v := by
  cases x with
  | none => exact hv.elim
  | some v => exact ⟨v, rfl, hv⟩
theorem vPick_ok {c a b : Option VV} {K' : VV → Prop} (hv : vPick c a b K') : ∃ x v, c = some (.bool x) ∧ (if x then a else b) = some v ∧ K' v := by
  unfold vPick at hv
  split at hv
  · rename_i c'
    cases c'
    · obtain ⟨v, hv1, hv2⟩ := vWith_some hv; exact ⟨false, v, rfl, hv1, hv2⟩
    · obtain ⟨v, hv1, hv2⟩ := vWith_some hv; exact ⟨true, v, rfl, hv1, hv2⟩
  · exact hv.elim
theorem vop_ok {o : Op} {ty : TypeId} {dst : Option Tmp} {pos : String} {af : Array Edge} {gu : Option (Nat × Bool)} {t : List (Option VV)} {a : Act} (hv : vop P o t h K) (rt : RepT β h.length t a.tmps) (r : RepH β h w) :
    Yld P (execOp a.eval { dst, op := o, type := ty, pos, after := af, guard := gu }) β h w K := by
  have he := ev_ok rt
  cases o with
  | move x => obtain ⟨v, hx, hK⟩ := vWith_some hv; exact Yld.here r (by simp only [execOp, (he x v hx).1, Sem.run_pure]) (he x v hx).2 hK
  | assign x => obtain ⟨v, hx, hK⟩ := vWith_some hv; exact Yld.here r (by simp only [execOp, (he x v hx).1, Sem.run_pure]) (he x v hx).2 hK
  | pick c x y =>
    obtain ⟨b, v, hc, hx, hK⟩ := vPick_ok hv
    have e1 := (he c _ hc).1
    cases b
    · have e2 := he y v hx
      exact Yld.here r (by simp only [execOp, e1, den, asBool, Sem.run_bind, Sem.run_pure, Result.andThen_ok, Bool.false_eq_true, if_false, e2.1]) e2.2 hK
    · have e2 := he x v hx
      exact Yld.here r (by simp only [execOp, e1, den, asBool, Sem.run_bind, Sem.run_pure, Result.andThen_ok, if_true, e2.1]) e2.2 hK
  | alloc e => exact Yld.of (vAlloc_ok hv r)
  | box e x => obtain ⟨v, hx, hK⟩ := vWith_some hv; have e1 := he x v hx; simp only [execOp, e1.1]; exact Yld.of (vBox_ok hK r e1.2)
  | build e ps => exact Yld.of ((vBuild_ok he hv r).yld r)
  | buildSlice e n ps => exact Yld.of (vBuildSlice_ok he hv r)
  | load e x => obtain ⟨v, hx, hK⟩ := vWith_some hv; have e1 := he x v hx; simp only [execOp, e1.1]; exact Yld.of ((vLoad_ok hK r e1.2).yld r)
  | store e p x =>
    obtain ⟨v, hx, hK⟩ := vWith_some hv
    obtain ⟨u, hy, hK⟩ := vWith_some hK
    have e1 := he p v hx
    have e2 := he x u hy
    simp only [execOp, e1.1, e2.1]
    exact vStore_ok hK r e2.2
  | nilCheck x =>
    obtain ⟨v, hx, hK⟩ := vWith_some hv
    have e1 := he x v hx
    unfold vNilCheck at hK
    split at hK
    · rename_i id idx sz fo
      obtain ⟨hA, hK⟩ := hK
      obtain ⟨p, hp⟩ := vAt_ok hA r
      exact Yld.here r (by simp only [execOp, e1.1, den, adr, hp, Option.map_some, Sem.run_pure]) e1.2 hK
    · exact Yld.here r (by simp only [execOp, e1.1, den, Sem.run_pure]) e1.2 hK
    · exact Yld.here r (by simp only [execOp, e1.1, den, Sem.run_pure]) e1.2 hK
    · exact hK.elim
  | binOp op e x y e' =>
    obtain ⟨v, hx, hK⟩ := vWith_some hv
    obtain ⟨u, hy, hK⟩ := vWith_some hK
    simp only [execOp, (he x v hx).1, (he y u hy).1]
    exact Yld.of ((vBinH_ok hK r (he x v hx).2).yld r)
  | unOp op e x => obtain ⟨v, hx, hK⟩ := vWith_some hv; simp only [execOp, (he x v hx).1]; exact Yld.of ((vUn_ok hK r).yld r)
  | convert s d x => obtain ⟨v, hx, hK⟩ := vWith_some hv; simp only [execOp, (he x v hx).1]; exact Yld.of ((vConvH_ok hK r (he x v hx).2).yld r)
  | makeFunc fn x y =>
    simp only [vop, vFunc] at hv
    split at hv
    · rename_i f a' b' h1 h2
      have e1 := evs_ok rt _ _ h1
      have e2 := evs_ok rt _ _ h2
      refine Yld.here (v := .func f a' b') r ?_ ⟨⟨e1.2.1, e2.2.1⟩, ⟨e1.2.2, e2.2.2⟩⟩ hv
      simp only [execOp, Instr.makeFunc, Sem.run_bind, Sem.run_pure, Result.andThen_ok, den, ← e1.1, ← e2.1]
      have e3 : ∀ (z : Array Operand), z.map a.eval = (z.toList.map a.eval).toArray := fun z => Array.ext' (by simp)
      rw [e3 x, e3 y]
    · exact hv.elim
  | slice e x lo hi mx => obtain ⟨v, hx, hK⟩ := vWith_some hv; simp only [execOp, (he x v hx).1]; exact Yld.of (vSlice_ok he hK r (he x v hx).2)
  | fieldAddr e x f => obtain ⟨v, hx, hK⟩ := vWith_some hv; simp only [execOp, (he x v hx).1]; exact Yld.of ((vFieldAddr_ok hK r (he x v hx).2).yld r)
  | field e x f => obtain ⟨v, hx, hK⟩ := vWith_some hv; have e1 := he x v hx; simp only [execOp, e1.1]; exact Yld.of ((vField_ok hK r e1.2).yld r)
  | indexAddr e x i =>
    obtain ⟨v, hx, hK⟩ := vWith_some hv
    obtain ⟨u, hy, hK⟩ := vWith_some hK
    simp only [execOp, (he x v hx).1, (he i u hy).1]
    exact Yld.of ((vIndexAddr_ok hK r (he x v hx).2).yld r)
  | index e x i =>
    obtain ⟨v, hx, hK⟩ := vWith_some hv
    obtain ⟨u, hy, hK⟩ := vWith_some hK
    have e1 := he x v hx
    simp only [execOp, e1.1, (he i u hy).1]
    exact Yld.of ((vIndex_ok hK r e1.2).yld r)
  | extract x i => obtain ⟨v, hx, hK⟩ := vWith_some hv; have e1 := he x v hx; simp only [execOp, e1.1]; exact Yld.of ((vExtract_ok hK r e1.2).yld r)
  | makeSlice e l c =>
    obtain ⟨v, hx, hK⟩ := vWith_some hv
    obtain ⟨u, hy, hK⟩ := vWith_some hK
    simp only [execOp, (he l v hx).1, (he c u hy).1]
    exact Yld.of (vMake_ok hK r)
  | makeMap e rs =>
    cases rs with
    | none => simp only [execOp, Option.map_none]; exact Yld.of (vMakeMap_ok hv r)
    | some _ => exact hv.elim
  | lookup e x i ok =>
    obtain ⟨m, hx, hK⟩ := vWith_some hv
    obtain ⟨k, hy, hK⟩ := vWith_some hK
    simp only [execOp, (he x m hx).1, (he i k hy).1]
    exact Yld.of ((vLookup_ok hK r).yld r)
  | mapEntry e x i =>
    obtain ⟨m, hx, hK⟩ := vWith_some hv
    obtain ⟨k, hy, hK⟩ := vWith_some hK
    simp only [execOp, (he x m hx).1, (he i k hy).1]
    exact Yld.of (vMapEntry_ok hK r (he i k hy).2)
  | entryStore e m s x =>
    obtain ⟨mv, hm, hK⟩ := vWith_some hv
    obtain ⟨sv, hs, hK⟩ := vWith_some hK
    obtain ⟨xv, hx, hK⟩ := vWith_some hK
    obtain ⟨β', h', w', hr, R, L, hK⟩ := vEntryStore_ok (P := P) (t := e) hK r (he x xv hx).2
    refine ⟨β', h', w', .tup [], .inr ⟨?_, rfl⟩, R, L, ⟨trivial, trivial⟩, hK⟩
    simp only [execOp, (he m mv hm).1, (he s sv hs).1, (he x xv hx).1, Sem.run_bind, hr, Result.andThen_ok, Sem.run_pure]
  | call c =>
    obtain ⟨callee, args, argTypes⟩ := c
    cases callee with
    | builtin b =>
      simp only [vop] at hv
      have hargs : ∀ vs, evs t args.toList = some vs → args.map a.eval = (denL β vs).toArray ∧ gdL β h.length vs := fun vs hvs => by
        obtain ⟨e1, e2⟩ := evs_ok rt _ _ hvs
        exact ⟨Array.ext' (by rw [← e1]; simp), e2⟩
      have hts : ∀ l, argTypes.toList = l → argTypes = l.toArray := fun l hl => by subst hl; rfl
      unfold vBuiltin at hv
      split at hv
      · rename_i t' x h1 h2
        obtain ⟨e1, e2⟩ := hargs _ h2
        obtain rfl := hts _ h1
        have := (vLen_ok (P := P) (ty := ty) hv r).yld r
        obtain ⟨β', h', w', v, hr, rest⟩ := this
        refine ⟨β', h', w', v, .inl ?_, rest⟩
        simp only [execOp, resolve, Sem.run_bind, Sem.run_pure, Result.andThen_ok, invoke, builtin, e1, denL, hr]
      · rename_i t' t'' s x h1 h2
        obtain ⟨ht, hv⟩ := hv
        obtain ⟨e1, e2⟩ := hargs _ h2
        obtain rfl := hts _ h1
        have := vApp_ok2 (P := P) (ty := ty) ht hv r (gd_mem e2 (i := 0) rfl) (gd_mem e2 (i := 1) rfl)
        obtain ⟨β', h', w', v, hr, rest⟩ := this
        refine ⟨β', h', w', v, .inl ?_, rest⟩
        simp only [execOp, resolve, Sem.run_bind, Sem.run_pure, Result.andThen_ok, invoke, builtin, e1, denL, hr]
      · rename_i t' t'' s x h1 h2
        obtain ⟨rfl, hv⟩ := hv
        obtain ⟨e1, e2⟩ := hargs _ h2
        obtain rfl := hts _ h1
        have := vCopy_ok (P := P) (ty0 := ty) hv r (gd_mem e2 (i := 1) rfl)
        obtain ⟨β', h', w', v, hr, rest⟩ := this
        refine ⟨β', h', w', v, .inl ?_, rest⟩
        simp only [execOp, resolve, Sem.run_bind, Sem.run_pure, Result.andThen_ok, invoke, builtin, e1, denL, hr]
      · rename_i k x k' y h2
        obtain ⟨e1, e2⟩ := hargs _ h2
        refine Yld.here (v := .int k (if y > x then y else x)) r ?_ ⟨trivial, trivial⟩ hv
        simp only [execOp, resolve, Sem.run_bind, Sem.run_pure, Result.andThen_ok, invoke, builtin, e1, denL, den, Builtin.max_]
        rfl
      · rename_i k x k' y h2
        obtain ⟨e1, e2⟩ := hargs _ h2
        refine Yld.here (v := .int k (if y < x then y else x)) r ?_ ⟨trivial, trivial⟩ hv
        simp only [execOp, resolve, Sem.run_bind, Sem.run_pure, Result.andThen_ok, invoke, builtin, e1, denL, den, Builtin.min_]
        rfl
      · exact hv.elim
    | value f => exact hv.elim
    | invoke x s => exact hv.elim
  | _ => exact hv.elim
end
end Go.Sx
