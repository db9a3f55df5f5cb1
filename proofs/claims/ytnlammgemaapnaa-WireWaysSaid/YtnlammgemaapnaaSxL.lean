/- Code as simp runs it: the rest of the code is a list, a test that is taken is known from then on; and what simp leaves alone: all that comes after. -/
import Derived.Test.YtnlammgemaapnaaSxK
import Derived.IntWalk
set_option linter.unusedSimpArgs false
set_option linter.unusedVariables false
namespace Go.Sx
open Go
/-- A word that simp always turns: so a congruence counts as used. -/
def Tick : Prop := True
theorem tick : Tick ↔ True := ⟨fun _ => trivial, fun _ => trivial⟩

/-! ### Regions -/
def gput (all : List Oper) (j : Nat) (t : List (Option VV)) (b : Bool) : List (Option VV) :=
  match nth all j with
  | some o => tput t o.dst (.bool b)
  | none => t
theorem lset_same {α : Type} : ∀ (l : List α) (n : Nat) (x : α), nth l n = some x → lset l n x = l
  | [], _, _, h => rfl
  | y :: l, 0, x, h => by simp only [nth, Option.some.injEq] at h; rw [lset, h]
  | y :: l, n + 1, x, h => by rw [lset, lset_same l n x h]
theorem tput_same {t : List (Option VV)} {n : Nat} {v : VV} (h : tget t n = some v) : lset t n (some v) = t := by
  apply lset_same
  unfold tget at h
  split at h
  · rename_i u hu; rw [hu, h]
  · cases h
theorem gput_same {all : List Oper} {j : Nat} {t : List (Option VV)} {b : Bool} (h : gslot all j t = some (.bool b)) : gput all j t b = t := by
  unfold gslot at h
  unfold gput
  split at h
  · rename_i o ho
    simp only [ho]
    split at h
    · rename_i d hd
      simp only [hd]; exact tput_same h
    · cases h
  · cases h
/-- A test. -/
def vB (b : Bool) (A B : Prop) : Prop := (b = true → A) ∧ (b = false → B)
theorem vB_true {A B : Prop} : vB true A B = A := propext ⟨fun h => h.1 rfl, fun h => ⟨fun _ => h, fun e => by cases e⟩⟩
theorem vB_false {A B : Prop} : vB false A B = B := propext ⟨fun h => h.2 rfl, fun h => ⟨fun e => (by cases e), fun _ => h⟩⟩
theorem vB_not {b : Bool} {A B : Prop} : vB (!b) A B = vB b B A := by cases b <;> simp only [Bool.not_true, Bool.not_false, vB_true, vB_false]
theorem vB_decide {p : Prop} [Decidable p] {A B : Prop} : vB (decide p) A B = ((p → A) ∧ (¬p → B)) := by
  by_cases h : p <;> simp [h, vB_true, vB_false]
theorem vB_beq {x y : Int} {A B : Prop} : vB (x == y) A B = ((x = y → A) ∧ (¬x = y → B)) := by
  by_cases h : x = y <;> simp [vB, h]
theorem vB_bne {x y : Int} {A B : Prop} : vB (x != y) A B = ((¬x = y → A) ∧ (x = y → B)) := by
  by_cases h : x = y <;> simp [vB, h]
theorem vB_beqB {x y : Bool} {A B : Prop} : vB (x == y) A B = ((x = y → A) ∧ (¬x = y → B)) := by
  by_cases h : x = y <;> simp [vB, h]
theorem vB_bneB {x y : Bool} {A B : Prop} : vB (x != y) A B = ((¬x = y → A) ∧ (x = y → B)) := by
  by_cases h : x = y <;> simp [vB, h]
theorem vB_and {a b : Bool} {A B : Prop} : vB (a && b) A B = vB a (vB b A B) B := by cases a <;> simp only [Bool.false_and, Bool.true_and, vB_true, vB_false]
/-- A guard: what is taken knows its outcome. -/
def vG (all : List Oper) (j : Nat) (want : Bool) (g : Option VV) (t : List (Option VV)) (A B : List (Option VV) → Prop) : Prop :=
  match g with
  | some (.bool b) => match want with
    | true => vB b (A (gput all j t true)) (B (gput all j t false))
    | false => vB b (B (gput all j t true)) (A (gput all j t false))
  | some (.tup _) => B t
  | _ => False
theorem vG_eq {all : List Oper} {j : Nat} {want : Bool} {t : List (Option VV)} {A B : List (Option VV) → Prop} : vG all j want (gslot all j t) t A B = vGuard (gslot all j t) want (A t) (B t) := by
  unfold vG vGuard
  split
  · rename_i b hb
    simp only [hb]
    cases b <;> cases want <;> simp only [vB_true, vB_false, gput_same hb, ne_eq, not_true_eq_false, reduceCtorEq, not_false_eq_true, true_implies, false_implies, and_true, true_and, forall_const]
  · rename_i l hl; simp only [hl]
  · rename_i h1 h2
    split
    · rename_i b hb; exact (h1 b hb).elim
    · rename_i l hl; exact (h2 l hl).elim
    · rfl
def wrun (P : Program) (fr : Bool) (all : List Oper) : List Oper → St → (St → Prop) → Prop
  | [], st, K => K st
  | o :: l, st, K => match o.guard with
    | none => vstep P fr o st fun st' => wrun P fr all l st' K
    | some (j, want) => vG all j want (gslot all j st.t) st.t (fun t => vstep P fr o ⟨t, st.h⟩ fun st' => wrun P fr all l st' K) (fun t => wrun P fr all l ⟨tput t o.dst (.tup []), st.h⟩ K)
theorem wrun_eq {P : Program} {fr : Bool} {all : List Oper} : ∀ (l : List Oper) (st : St) (K : St → Prop), wrun P fr all l st K = vrun P fr all l st K
  | [], st, K => rfl
  | o :: l, st, K => by
    have ih : (fun st' => wrun P fr all l st' K) = (fun st' => vrun P fr all l st' K) := funext fun st' => wrun_eq l st' K
    have ih' : ∀ st', wrun P fr all l st' K = vrun P fr all l st' K := fun st' => wrun_eq l st' K
    unfold wrun vrun
    split
    · rename_i hg; rw [ih]; simp only [hg]
    · rename_i j want hg; rw [vG_eq]; simp only [hg, ih, ih']

/-! ### Code -/
inductive KF where
  | seq (y : Code)
  | blk (id : Nat)
def vk (P : Program) (n0 : N0) : List KF → (Exit → St → Prop) → Exit → St → Prop
  | [], Q => Q
  | .seq y :: ks, Q => fun e st => vThen (vwp P n0 y st (vk P n0 ks Q)) (vk P n0 ks Q e st) e
  | .blk id :: ks, Q => vBlk id (vk P n0 ks Q)
def vgo (P : Program) (n0 : N0) (c : Code) (st : St) (ks : List KF) (Q : Exit → St → Prop) : Prop := vwp P n0 c st (vk P n0 ks Q)
def cput (c : Operand) (t : List (Option VV)) (b : Bool) : List (Option VV) :=
  match c with
  | .tmp n => lset t n (some (.bool b))
  | _ => t
def vC (c : Operand) (t : List (Option VV)) (x : Option VV) (A B : List (Option VV) → Prop) : Prop :=
  match x with
  | some (.bool b) => vB b (A (cput c t true)) (B (cput c t false))
  | _ => False
section
variable {P : Program} {n0 : N0} {st : St} {ks : List KF} {Q : Exit → St → Prop}
theorem go_skip : vgo P n0 .skip st ks Q = vk P n0 ks Q .normal st := rfl
theorem go_seq {x y : Code} : vgo P n0 (.seq x y) st ks Q = vgo P n0 x st (.seq y :: ks) Q := rfl
theorem go_blk {id : Nat} {c : Code} : vgo P n0 (.block id c) st ks Q = vgo P n0 c st (.blk id :: ks) Q := rfl
theorem go_exit {id : Nat} : vgo P n0 (.exit id) st ks Q = vk P n0 ks Q (.exit id) st := rfl
theorem go_ret : vgo P n0 .ret st ks Q = vk P n0 ks Q .ret st := rfl
theorem go_goto {l : Nat} : vgo P n0 (.goto l) st ks Q = vk P n0 ks Q (.goto l) st := rfl
theorem go_label {l : Nat} : vgo P n0 (.label l) st ks Q = vk P n0 ks Q .normal st := rfl
theorem go_loop {c : Code} : vgo P n0 (.loop c) st ks Q = VW P n0 (.loop c) st (vk P n0 ks Q) := rfl
theorem go_scope {c : Code} : vgo P n0 (.scope c) st ks Q = VW P n0 (.scope c) st (vk P n0 ks Q) := rfl
theorem go_draw {id : Nat} {l : List Oper} : vgo P n0 (.region id (List.toArray l) true) st ks Q = VW P n0 (.region id (List.toArray l) true) st (vk P n0 ks Q) := rfl
theorem k_nil {e : Exit} : vk P n0 [] Q e st = Q e st := rfl
theorem k_seq {y : Code} : vk P n0 (.seq y :: ks) Q .normal st = vgo P n0 y st ks Q := rfl
theorem k_seq_exit {y : Code} {i : Nat} : vk P n0 (.seq y :: ks) Q (.exit i) st = vk P n0 ks Q (.exit i) st := rfl
theorem k_seq_ret {y : Code} : vk P n0 (.seq y :: ks) Q .ret st = vk P n0 ks Q .ret st := rfl
theorem k_seq_goto {y : Code} {l : Nat} : vk P n0 (.seq y :: ks) Q (.goto l) st = vk P n0 ks Q (.goto l) st := rfl
theorem k_blk {i : Nat} : vk P n0 (.blk i :: ks) Q .normal st = vk P n0 ks Q .normal st := rfl
theorem k_blk_exit {i j : Nat} : vk P n0 (.blk i :: ks) Q (.exit j) st = if j = i then vk P n0 ks Q .normal st else vk P n0 ks Q (.exit j) st := rfl
theorem k_blk_ret {i : Nat} : vk P n0 (.blk i :: ks) Q .ret st = vk P n0 ks Q .ret st := rfl
theorem k_blk_goto {i : Nat} {l : Nat} : vk P n0 (.blk i :: ks) Q (.goto l) st = vk P n0 ks Q (.goto l) st := rfl
theorem go_region {k0 : Nat} {fr : Bool} {id : Nat} {l : List Oper} : vgo P ⟨k0, fr⟩ (.region id (List.toArray l) false) st ks Q = wrun P fr l l st fun st' => vk P ⟨k0, fr⟩ ks Q .normal st' := (wrun_eq l st _).symm
theorem go_cond {c : Operand} {x y : Code} : vgo P n0 (.cond c x y) st ks Q = vC c st.t (ev st.t c) (fun t => vgo P n0 x ⟨t, st.h⟩ ks Q) (fun t => vgo P n0 y ⟨t, st.h⟩ ks Q) := by
  have key : ∀ b, ev st.t c = some (.bool b) → cput c st.t b = st.t := fun b hb => by
    unfold cput
    split
    · exact tput_same hb
    · rfl
  show vCond (ev st.t c) (vwp P n0 x st (vk P n0 ks Q)) (vwp P n0 y st (vk P n0 ks Q)) = _
  unfold vC vCond
  split
  · rename_i b hb
    simp only [hb]
    cases b
    · simp only [vB_false, key _ hb, Bool.false_eq_true, false_implies, true_implies, true_and, forall_const]; rfl
    · simp only [vB_true, key _ hb, reduceCtorEq, false_implies, true_implies, and_true, forall_const]; rfl
  · rename_i h1
    split
    · rename_i b hb; exact (h1 b hb).elim
    · rfl
end
/-! ### Loops and bodies -/
/-- What a round's end must show. -/
def vRnd {σ : Type} (n0 : N0) (inv : σ → St) (φ : σ → Prop) (μ : σ → Nat) (s : σ) (Q : Exit → St → Prop) (e : Exit) (st : St) : Prop :=
  vThen (∃ s', φ s' ∧ μ s' < μ s ∧ Le n0 st (inv s')) (Q e st) e
theorem wloop {P : Program} {n0 : N0} {σ : Type} (inv : σ → St) (φ : σ → Prop) (μ : σ → Nat) (s0 : σ) {c : Code} {st : St} {Q : Exit → St → Prop} (h0 : φ s0) (hst : Le n0 st (inv s0))
    (hr : ∀ s, φ s → vgo P n0 c (inv s) [] (vRnd n0 inv φ μ s Q)) : VW P n0 (.loop c) st Q := vloop inv φ μ s0 h0 hst hr
theorem wbody {P : Program} {fr : Bool} {f : FuncId} {fn : Func} {c : Code} {args : List VV} {h : List Blk} {K : VV → List Blk → Prop} (hf : P.funcs[f]? = some fn) (hb : fn.body = some c) (hn : (fn.name == "runtime.NumGoroutine") = false)
    (hv : vgo P ⟨h.length, fr⟩ c ⟨args.map some ++ List.replicate (fn.ntmps - args.length) none, h⟩ [] (vEnd P fn.results.toList K)) : VC P fr f args h K := vcall_body hf hb hn hv
/-- Rounds laid open, n of them. -/
def vrnd (P : Program) (n0 : N0) (c : Code) (Q : Exit → St → Prop) : Nat → St → Prop
  | 0, _ => False
  | n + 1, st => vgo P n0 c st [] fun e st' => vThen (vrnd P n0 c Q n st') (Q e st') e
theorem vrounds {P : Program} {n0 : N0} {c : Code} {st : St} {Q : Exit → St → Prop} (k : Nat) (hv : vrnd P n0 c Q k st) : VW P n0 (.loop c) st Q := by
  refine vround k ?_
  have ee : ∀ n st, vrnd P n0 c Q n st = Nat.rec (motive := fun _ => St → Prop) (fun _ => False) (fun _ ih st => vwp P n0 c st fun e st' => vThen (ih st') (Q e st') e) n st := by
    intro n
    induction n with
    | zero => intro st; rfl
    | succ n ih => intro st; show vwp P n0 c st _ = vwp P n0 c st _; congr 1; funext e st'; show vThen _ _ _ = _; rw [ih st']
  rw [← ee]; exact hv
/-! ### Regions whose order is open -/
def wcrt (P : Program) (all : List Oper) (hk : List Blk) : Crt → St → (St → Prop) → Prop
  | .done, st, K => K st
  | .take i c, st, K => match nth all i with
    | some o => match o.guard with
      | none => vQuiet P o hk st fun st' => wcrt P all hk c st' K
      | some (j, want) => vG all j want (gslot all j st.t) st.t (fun t => vQuiet P o hk ⟨t, st.h⟩ fun st' => wcrt P all hk c st' K) (fun t => wcrt P all hk c ⟨tput t o.dst (.tup []), st.h⟩ K)
    | none => False
  | .view i c, st, K => match nth all i with
    | some o => match o.guard with
      | none => vViewS P o hk st fun st' => wcrt P all hk c st' K
      | some (j, want) => vG all j want (gslot all j st.t) st.t (fun t => vViewS P o hk ⟨t, st.h⟩ fun st' => wcrt P all hk c st' K) (fun t => wcrt P all hk c ⟨tput t o.dst (.tup []), st.h⟩ K)
    | none => False
  | .one i c, st, K => match nth all i with
    | some o => match o.guard with
      | none => vstep P true o st fun st' => kept hk st'.h ∧ wcrt P all hk c st' K
      | some (j, want) => vG all j want (gslot all j st.t) st.t (fun t => vstep P true o ⟨t, st.h⟩ fun st' => kept hk st'.h ∧ wcrt P all hk c st' K) (fun t => wcrt P all hk c ⟨tput t o.dst (.tup []), st.h⟩ K)
    | none => False
  | .two i c j d, st, K => (match nth all i with
    | some o => match o.guard with
      | none => vstep P true o st fun st' => kept hk st'.h ∧ wcrt P all hk c st' K
      | some (j, want) => vG all j want (gslot all j st.t) st.t (fun t => vstep P true o ⟨t, st.h⟩ fun st' => kept hk st'.h ∧ wcrt P all hk c st' K) (fun t => wcrt P all hk c ⟨tput t o.dst (.tup []), st.h⟩ K)
    | none => False) ∧ (match nth all j with
    | some o => match o.guard with
      | none => vstep P true o st fun st' => kept hk st'.h ∧ wcrt P all hk d st' K
      | some (j, want) => vG all j want (gslot all j st.t) st.t (fun t => vstep P true o ⟨t, st.h⟩ fun st' => kept hk st'.h ∧ wcrt P all hk d st' K) (fun t => wcrt P all hk d ⟨tput t o.dst (.tup []), st.h⟩ K)
    | none => False)
theorem wcrt_eq {P : Program} {all : List Oper} {hk : List Blk} {K : St → Prop} : ∀ (c : Crt) (st : St), wcrt P all hk c st K = vcrt P all hk c st K
  | .done, st => rfl
  | .take i c, st => by
    unfold wcrt vcrt
    cases nth all i with
    | none => rfl
    | some o =>
      have e : (fun st' => wcrt P all hk c st' K) = fun st' => vcrt P all hk c st' K := funext fun st' => wcrt_eq c st'
      have e' : ∀ st', wcrt P all hk c st' K = vcrt P all hk c st' K := fun st' => wcrt_eq c st'
      show (match o.guard with | none => _ | some (j, want) => _) = vGd all o st _ _
      unfold vGd
      cases hg : o.guard with
      | none => simp only [e]
      | some p => obtain ⟨j, want⟩ := p; simp only [vG_eq, e, e']
  | .view i c, st => by
    unfold wcrt vcrt
    cases nth all i with
    | none => rfl
    | some o =>
      have e : (fun st' => wcrt P all hk c st' K) = fun st' => vcrt P all hk c st' K := funext fun st' => wcrt_eq c st'
      have e' : ∀ st', wcrt P all hk c st' K = vcrt P all hk c st' K := fun st' => wcrt_eq c st'
      show (match o.guard with | none => _ | some (j, want) => _) = vGd all o st _ _
      unfold vGd
      cases hg : o.guard with
      | none => simp only [e]
      | some p => obtain ⟨j, want⟩ := p; simp only [vG_eq, e, e']
  | .one i c, st => by
    unfold wcrt vcrt
    cases nth all i with
    | none => rfl
    | some o =>
      have e : (fun st' : St => kept hk st'.h ∧ wcrt P all hk c st' K) = fun st' => kept hk st'.h ∧ vcrt P all hk c st' K := funext fun st' => by rw [wcrt_eq c st']
      have e' : ∀ st', wcrt P all hk c st' K = vcrt P all hk c st' K := fun st' => wcrt_eq c st'
      show (match o.guard with | none => _ | some (j, want) => _) = vGd all o st _ _
      unfold vGd
      cases hg : o.guard with
      | none => simp only [e]
      | some p => obtain ⟨j, want⟩ := p; simp only [vG_eq, e, e']
  | .two i c j d, st => by
    have key : ∀ (i : Nat) (c : Crt), (∀ st', wcrt P all hk c st' K = vcrt P all hk c st' K) → (match nth all i with
        | some o => match o.guard with
          | none => vstep P true o st fun st' => kept hk st'.h ∧ wcrt P all hk c st' K
          | some (j, want) => vG all j want (gslot all j st.t) st.t (fun t => vstep P true o ⟨t, st.h⟩ fun st' => kept hk st'.h ∧ wcrt P all hk c st' K) (fun t => wcrt P all hk c ⟨tput t o.dst (.tup []), st.h⟩ K)
        | none => False) = (match nth all i with
        | some o => vGd all o st (vstep P true o st fun st' => kept hk st'.h ∧ vcrt P all hk c st' K) (vcrt P all hk c ⟨tput st.t o.dst (.tup []), st.h⟩ K)
        | none => False) := fun i c e' => by
      cases nth all i with
      | none => rfl
      | some o =>
        have e : (fun st' : St => kept hk st'.h ∧ wcrt P all hk c st' K) = fun st' => kept hk st'.h ∧ vcrt P all hk c st' K := funext fun st' => by rw [e' st']
        show (match o.guard with | none => _ | some (j, want) => _) = vGd all o st _ _
        unfold vGd
        cases hg : o.guard with
        | none => simp only [e]
        | some p => obtain ⟨j, want⟩ := p; simp only [vG_eq, e, e']
    unfold wcrt vcrt
    exact congr (congrArg And (key i c fun st' => wcrt_eq c st')) (key j d fun st' => wcrt_eq d st')
theorem wdraw {P : Program} {n0 : N0} {id : Nat} {l : List Oper} {st : St} {Q : Exit → St → Prop} (c : Crt) (hk : List Blk) (hm : P.follows .mixedOrders = true)
    (hc : (Region.noSelect (List.toArray l) && okC (List.toArray l) (Array.replicate (List.toArray l).size false) c && decide (c.depth ≤ (List.toArray l).size)) = true)
    (hs : kept hk st.h) (hb : bdH hk.length hk) (hv : wcrt P l hk c st (Q .normal)) : VW P n0 (.region id (List.toArray l) true) st Q :=
  vdraw c hk hm hc hs hb (by rw [wcrt_eq] at hv; exact hv)


theorem vstep_lazy {P : Program} {fr : Bool} {o : Oper} {st st' : St} {K : St → Prop} {tk' : Prop} (_tk : Tick = tk') (h0 : st = st') : vstep P fr o st K = vstep P fr o st' K := by subst h0; rfl
theorem vop_lazy {P : Program} {o : Op} {t t' : List (Option VV)} {h h' : List Blk} {K : VV → List Blk → Prop} {tk' : Prop} (_tk : Tick = tk') (h0 : t = t') (h1 : h = h') : vop P o t h K = vop P o t' h' K := by subst h0 h1; rfl
theorem vWith_lazy {x x' : Option VV} {K : VV → Prop} {tk' : Prop} (_tk : Tick = tk') (h0 : x = x') : vWith x K = vWith x' K := by subst h0; rfl
theorem vPickB_lazy {c c' : Bool} {a : Option VV} {b : Option VV} {K : VV → Prop} {tk' : Prop} (_tk : Tick = tk') (h0 : c = c') : vPickB c a b K = vPickB c' a b K := by subst h0; rfl
theorem vPick_lazy {c c' : Option VV} {a : Option VV} {b : Option VV} {K : VV → Prop} {tk' : Prop} (_tk : Tick = tk') (h0 : c = c') : vPick c a b K = vPick c' a b K := by subst h0; rfl
theorem vFunc_lazy {fn : Fn} {a a' : Option (List VV)} {b b' : Option (List VV)} {K : VV → Prop} {tk' : Prop} (_tk : Tick = tk') (h0 : a = a') (h1 : b = b') : vFunc fn a b K = vFunc fn a' b' K := by subst h0 h1; rfl
theorem vBuiltin_lazy {P : Program} {b : Builtin} {ts ts' : List TypeId} {as as' : Option (List VV)} {h h' : List Blk} {K : VV → List Blk → Prop} {tk' : Prop} (_tk : Tick = tk') (h0 : ts = ts') (h1 : as = as') (h2 : h = h') : vBuiltin P b ts as h K = vBuiltin P b ts' as' h' K := by subst h0 h1 h2; rfl
theorem vThen_lazy {A : Prop} {B : Prop} {e e' : Exit} {tk' : Prop} (_tk : Tick = tk') (h0 : e = e') : vThen A B e = vThen A B e' := by subst h0; rfl
theorem vEnd_lazy {P : Program} {rs rs' : List ResultVar} {K : VV → List Blk → Prop} {e e' : Exit} {st st' : St} {tk' : Prop} (_tk : Tick = tk') (h0 : rs = rs') (h1 : e = e') (h2 : st = st') : vEnd P rs K e st = vEnd P rs' K e' st' := by subst h0 h1 h2; rfl
theorem vEnter_lazy {P : Program} {fr : Bool} {f f' : Option VV} {as as' : Option (List VV)} {h h' : List Blk} {K : VV → List Blk → Prop} {tk' : Prop} (_tk : Tick = tk') (h0 : f = f') (h1 : as = as') (h2 : h = h') : vEnter P fr f as h K = vEnter P fr f' as' h' K := by subst h0 h1 h2; rfl
theorem VC_lazy {P : Program} {fr : Bool} {f : FuncId} {args args' : List VV} {h h' : List Blk} {K : VV → List Blk → Prop} {tk' : Prop} (_tk : Tick = tk') (h0 : args = args') (h1 : h = h') : VC P fr f args h K = VC P fr f args' h' K := by subst h0 h1; rfl
theorem VW_lazy {P : Program} {n0 : N0} {c : Code} {st st' : St} {Q : Exit → St → Prop} {tk' : Prop} (_tk : Tick = tk') (h0 : st = st') : VW P n0 c st Q = VW P n0 c st' Q := by subst h0; rfl
theorem vTake_lazy {P : Program} {t : TypeId} {l l' : List VV} {fo fo' : Nat} {K : VV → Prop} {tk' : Prop} (_tk : Tick = tk') (h0 : l = l') (h1 : fo = fo') : vTake P t l fo K = vTake P t l' fo' K := by subst h0 h1; rfl
theorem vCont_lazy {b b' : Blk} {idx idx' : Nat} {sz sz' : Nat} {K : List VV → Prop} {tk' : Prop} (_tk : Tick = tk') (h0 : b = b') (h1 : idx = idx') (h2 : sz = sz') : vCont b idx sz K = vCont b' idx' sz' K := by subst h0 h1 h2; rfl
theorem vLoad_lazy {P : Program} {t : TypeId} {p p' : VV} {h h' : List Blk} {K : VV → List Blk → Prop} {tk' : Prop} (_tk : Tick = tk') (h0 : p = p') (h1 : h = h') : vLoad P t p h K = vLoad P t p' h' K := by subst h0 h1; rfl
theorem vStore_lazy {P : Program} {t : TypeId} {p p' : VV} {v v' : VV} {h h' : List Blk} {K : VV → List Blk → Prop} {tk' : Prop} (_tk : Tick = tk') (h0 : p = p') (h1 : v = v') (h2 : h = h') : vStore P t p v h K = vStore P t p' v' h' K := by subst h0 h1 h2; rfl
theorem vNew_lazy {t : TypeId} {l l' : List VV} {h h' : List Blk} {K : VV → List Blk → Prop} {tk' : Prop} (_tk : Tick = tk') (h0 : l = l') (h1 : h = h') : vNew t l h K = vNew t l' h' K := by subst h0 h1; rfl
theorem vAlloc_lazy {P : Program} {t : TypeId} {h h' : List Blk} {K : VV → List Blk → Prop} {tk' : Prop} (_tk : Tick = tk') (h0 : h = h') : vAlloc P t h K = vAlloc P t h' K := by subst h0; rfl
theorem vBox_lazy {t : TypeId} {v v' : VV} {h h' : List Blk} {K : VV → List Blk → Prop} {tk' : Prop} (_tk : Tick = tk') (h0 : v = v') (h1 : h = h') : vBox t v h K = vBox t v' h' K := by subst h0 h1; rfl
theorem vFieldAddr_lazy {P : Program} {s : TypeId} {p p' : VV} {f : Nat} {h h' : List Blk} {K : VV → List Blk → Prop} {tk' : Prop} (_tk : Tick = tk') (h0 : p = p') (h1 : h = h') : vFieldAddr P s p f h K = vFieldAddr P s p' f h' K := by subst h0 h1; rfl
theorem vIndexAddr_lazy {P : Program} {t : TypeId} {x x' : VV} {i i' : VV} {h h' : List Blk} {K : VV → List Blk → Prop} {tk' : Prop} (_tk : Tick = tk') (h0 : x = x') (h1 : i = i') (h2 : h = h') : vIndexAddr P t x i h K = vIndexAddr P t x' i' h' K := by subst h0 h1 h2; rfl
theorem vNilCheck_lazy {x x' : VV} {h h' : List Blk} {K : VV → List Blk → Prop} {tk' : Prop} (_tk : Tick = tk') (h0 : x = x') (h1 : h = h') : vNilCheck x h K = vNilCheck x' h' K := by subst h0 h1; rfl
theorem vField_lazy {P : Program} {t : TypeId} {x x' : VV} {f : Nat} {h h' : List Blk} {K : VV → List Blk → Prop} {tk' : Prop} (_tk : Tick = tk') (h0 : x = x') (h1 : h = h') : vField P t x f h K = vField P t x' f h' K := by subst h0 h1; rfl
theorem vIndex_lazy {P : Program} {t : TypeId} {x x' : VV} {i i' : VV} {h h' : List Blk} {K : VV → List Blk → Prop} {tk' : Prop} (_tk : Tick = tk') (h0 : x = x') (h1 : i = i') (h2 : h = h') : vIndex P t x i h K = vIndex P t x' i' h' K := by subst h0 h1 h2; rfl
theorem vExtract_lazy {x x' : VV} {i : Nat} {h h' : List Blk} {K : VV → List Blk → Prop} {tk' : Prop} (_tk : Tick = tk') (h0 : x = x') (h1 : h = h') : vExtract x i h K = vExtract x' i h' K := by subst h0 h1; rfl
theorem vBuild_lazy {P : Program} {t : TypeId} {ps ps' : Option (List (Nat × VV))} {h h' : List Blk} {K : VV → List Blk → Prop} {tk' : Prop} (_tk : Tick = tk') (h0 : ps = ps') (h1 : h = h') : vBuild P t ps h K = vBuild P t ps' h' K := by subst h0 h1; rfl
theorem vBuildSlice_lazy {P : Program} {t : TypeId} {len : Nat} {ps ps' : Option (List (Nat × VV))} {h h' : List Blk} {K : VV → List Blk → Prop} {tk' : Prop} (_tk : Tick = tk') (h0 : ps = ps') (h1 : h = h') : vBuildSlice P t len ps h K = vBuildSlice P t len ps' h' K := by subst h0 h1; rfl
theorem vSlice_lazy {P : Program} {t : TypeId} {x x' : VV} {lo lo' : Option (Option VV)} {hi hi' : Option (Option VV)} {mx mx' : Option (Option VV)} {h h' : List Blk} {K : VV → List Blk → Prop} {tk' : Prop} (_tk : Tick = tk') (h0 : x = x') (h1 : lo = lo') (h2 : hi = hi') (h3 : mx = mx') (h4 : h = h') : vSlice P t x lo hi mx h K = vSlice P t x' lo' hi' mx' h' K := by subst h0 h1 h2 h3 h4; rfl
theorem vBin_lazy {P : Program} {op : BinOp} {t : TypeId} {a a' : VV} {b b' : VV} {K : VV → Prop} {tk' : Prop} (_tk : Tick = tk') (h0 : a = a') (h1 : b = b') : vBin P op t a b K = vBin P op t a' b' K := by subst h0 h1; rfl
theorem vUn_lazy {op : UnOp} {x x' : VV} {K : VV → Prop} {tk' : Prop} (_tk : Tick = tk') (h0 : x = x') : vUn op x K = vUn op x' K := by subst h0; rfl
theorem vConv_lazy {P : Program} {src : TypeId} {dst : TypeId} {x x' : VV} {K : VV → Prop} {tk' : Prop} (_tk : Tick = tk') (h0 : x = x') : vConv P src dst x K = vConv P src dst x' K := by subst h0; rfl
theorem vLen_lazy {P : Program} {t : TypeId} {x x' : VV} {h h' : List Blk} {K : VV → List Blk → Prop} {tk' : Prop} (_tk : Tick = tk') (h0 : x = x') (h1 : h = h') : vLen P t x h K = vLen P t x' h' K := by subst h0 h1; rfl
theorem vSrc_lazy {x x' : VV} {h h' : List Blk} {sz sz' : Nat} {K : Nat → (Nat → List VV) → Prop} {tk' : Prop} (_tk : Tick = tk') (h0 : x = x') (h1 : h = h') (h2 : sz = sz') : vSrc x h sz K = vSrc x' h' sz' K := by subst h0 h1 h2; rfl
theorem vApp_lazy {P : Program} {t : TypeId} {s s' : VV} {x x' : VV} {h h' : List Blk} {K : VV → List Blk → Prop} {tk' : Prop} (_tk : Tick = tk') (h0 : s = s') (h1 : x = x') (h2 : h = h') : vApp P t s x h K = vApp P t s' x' h' K := by subst h0 h1 h2; rfl
theorem vres_lazy {P : Program} {t t' : List (Option VV)} {h h' : List Blk} {l l' : List ResultVar} {K : List VV → Prop} {tk' : Prop} (_tk : Tick = tk') (h0 : t = t') (h1 : h = h') (h2 : l = l') : vres P t h l K = vres P t' h' l' K := by subst h0 h1 h2; rfl
theorem vQuiet_lazy {P : Program} {o : Oper} {hk : List Blk} {st st' : St} {K : St → Prop} {tk' : Prop} (_tk : Tick = tk') (h0 : st = st') : vQuiet P o hk st K = vQuiet P o hk st' K := by subst h0; rfl
theorem vViewS_lazy {P : Program} {o : Oper} {hk : List Blk} {st st' : St} {K : St → Prop} {tk' : Prop} (_tk : Tick = tk') (h0 : st = st') : vViewS P o hk st K = vViewS P o hk st' K := by subst h0; rfl
theorem vgo_lazy {P : Program} {n0 : N0} {c : Code} {st st' : St} {ks : List KF} {Q : Exit → St → Prop} {tk' : Prop} (_tk : Tick = tk') (h0 : st = st') : vgo P n0 c st ks Q = vgo P n0 c st' ks Q := by subst h0; rfl
theorem vk_lazy {P : Program} {n0 : N0} {ks : List KF} {Q : Exit → St → Prop} {e e' : Exit} {st st' : St} {tk' : Prop} (_tk : Tick = tk') (h0 : st = st') (h1 : e = e') : vk P n0 ks Q e st = vk P n0 ks Q e' st' := by subst h0 h1; rfl
theorem wrun_lazy {P : Program} {fr : Bool} {all : List Oper} {l : List Oper} {st st' : St} {K : St → Prop} {tk' : Prop} (_tk : Tick = tk') (h0 : st = st') : wrun P fr all l st K = wrun P fr all l st' K := by subst h0; rfl
theorem vG_lazy {all : List Oper} {j : Nat} {want : Bool} {g g' : Option VV} {t t' : List (Option VV)} {A : List (Option VV) → Prop} {B : List (Option VV) → Prop} {tk' : Prop} (_tk : Tick = tk') (h0 : g = g') (h1 : t = t') : vG all j want g t A B = vG all j want g' t' A B := by subst h0 h1; rfl
theorem vC_lazy {c : Operand} {t t' : List (Option VV)} {x x' : Option VV} {A : List (Option VV) → Prop} {B : List (Option VV) → Prop} {tk' : Prop} (_tk : Tick = tk') (h0 : t = t') (h1 : x = x') : vC c t x A B = vC c t' x' A B := by subst h0 h1; rfl
theorem wcrt_lazy {P : Program} {all : List Oper} {hk : List Blk} {c : Crt} {st st' : St} {K : St → Prop} {tk' : Prop} (_tk : Tick = tk') (h0 : st = st') : wcrt P all hk c st K = wcrt P all hk c st' K := by subst h0; rfl
theorem vRnd_lazy {σ : Type} {n0 : N0} {inv : σ → St} {φ : σ → Prop} {μ : σ → Nat} {s : σ} {Q : Exit → St → Prop} {e e' : Exit} {st st' : St} {tk' : Prop} (_tk : Tick = tk') (h0 : e = e') (h1 : st = st') : vRnd n0 inv φ μ s Q e st = vRnd n0 inv φ μ s Q e' st' := by subst h0 h1; rfl
theorem vB_lazy {b b' : Bool} {A : Prop} {B : Prop} {tk' : Prop} (_tk : Tick = tk') (h0 : b = b') : vB b A B = vB b' A B := by subst h0; rfl
theorem vrnd_lazy {P : Program} {n0 : N0} {c : Code} {Q : Exit → St → Prop} {n n' : Nat} {st st' : St} {tk' : Prop} (_tk : Tick = tk') (h0 : n = n') (h1 : st = st') : vrnd P n0 c Q n st = vrnd P n0 c Q n' st' := by subst h0 h1; rfl
attribute [congr] vstep_lazy vop_lazy vWith_lazy vPickB_lazy vPick_lazy vFunc_lazy vBuiltin_lazy vThen_lazy vEnd_lazy vEnter_lazy VC_lazy VW_lazy vTake_lazy vCont_lazy vLoad_lazy vStore_lazy vNew_lazy vAlloc_lazy vBox_lazy vFieldAddr_lazy vIndexAddr_lazy vNilCheck_lazy vField_lazy vIndex_lazy vExtract_lazy vBuild_lazy vBuildSlice_lazy vSlice_lazy vBin_lazy vUn_lazy vConv_lazy vLen_lazy vSrc_lazy vApp_lazy vres_lazy vQuiet_lazy vViewS_lazy vgo_lazy vk_lazy wrun_lazy vG_lazy vC_lazy wcrt_lazy vRnd_lazy vB_lazy vrnd_lazy
end Go.Sx
