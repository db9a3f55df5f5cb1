/- Calls, regions, code on virtual states. -/
import Derived.Test.YtnlammgemaapnaaSxG
set_option linter.unusedSimpArgs false
set_option linter.unusedVariables false
namespace Go.Sx
open Go

/-! ### Calls -/
def Callable (P : Program) (f : FuncId) : Prop := ∃ fn, P.funcs[f]? = some fn ∧ (fn.name == "runtime.NumGoroutine") = false ∧ fn.body.isNone = false
/-- How a call ends. -/
def CPost (fr : Bool) (β : Val) (h : List Blk) (w : World) (K : VV → List Blk → Prop) (e : Ending) (w' : World) : Prop :=
  ∃ v β' h', e = .returned (den β' v) ∧ RepH β' h' w' ∧ Link β h w β' h' w' ∧ gd β' h'.length v ∧ (fr = true → β'.fz = β.fz) ∧ K v h'
/-- The contract of a call: wherever the heap h lies, the call comes back, and K holds of what it hands back and of the heap. fr: no more blocks are kept for good by it. -/
def VC (P : Program) (fr : Bool) (f : FuncId) (args : List VV) (h : List Blk) (K : VV → List Blk → Prop) : Prop :=
  Callable P f ∧ ∀ β w, RepH β h w → gdL β h.length args → Calls P f (denL β args).toArray w (CPost fr β h w K)
abbrev VCall (P : Program) (f : FuncId) (args : List VV) (h : List Blk) (K : VV → List Blk → Prop) : Prop := VC P true f args h K
theorem VC.mono {P : Program} {fr : Bool} {f : FuncId} {args : List VV} {h : List Blk} {K K' : VV → List Blk → Prop} (hc : VC P fr f args h K) (hk : ∀ v h', K v h' → K' v h') : VC P fr f args h K' :=
  ⟨hc.1, fun β w r hb => (hc.2 β w r hb).mono fun e w' ⟨v, β', h', h1, h2, h3, h4, h5, h6⟩ => ⟨v, β', h', h1, h2, h3, h4, h5, hk v h' h6⟩⟩
theorem VCall.mono {P : Program} {f : FuncId} {args : List VV} {h : List Blk} {K K' : VV → List Blk → Prop} (hc : VCall P f args h K) (hk : ∀ v h', K v h' → K' v h') : VCall P f args h K' := VC.mono hc hk
/-- What keeps nothing for good does so in any walk. -/
theorem VC.any {P : Program} {b fr : Bool} {f : FuncId} {args : List VV} {h : List Blk} {K : VV → List Blk → Prop} (hb : (fr && !b) = false) (hc : VC P b f args h K) : VC P fr f args h K :=
  ⟨hc.1, fun β w r hg => (hc.2 β w r hg).mono fun e w' ⟨v, β', h', h1, h2, h3, h4, h5, h6⟩ => ⟨v, β', h', h1, h2, h3, h4, fun e => h5 (by cases b <;> simp_all), h6⟩⟩

/-! ### Regions -/
def isCall : Op → Option (Operand × List Operand)
  | .call { callee := .value f, args, .. } => some (f, args.toList)
  | _ => none
def vEnter (P : Program) (fr : Bool) (f : Option VV) (as : Option (List VV)) (h : List Blk) (K : VV → List Blk → Prop) : Prop :=
  match f, as with
  | some (.func f first caps), some as => VC P fr f (first ++ (as ++ caps)) h K
  | _, _ => False
def vstep (P : Program) (fr : Bool) (o : Oper) (st : St) (K : St → Prop) : Prop :=
  match isCall o.op with
  | some (f, args) => vEnter P fr (ev st.t f) (evs st.t args) st.h fun v h' => K ⟨tput st.t o.dst v, h'⟩
  | none => vop P o.op st.t st.h fun v h' => K ⟨tput st.t o.dst v, h'⟩
def vGuard : Option VV → Bool → Prop → Prop → Prop
  | some (.bool b), want, A, B => (b = want → A) ∧ (b ≠ want → B)
  | some (.tup _), _, _, B => B
  | _, _, _, _ => False
def gslot (all : List Oper) (j : Nat) (t : List (Option VV)) : Option VV :=
  match nth all j with
  | some o => match o.dst with | some d => tget t d | none => none
  | none => none
def vrun (P : Program) (fr : Bool) (all : List Oper) : List Oper → St → (St → Prop) → Prop
  | [], st, K => K st
  | o :: l, st, K => match o.guard with
    | none => vstep P fr o st fun st' => vrun P fr all l st' K
    | some (j, want) => vGuard (gslot all j st.t) want (vstep P fr o st fun st' => vrun P fr all l st' K) (vrun P fr all l ⟨tput st.t o.dst (.tup []), st.h⟩ K)

section
variable {P : Program} {fr : Bool}
theorem Rep.step {E : Entry} {st : St} {β β' : Val} {a : Act} {w w' : World} {h' : List Blk} {v : VV} {d : Option Tmp} (r : Rep E st β a w) (hr : RepH β' h' w') (hl : Link β st.h w β' h' w') (hb : gd β' h'.length v) (hs : E.fr = true → β'.fz = β.fz) :
    Rep E ⟨tput st.t d v, h'⟩ β' (a.put d (den β' v)) w' := by
  have rt := r.t.move hl.len hl.ext hl.fz
  refine ⟨?_, ?_, hr, r.l.trans hl, fun e => (hs e).trans (r.s e)⟩
  · cases d with
    | none => exact rt
    | some d => exact rt.put d v hb
  · cases d <;> exact r.d
theorem enter_run {a : Act} {o : Oper} {f : Operand} {args : Array Operand} {tys : Array TypeId} {g : FuncId} {first caps : Array Value} {w : World} (ho : o.op = .call { callee := .value f, args, argTypes := tys })
    (hf : a.eval f = .func (.func g) first caps) (hc : Callable P g) : (execOp a.eval o).run P w = .ok (.enter g (first ++ args.map a.eval ++ caps)) w := by
  obtain ⟨fn, h1, h2, h3⟩ := hc
  simp only [execOp, ho, resolve, Deferred.ofValue, hf, Sem.run_bind, Sem.run_pure, Result.andThen_ok, invoke, callFunc, run_program, h1, h2, h3, Bool.false_eq_true, if_false]
theorem vstep_ok {E : Entry} {st : St} {β : Val} {a : Act} {w : World} {o : Oper} {K : St → Prop} {next : Act → World → Prop} {Q : Exit → Act → World → Prop} (hv : vstep P fr o st K) (hfr : E.fr = true → fr = true) (r : Rep E st β a w)
    (hK : ∀ st' β' a' w', Rep E st' β' a' w' → (∀ i, i < st.h.length → β' i = β i) → (fr = true → β'.fz = β.fz) → K st' → next a' w') : o.wp P a w next Q := by
  unfold vstep at hv
  split at hv
  · rename_i f args hcall
    have ho : ∃ as tys, o.op = .call { callee := .value f, args := as, argTypes := tys } ∧ as.toList = args := by
      unfold isCall at hcall
      split at hcall
      · rename_i f' as tys he
        simp only [Option.some.injEq, Prod.mk.injEq] at hcall
        obtain ⟨rfl, rfl⟩ := hcall
        exact ⟨as, tys, he, rfl⟩
      · cases hcall
    obtain ⟨as, tys, ho, rfl⟩ := ho
    unfold vEnter at hv
    split at hv
    · rename_i g first caps vs h1 h2
      obtain ⟨hc, hcalls⟩ := hv
      have e1 := ev_ok r.t f _ h1
      have e2 := evs_ok r.t _ _ h2
      have hrun := enter_run (P := P) (w := w) ho e1.1 hc
      unfold Oper.wp
      rw [hrun, Oper.upon_enter]
      have hargs : (denL β first).toArray ++ as.map a.eval ++ (denL β caps).toArray = (denL β (first ++ (vs ++ caps))).toArray := by
        apply Array.ext'
        simp [denL_append, e2.1]
      rw [hargs]
      have hb : gdL β st.h.length (first ++ (vs ++ caps)) := by
        have hq1 : gdL β st.h.length first := ⟨e1.2.1.1, e1.2.2.1⟩
        have hq2 : gdL β st.h.length caps := ⟨e1.2.1.2, e1.2.2.2⟩
        rw [gdL_iff]
        intro u hu
        simp only [List.mem_append] at hu
        rcases hu with hu | hu | hu
        · exact (gdL_iff _ _ _).1 hq1 u hu
        · exact (gdL_iff _ _ _).1 e2.2 u hu
        · exact (gdL_iff _ _ _).1 hq2 u hu
      refine (hcalls β w r.h hb).mono ?_
      rintro e w' ⟨v, β', h', rfl, hr', hl', hb', hs', hK'⟩
      exact hK _ β' _ w' (r.step hr' hl' hb' (fun e => hs' (hfr e))) hl'.ext hs' hK'
    · exact hv.elim
  · obtain ⟨dst, op, ty, pos, af, gd⟩ := o
    have := vop_ok (P := P) (ty := ty) (dst := dst) (pos := pos) (af := af) (gu := gd) hv r.t r.h
    obtain ⟨β', h', w', v, hrun, hr', hl', hb', hK'⟩ := this
    unfold Oper.wp
    rcases hrun with hrun | ⟨hrun, rfl⟩
    · rw [hrun, Oper.upon_value]
      exact hK _ β' _ w' (r.step hr' hl'.toLink hb' (fun _ => hl'.same)) hl'.ext (fun _ => hl'.same) hK'
    · rw [hrun, Oper.upon_skip]
      exact hK _ β' _ w' (r.step (v := .tup []) hr' hl'.toLink hb' (fun _ => hl'.same)) hl'.ext (fun _ => hl'.same) hK'
theorem vGuard_cases {g : Option VV} {want : Bool} {A B : Prop} (h : vGuard g want A B) : (∃ b, g = some (.bool b) ∧ (b = want → A) ∧ (b ≠ want → B)) ∨ (∃ l, g = some (.tup l) ∧ B) := by
  unfold vGuard at h
  split at h
  · exact .inl ⟨_, rfl, h⟩
  · exact .inr ⟨_, rfl, h⟩
  · exact h.elim
theorem gslot_yield {β : Val} {n : Nat} {t : List (Option VV)} {tmps : Array Value} {ops : Array Oper} {j : Nat} {v : VV} (r : RepT β n t tmps) (hg : gslot ops.toList j t = some v) :
    yielded ops tmps j = match v with | .bool b => some b | _ => none := by
  unfold gslot at hg
  rw [nth_eq] at hg
  split at hg
  · rename_i o ho
    have ho' : ops[j]? = some o := by simpa using ho
    split at hg
    · rename_i d hd
      have := (r.2 d v (tget_some hg)).1
      unfold yielded
      simp only [ho', Option.bind_some, hd, this]
      cases v <;> rfl
    · cases hg
  · cases hg
theorem vrun_ok {E : Entry} {ops : Array Oper} {K : St → Prop} {Q : Exit → Act → World → Prop} (hfr : E.fr = true → fr = true) (hK : ∀ st' β' a' w', Rep E st' β' a' w' → K st' → Q .normal a' w') :
    ∀ (l : List Oper) (st : St) (β : Val) (a : Act) (w : World), vrun P fr ops.toList l st K → Rep E st β a w → wpList P ops Q l a w
  | [], st, β, a, w, hv, r => hK st β a w r hv
  | o :: l, st, β, a, w, hv, r => by
    have ih := vrun_ok (ops := ops) hfr hK l
    unfold vrun at hv
    split at hv
    · rename_i hg
      exact wpList_plain hg fun K' hK' => vstep_ok hv hfr r fun st' β' a' w' r' _ _ h' => hK' _ _ (ih st' β' a' w' h' r')
    · rename_i j want hg
      refine wpList_step fun K' hK' => ?_
      rcases vGuard_cases hv with ⟨b, hgs, h1, h2⟩ | ⟨l', hgs, h2⟩
      · have hy := gslot_yield (ops := ops) r.t hgs
        simp only [Region.wanted, hg, hy]
        by_cases hb : b = want
        · subst hb
          simp only [beq_self_eq_true, if_true]
          exact vstep_ok (h1 rfl) hfr r fun st' β' a' w' r' _ _ h' => hK' _ _ (ih st' β' a' w' h' r')
        · have : (some b == some want) = false := by simpa using hb
          simp only [this, Bool.false_eq_true, if_false]
          exact hK' _ _ (ih _ β _ w (h2 hb) (r.step (v := .tup []) r.h (Link.refl _ _ _) ⟨trivial, trivial⟩ (fun _ => rfl)))
      · have hy := gslot_yield (ops := ops) r.t hgs
        simp only [Region.wanted, hg, hy]
        have : ((none : Option Bool) == some want) = false := rfl
        simp only [this, Bool.false_eq_true, if_false]
        exact hK' _ _ (ih _ β _ w h2 (r.step (v := .tup []) r.h (Link.refl _ _ _) ⟨trivial, trivial⟩ (fun _ => rfl)))

/-! ### Code -/
def Sat (E : Entry) (Q : Exit → St → Prop) : Exit → Act → World → Prop := fun e a w => ∃ st β, Rep E st β a w ∧ Q e st
/-- The walk of c from st on comes to an end of which Q holds; n0: how many blocks there were at the function's beginning. -/
def VW (P : Program) (n0 : N0) (c : Code) (st : St) (Q : Exit → St → Prop) : Prop :=
  ∀ E β a w, E.key = n0 → Rep E st β a w → c.wp P (Sat E Q) a w
def vCond : Option VV → Prop → Prop → Prop
  | some (.bool b), A, B => (b = true → A) ∧ (b = false → B)
  | _, _, _ => False
def vThen (A : Prop) (B : Prop) : Exit → Prop
  | .normal => A
  | _ => B
def vBlk (id : Nat) (Q : Exit → St → Prop) : Exit → St → Prop
  | .exit i, st => if i = id then Q .normal st else Q (.exit i) st
  | e, st => Q e st
def vwp (P : Program) (n0 : N0) : Code → St → (Exit → St → Prop) → Prop
  | .skip, st, Q => Q .normal st
  | .region id ops draw, st, Q => match draw with
    | false => vrun P n0.fr ops.toList ops.toList st (Q .normal)
    | true => VW P n0 (.region id ops true) st Q
  | .seq x y, st, Q => vwp P n0 x st fun e st' => vThen (vwp P n0 y st' Q) (Q e st') e
  | .cond c x y, st, Q => vCond (ev st.t c) (vwp P n0 x st Q) (vwp P n0 y st Q)
  | .block id c, st, Q => vwp P n0 c st (vBlk id Q)
  | .loop c, st, Q => VW P n0 (.loop c) st Q
  | .exit id, st, Q => Q (.exit id) st
  | .label _, st, Q => Q .normal st
  | .goto l, st, Q => Q (.goto l) st
  | .ret, st, Q => Q .ret st
  | .scope c, st, Q => VW P n0 (.scope c) st Q
  | .rangeFunc .., _, _ => False
  | .refuse _, _, _ => False
theorem vwp_ok {n0 : N0} : ∀ (c : Code) (st : St) (Q : Exit → St → Prop), vwp P n0 c st Q → VW P n0 c st Q
  | .skip, st, Q, hv => fun E β a w _ r => wp_skip ⟨st, β, r, hv⟩
  | .region id ops false, st, Q, hv => fun E β a w he r => wp_region_list (vrun_ok (fun e => by rw [← he]; exact e) (fun st' β' a' w' r' h' => ⟨st', β', r', h'⟩) _ st β a w hv r)
  | .region id ops true, st, Q, hv => hv
  | .seq x y, st, Q, hv => fun E β a w he r => wp_seq (Code.wp_mono (fun e a' w' ⟨st', β', r', h'⟩ => by
      cases e with
      | normal => exact vwp_ok y st' Q h' E β' a' w' he r'
      | _ => exact ⟨st', β', r', h'⟩) (vwp_ok x st _ hv E β a w he r))
  | .cond c x y, st, Q, hv => fun E β a w he r => by
      simp only [vwp] at hv
      unfold vCond at hv
      split at hv
      · rename_i b hb
        refine wp_cond_split (t := b) (ev_ok r.t c _ hb).1 (fun e => vwp_ok x st Q (hv.1 e) E β a w he r) (fun e => vwp_ok y st Q (hv.2 e) E β a w he r)
      · exact hv.elim
  | .block id c, st, Q, hv => fun E β a w he r => wp_block (Code.wp_mono (fun e a' w' ⟨st', β', r', h'⟩ => by
      cases e with
      | exit i =>
        simp only [vBlk] at h'
        simp only [Exit.inBlock]
        split
        · rename_i hi; rw [if_pos hi] at h'; exact ⟨st', β', r', h'⟩
        · rename_i hi; rw [if_neg hi] at h'; exact ⟨st', β', r', h'⟩
      | _ => exact ⟨st', β', r', h'⟩) (vwp_ok c st _ hv E β a w he r))
  | .loop c, st, Q, hv => hv
  | .exit id, st, Q, hv => fun E β a w _ r => wp_exit ⟨st, β, r, hv⟩
  | .label _, st, Q, hv => fun E β a w _ r => wp_label ⟨st, β, r, hv⟩
  | .goto l, st, Q, hv => fun E β a w _ r => wp_goto ⟨st, β, r, hv⟩
  | .ret, st, Q, hv => fun E β a w _ r => wp_ret ⟨st, β, r, hv⟩
  | .scope c, st, Q, hv => hv
  | .rangeFunc .., st, Q, hv => hv.elim
  | .refuse _, st, Q, hv => hv.elim
/-- A state is told with less. -/
def Le (n0 : N0) (st st' : St) : Prop := ∀ E β a w, E.key = n0 → Rep E st β a w → ∃ β', Rep E st' β' a w
theorem Le.refl (n0 : N0) (st : St) : Le n0 st st := fun _ β _ _ _ r => ⟨β, r⟩
theorem Le.trans {n0 : N0} {a b c : St} (h : Le n0 a b) (k : Le n0 b c) : Le n0 a c := fun E β x w he r => by
  obtain ⟨β', r'⟩ := h E β x w he r
  exact k E β' x w he r'
theorem VW.le {n0 : N0} {c : Code} {st st' : St} {Q : Exit → St → Prop} (h : Le n0 st st') (hv : VW P n0 c st' Q) : VW P n0 c st Q := fun E β a w he r => by
  obtain ⟨β', r'⟩ := h E β a w he r
  exact hv E β' a w he r'
/-- A loop: 'inv s' is the state at a round's head, of some s of which φ holds; each round lowers μ. -/
theorem vloop {n0 : N0} {σ : Type} (inv : σ → St) (φ : σ → Prop) (μ : σ → Nat) (s0 : σ) {c : Code} {st : St} {Q : Exit → St → Prop} (h0 : φ s0) (hst : Le n0 st (inv s0))
    (hr : ∀ s, φ s → vwp P n0 c (inv s) fun e st' => vThen (∃ s', φ s' ∧ μ s' < μ s ∧ Le n0 st' (inv s')) (Q e st') e) : VW P n0 (.loop c) st Q := by
  intro E β a w he r
  obtain ⟨β0, r0⟩ := hst E β a w he r
  have key : ∀ n s, μ s < n → φ s → ∀ β a w, Rep E (inv s) β a w → Code.rounds P c (Sat E Q) n a w := by
    intro n
    induction n with
    | zero => intro s hs; omega
    | succ n ih =>
      intro s hs hφ β a w r
      rw [rounds_succ]
      refine Code.wp_mono (fun e a' w' ⟨st', β', r', h'⟩ => ?_) (vwp_ok c _ _ (hr s hφ) E β a w he r)
      cases e with
      | normal =>
        obtain ⟨s', h1, h2, h3⟩ := h'
        obtain ⟨β'', r''⟩ := h3 E β' a' w' he r'
        exact ih s' (by omega) h1 β'' a' w' r''
      | _ => exact ⟨st', β', r', h'⟩
  exact wp_loop_rounds _ (key (μ s0 + 1) s0 (by omega) h0 β0 a w r0)
/-- One round laid open. -/
theorem vround {n0 : N0} {c : Code} {st : St} {Q : Exit → St → Prop} (k : Nat) : (Nat.rec (motive := fun _ => St → Prop) (fun _ => False) (fun _ ih st => vwp P n0 c st fun e st' => vThen (ih st') (Q e st') e) k st) → VW P n0 (.loop c) st Q := by
  intro hv E β a w he r
  refine wp_loop_rounds k ?_
  induction k generalizing st β a w with
  | zero => exact hv.elim
  | succ n ih =>
    rw [rounds_succ]
    refine Code.wp_mono (fun e a' w' ⟨st', β', r', h'⟩ => ?_) (vwp_ok c _ _ hv E β a w he r)
    cases e with
    | normal => exact ih h' β' a' w' r'
    | _ => exact ⟨st', β', r', h'⟩

/-! ### A function's body -/
def single : List VV → VV
  | [v] => v
  | vs => .tup vs
def vres (P : Program) (t : List (Option VV)) (h : List Blk) : List ResultVar → (List VV → Prop) → Prop
  | [], K => K []
  | .tmp n :: l, K => vWith (tget t n) fun v => vres P t h l fun vs => K (v :: vs)
  | .cell n ty :: l, K => vWith (tget t n) fun p => vLoad P ty p h fun v _ => vres P t h l fun vs => K (v :: vs)
def vEnd (P : Program) (rs : List ResultVar) (K : VV → List Blk → Prop) (e : Exit) (st : St) : Prop :=
  match e with
  | .normal | .ret => vres P st.t st.h rs fun vs => K (single vs) st.h
  | _ => False
theorem vres_ok {st : St} {β : Val} {a : Act} {w : World} (rt : RepT β st.h.length st.t a.tmps) (rh : RepH β st.h w) : ∀ (l : List ResultVar) (K : List VV → Prop), vres P st.t st.h l K →
    ∃ vs, (l.mapM fun x => (match x with | .tmp t => pure (a.tmps.getD t undef) | .cell c t => do loadVar t (← asAddr (a.tmps.getD c undef)) : Sem Value)).run P w = .ok (denL β vs) w ∧ gdL β st.h.length vs ∧ vs.length = l.length ∧ K vs
  | [], K, hv => ⟨[], by simp [denL], gdL_nil, rfl, hv⟩
  | .tmp n :: l, K, hv => by
    obtain ⟨v, hx, hv⟩ := vWith_some hv
    have e1 := rt.2 n v (tget_some hx)
    obtain ⟨vs, hr, hb, hl, hK⟩ := vres_ok rt rh l _ hv
    refine ⟨v :: vs, ?_, gdL_cons e1.2 hb, by simp [hl], hK⟩
    have hg : a.tmps.getD n undef = den β v := by simp only [Array.getD_eq_getD_getElem?, e1.1, Option.getD_some]
    rw [List.mapM_cons]
    simp only [Sem.run_bind, Sem.run_pure, Result.andThen_ok, hg, hr, denL]
  | .cell n ty :: l, K, hv => by
    obtain ⟨p, hx, hv⟩ := vWith_some hv
    have e1 := rt.2 n p (tget_some hx)
    obtain ⟨v, hrun, hbv, hv⟩ := vLoad_run (w := w) hv rh e1.2
    obtain ⟨vs, hr, hb, hl, hK⟩ := vres_ok rt rh l _ hv
    refine ⟨v :: vs, ?_, gdL_cons hbv hb, by simp [hl], hK⟩
    have hg : a.tmps.getD n undef = den β p := by simp only [Array.getD_eq_getD_getElem?, e1.1, Option.getD_some]
    have hrun' : (do loadVar ty (← asAddr (den β p)) : Sem Value).run P w = .ok (den β v) w := by
      rw [← hrun]
      unfold Instr.loadAt
      cases hp : den β p with
      | pointer o =>
        cases o with
        | some ad => simp only [asAddr, Instr.sureAddr, Sem.run_bind, Sem.run_pure, Result.andThen_ok]
        | none => rw [hp] at hrun; simp [Instr.loadAt, Instr.sureAddr] at hrun
      | _ => rw [hp] at hrun; simp [Instr.loadAt, Instr.sureAddr] at hrun
    rw [List.mapM_cons]
    simp only [Sem.run_bind] at hrun' ⊢
    simp only [hg, hrun', Result.andThen_ok, Sem.run_bind, hr, Sem.run_pure, denL]
theorem single_den (β : Val) (vs : List VV) : (if h : (denL β vs).toArray.size = 1 then (denL β vs).toArray[0] else .tuple (denL β vs).toArray) = den β (single vs) := by
  match vs with
  | [] => rfl
  | [v] => rfl
  | a :: b :: l => simp [single, den, denL]
theorem vcall_bodyV {fr : Bool} {f : FuncId} {fn : Func} {c : Code} {args : List VV} {h : List Blk} {K : VV → List Blk → Prop} (hf : P.funcs[f]? = some fn) (hb : fn.body = some c) (hn : (fn.name == "runtime.NumGoroutine") = false)
    (hv : VW P ⟨h.length, fr⟩ c ⟨args.map some ++ List.replicate (fn.ntmps - args.length) none, h⟩ (vEnd P fn.results.toList K)) : VC P fr f args h K := by
  refine ⟨⟨fn, hf, hn, by rw [hb]; rfl⟩, fun β w r hbd => calls_of_wp hf hb ?_⟩
  have r0 : Rep ⟨β, h, w, fr⟩ ⟨args.map some ++ List.replicate (fn.ntmps - args.length) none, h⟩ β { tmps := (denL β args).toArray ++ Array.replicate (fn.ntmps - (denL β args).toArray.size) undef, defers := [] } w := by
    refine ⟨⟨by simp [denL_length], fun i v hi => ?_⟩, rfl, r, Link.refl _ _ _, fun _ => rfl⟩
    rcases Nat.lt_or_ge i args.length with c | c
    · rw [List.getElem?_append_left (by simpa using c)] at hi
      simp only [List.getElem?_map, Option.map_eq_some_iff, Option.some.injEq, exists_eq_right] at hi
      refine ⟨?_, gd_mem hbd hi⟩
      rw [Array.getElem?_append_left (by simpa [denL_length] using c), List.getElem?_toArray, denL_get, hi]; rfl
    · rw [List.getElem?_append_right (by simpa using c)] at hi
      have := List.mem_of_getElem? hi
      simp at this
  refine Code.wp_mono (fun e a w' ⟨st, β', r', h'⟩ => ?_) (hv ⟨β, h, w, fr⟩ β _ w rfl r0)
  have fin : vres P st.t st.h fn.results.toList (fun vs => K (single vs) st.h) → a.defers = [] ∧ ∃ v, (results fn a.tmps).run P w' = .ok v w' ∧ CPost fr β h w K (.returned v) w' := fun hvr => by
    obtain ⟨vs, hr, hb', hl, hK⟩ := vres_ok r'.t r'.h _ _ hvr
    refine ⟨r'.d, den β' (single vs), ?_, single vs, β', st.h, rfl, r'.h, r'.l, ?_, r'.s, hK⟩
    · unfold results
      rw [Array.mapM_eq_mapM_toList]
      simp only [Sem.run_bind, Sem.run_map, Sem.run_pure]
      refine (congrArg (fun x => (Result.andThen (Result.andThen x fun a w' => Result.ok a.toArray w') fun a w' => Result.ok (if h : a.size = 1 then a[0] else Value.tuple a) w')) hr).trans ?_
      simp only [Result.andThen_ok]
      rw [single_den]
    · match vs, hb' with
      | [], _ => exact ⟨trivial, trivial⟩
      | [v], hb' => exact ⟨hb'.1.1, hb'.2.1⟩
      | a :: b :: l, hb' => exact hb'
  cases e with
  | normal => exact fin h'
  | ret => exact fin h'
  | _ => exact h'.elim
theorem vcall_body {fr : Bool} {f : FuncId} {fn : Func} {c : Code} {args : List VV} {h : List Blk} {K : VV → List Blk → Prop} (hf : P.funcs[f]? = some fn) (hb : fn.body = some c) (hn : (fn.name == "runtime.NumGoroutine") = false)
    (hv : vwp P ⟨h.length, fr⟩ c ⟨args.map some ++ List.replicate (fn.ntmps - args.length) none, h⟩ (vEnd P fn.results.toList K)) : VC P fr f args h K :=
  vcall_bodyV hf hb hn (vwp_ok c _ _ hv)
end
end Go.Sx
