/- Regions whose order is open: a certificate says in which order the walk takes them. -/
import Derived.Test.YtnlammgemaapnaaSxJ
import Derived.OrdersHeld
import Derived.Laws.Panics
set_option linter.unusedSimpArgs false
set_option linter.unusedVariables false
namespace Go.Sx
open Go

/-! ### Operations that only read, and yield one value -/
def vq : Op → Bool
  | .move _ | .assign _ | .pick .. | .build .. | .load .. | .nilCheck _ | .binOp .. | .unOp .. | .convert .. | .makeFunc .. | .fieldAddr .. | .field .. | .indexAddr .. | .index .. | .extract .. | .lookup .. => true
  | .call { callee := .builtin .len, .. } | .call { callee := .builtin .max, .. } | .call { callee := .builtin .min, .. } => true
  | _ => false
section
variable {P : Program} {h : List Blk} {K : VV → List Blk → Prop}
/-- What is asked of K is asked at one value. -/
def Det (F : (VV → List Blk → Prop) → Prop) (K : VV → List Blk → Prop) (h : List Blk) : Prop := ∃ v, K v h ∧ ∀ K' : VV → List Blk → Prop, K' v h → F K'
theorem vWith_det {x : Option VV} {F : VV → (VV → List Blk → Prop) → Prop} (hv : vWith x fun v => F v K) (hd : ∀ v, F v K → Det (F v) K h) : Det (fun K => vWith x fun v => F v K) K h := by
  obtain ⟨v, rfl, hv⟩ := vWith_some hv
  exact hd v hv
theorem vTake_det {t : TypeId} {l : List VV} {fo : Nat} {Q : VV → Prop} (hv : vTake P t l fo Q) : ∃ v, Q v ∧ ∀ Q' : VV → Prop, Q' v → vTake P t l fo Q' := by
  unfold vTake at hv ⊢
  split at hv
  · exact ⟨_, hv.2, fun Q' h => ⟨hv.1, h⟩⟩
  · split at hv
    · exact ⟨_, hv, fun Q' h => h⟩
    · exact hv.elim
  · exact hv.elim
theorem vCont_det {b : Blk} {idx sz : Nat} {Q : List VV → Prop} (hv : vCont b idx sz Q) : ∃ l, Q l ∧ ∀ Q' : List VV → Prop, Q' l → vCont b idx sz Q' := by
  unfold vCont at hv ⊢
  split at hv
  · exact ⟨_, hv.2, fun Q' h => ⟨hv.1, h⟩⟩
  · exact ⟨_, hv.2.2, fun Q' h => ⟨hv.1, hv.2.1, h⟩⟩
  · exact ⟨_, hv.2.2, fun Q' h => ⟨hv.1, hv.2.1, h⟩⟩
  · exact hv.elim
  · exact hv.elim
theorem vLoad_det {t : TypeId} {p : VV} (hv : vLoad P t p h K) : Det (vLoad P t p h) K h := by
  unfold vLoad at hv
  unfold Det vLoad
  split at hv
  · split at hv
    · rename_i b hb
      obtain ⟨l, h1, h2⟩ := vCont_det hv
      obtain ⟨v, h3, h4⟩ := vTake_det h1
      refine ⟨v, h3, fun K' hk => ?_⟩
      exact h2 _ (h4 _ hk)
    · exact hv.elim
  · obtain ⟨v, h3, h4⟩ := vTake_det hv
    exact ⟨v, h3, fun K' hk => h4 _ hk⟩
  · exact hv.elim
theorem vSrc_det {x : VV} {sz : Nat} {Q : Nat → (Nat → List VV) → Prop} (hv : vSrc x h sz Q) : ∃ n el, Q n el ∧ ∀ Q' : Nat → (Nat → List VV) → Prop, Q' n el → vSrc x h sz Q' := by
  unfold vSrc at hv ⊢
  split at hv
  · exact ⟨_, _, hv, fun Q' h => h⟩
  · split at hv
    · exact ⟨_, _, hv.2, fun Q' h => ⟨hv.1, h⟩⟩
    · exact ⟨_, _, hv.2, fun Q' h => ⟨hv.1, h⟩⟩
    · exact hv.elim
  · exact ⟨_, _, hv.2, fun Q' h => ⟨hv.1, h⟩⟩
  · split at hv
    · obtain ⟨l, h1, h2⟩ := vCont_det hv
      exact ⟨_, _, h1.2, fun Q' h => h2 _ ⟨h1.1, h⟩⟩
    · exact hv.elim
  · exact hv.elim
theorem vNe_det {op : BinOp} {b : Bool} {Q : VV → Prop} (hv : vNe op b Q) : ∃ v, Q v ∧ ∀ Q' : VV → Prop, Q' v → vNe op b Q' := by
  unfold vNe at hv ⊢
  split at hv
  · exact ⟨_, hv, fun Q' h => h⟩
  · exact ⟨_, hv, fun Q' h => h⟩
  · exact hv.elim
theorem vBin_det {op : BinOp} {t : TypeId} {a b : VV} {Q : VV → Prop} (hv : vBin P op t a b Q) : ∃ v, Q v ∧ ∀ Q' : VV → Prop, Q' v → vBin P op t a b Q' := by
  unfold vBin at hv ⊢
  split at hv
  · split at hv
    all_goals first
      | exact hv.elim
      | exact ⟨_, hv.2, fun Q' h => ⟨hv.1, h⟩⟩
  · split at hv
    all_goals first
      | exact hv.elim
      | exact ⟨_, hv.2, fun Q' h => ⟨hv.1, h⟩⟩
  · split at hv
    all_goals first
      | exact hv.elim
      | exact ⟨_, hv.2, fun Q' h => ⟨hv.1, h⟩⟩
  · split at hv
    all_goals first
      | exact hv.elim
      | exact ⟨_, hv, fun Q' h => h⟩
  · exact hv.elim
theorem vBinH_det {op : BinOp} {t : TypeId} {a b : VV} (hv : vBinH P op t a b h K) : Det (vBinH P op t a b h) K h := by
  unfold vBinH at hv
  unfold Det vBinH
  split at hv
  case h_7 => 
    obtain ⟨v, h1, h2⟩ := vBin_det hv
    exact ⟨v, h1, fun K' hk => h2 _ hk⟩
  all_goals
    obtain ⟨v, h1, h2⟩ := vNe_det hv.2
    exact ⟨v, h1, fun K' hk => ⟨hv.1, h2 _ hk⟩⟩
theorem vStr_det {s d : TypeId} {x : VV} (hv : vStr P s d x h K) : Det (vStr P s d x h) K h := by
  obtain ⟨h0, hv⟩ := hv
  obtain ⟨n, el, h1, h2⟩ := vSrc_det hv
  exact ⟨_, h1.2, fun K' hk => ⟨h0, h2 _ ⟨h1.1, hk⟩⟩⟩
theorem vConvH_det {s d : TypeId} {x : VV} (hv : vConvH P s d x h K) : Det (vConvH P s d x h) K h := by
  unfold vConvH at hv
  unfold Det vConvH
  split at hv
  · exact vStr_det hv
  · exact vStr_det hv
  · exact vStr_det hv
  · unfold vConv at hv
    unfold vConv
    split at hv
    · exact ⟨_, hv.2, fun K' h => ⟨hv.1, h⟩⟩
    · exact hv.elim
theorem vop_det {o : Op} {t : List (Option VV)} (hq : vq o = true) (hv : vop P o t h K) : Det (vop P o t h) K h := by
  cases o with
  | move x => exact vWith_det (F := fun v K => K v h) hv fun v hv => ⟨v, hv, fun K' h => h⟩
  | assign x => exact vWith_det (F := fun v K => K v h) hv fun v hv => ⟨v, hv, fun K' h => h⟩
  | pick c a b =>
    have key : ∀ (x a b : Option VV) (Q : VV → Prop), vPick x a b Q → ∃ v, Q v ∧ ∀ Q' : VV → Prop, Q' v → vPick x a b Q' := fun x a b Q hv => by
      cases x with
      | none => exact hv.elim
      | some x =>
        cases x with
        | bool c =>
          cases c
          · obtain ⟨v, e, hv⟩ := vWith_some hv; subst e; exact ⟨v, hv, fun Q' h => h⟩
          · obtain ⟨v, e, hv⟩ := vWith_some hv; subst e; exact ⟨v, hv, fun Q' h => h⟩
        | _ => exact hv.elim
    obtain ⟨v, h1, h2⟩ := key _ _ _ _ hv
    exact ⟨v, h1, fun K' hk => h2 _ hk⟩
  | lookup ty x i ok =>
    refine vWith_det (F := fun m K => vWith (ev t i) fun k => vLookup P ty m k ok h K) hv fun m hv => ?_
    refine vWith_det (F := fun k K => vLookup P ty m k ok h K) hv fun k hv => ?_
    unfold vLookup at hv
    unfold Det vLookup
    split at hv
    · split at hv
      · exact ⟨_, hv.2, fun K' hk => ⟨hv.1, hk⟩⟩
      · split at hv
        · exact ⟨_, hv.2, fun K' hk => ⟨hv.1, hk⟩⟩
        · exact hv.elim
      · exact hv.elim
    · exact hv.elim
  | build ty ps =>
    simp only [vop, Det] at hv ⊢
    unfold vBuild at hv ⊢
    split at hv
    · obtain ⟨h0, hv⟩ := hv
      split at hv
      · split at hv
        · exact ⟨_, hv, fun K' h => ⟨h0, h⟩⟩
        · exact hv.elim
      · split at hv
        · exact ⟨_, hv, fun K' h => ⟨h0, h⟩⟩
        · exact hv.elim
      · exact hv.elim
    · exact hv.elim
  | load ty x => exact vWith_det (F := fun p K => vLoad P ty p h K) hv fun v hv => vLoad_det hv
  | nilCheck x =>
    refine vWith_det (F := fun v K => vNilCheck v h K) hv fun v hv => ?_
    unfold vNilCheck at hv
    unfold Det vNilCheck
    split at hv
    · exact ⟨_, hv.2, fun K' h => ⟨hv.1, h⟩⟩
    · exact ⟨_, hv, fun K' h => h⟩
    · exact ⟨_, hv, fun K' h => h⟩
    · exact hv.elim
  | binOp op ty x y e =>
    refine vWith_det (F := fun a K => vWith (ev t y) fun b => vBinH P op ty a b h K) hv fun v hv => ?_
    exact vWith_det (F := fun b K => vBinH P op ty v b h K) hv fun u hv => vBinH_det hv
  | unOp op ty x =>
    refine vWith_det (F := fun a K => vUn op a fun v => K v h) hv fun v hv => ?_
    unfold vUn at hv
    unfold Det vUn
    split at hv
    · exact ⟨_, hv, fun K' h => h⟩
    · exact ⟨_, hv, fun K' h => h⟩
    · exact ⟨_, hv, fun K' h => h⟩
    · exact hv.elim
  | convert s d x => exact vWith_det (F := fun a K => vConvH P s d a h K) hv fun v hv => vConvH_det hv
  | makeFunc fn a b =>
    simp only [vop, Det] at hv ⊢
    unfold vFunc at hv ⊢
    split at hv
    · exact ⟨_, hv, fun K' h => h⟩
    · exact hv.elim
  | fieldAddr ty x f =>
    refine vWith_det (F := fun v K => vFieldAddr P ty v f h K) hv fun v hv => ?_
    unfold vFieldAddr at hv
    unfold Det vFieldAddr
    split at hv
    · exact ⟨_, hv.2, fun K' h => ⟨hv.1, h⟩⟩
    · exact ⟨_, hv.2, fun K' h => ⟨hv.1, h⟩⟩
    · exact hv.elim
  | field ty x f =>
    refine vWith_det (F := fun v K => vField P ty v f h K) hv fun v hv => ?_
    unfold vField at hv
    unfold Det vField
    split at hv
    · obtain ⟨v, h1, h2⟩ := vTake_det hv
      exact ⟨v, h1, fun K' hk => h2 _ hk⟩
    · exact hv.elim
  | indexAddr ty x i =>
    refine vWith_det (F := fun v K => vWith (ev t i) fun i => vIndexAddr P ty v i h K) hv fun v hv => ?_
    refine vWith_det (F := fun i K => vIndexAddr P ty v i h K) hv fun u hv => ?_
    unfold vIndexAddr at hv
    unfold Det vIndexAddr
    split at hv
    · split at hv
      · exact ⟨_, hv.2.2, fun K' h => ⟨hv.1, hv.2.1, h⟩⟩
      · exact hv.elim
    · split at hv
      · exact ⟨_, hv.2.2, fun K' h => ⟨hv.1, hv.2.1, h⟩⟩
      · exact hv.elim
    · split at hv
      · exact ⟨_, hv.2.2, fun K' h => ⟨hv.1, hv.2.1, h⟩⟩
      · exact hv.elim
    · split at hv
      · exact ⟨_, hv.2.2.2, fun K' h => ⟨hv.1, hv.2.1, hv.2.2.1, h⟩⟩
      · exact hv.elim
    · split at hv
      · exact ⟨_, hv.2, fun K' h => ⟨hv.1, h⟩⟩
      · exact hv.elim
    · exact hv.elim
  | index ty x i =>
    refine vWith_det (F := fun v K => vWith (ev t i) fun i => vIndex P ty v i h K) hv fun v hv => ?_
    refine vWith_det (F := fun i K => vIndex P ty v i h K) hv fun u hv => ?_
    unfold vIndex at hv
    unfold Det vIndex
    split at hv
    · obtain ⟨v, h1, h2⟩ := vTake_det hv.2
      exact ⟨v, h1, fun K' hk => ⟨hv.1, h2 _ hk⟩⟩
    · exact hv.elim
  | extract x i =>
    refine vWith_det (F := fun v K => vExtract v i h K) hv fun v hv => ?_
    unfold vExtract at hv
    unfold Det vExtract
    split at hv
    · split at hv
      · exact ⟨_, hv, fun K' h => h⟩
      · exact hv.elim
    · exact hv.elim
  | call c =>
    obtain ⟨callee, args, tys⟩ := c
    cases callee with
    | builtin b =>
      cases b <;> simp only [vq, Bool.false_eq_true] at hq <;> simp only [vop, Det] at hv ⊢ <;> unfold vBuiltin at hv ⊢
      · split at hv <;> first | (exfalso; exact hv) | skip
        · unfold vLen at hv ⊢
          split at hv
          · exact ⟨_, hv.2, fun K' h => ⟨hv.1, h⟩⟩
          · exact ⟨_, hv.2, fun K' h => ⟨hv.1, h⟩⟩
          · exact ⟨_, hv.2, fun K' h => ⟨hv.1, h⟩⟩
          · exact ⟨_, hv.2, fun K' h => ⟨hv.1, h⟩⟩
          · exact ⟨_, hv.2, fun K' h => ⟨hv.1, h⟩⟩
          · exact hv.elim
        all_goals contradiction
      · split at hv <;> first | contradiction | exact ⟨_, hv, fun K' h => h⟩ | exact hv.elim
      · split at hv <;> first | contradiction | exact ⟨_, hv, fun K' h => h⟩ | exact hv.elim
    | value f => simp [vq] at hq
    | invoke r s => simp [vq] at hq
  | _ => simp [vq] at hq
/-- The run of such an operation. -/
theorem vq_run {β : Val} {w : World} {o : Op} {ty : TypeId} {dst : Option Tmp} {pos : String} {af : Array Edge} {gu : Option (Nat × Bool)} {t : List (Option VV)} {a : Act} (hq : vq o = true) (hv : vop P o t h K) (rt : RepT β h.length t a.tmps) (r : RepH β h w) :
    ∃ v, (execOp a.eval { dst, op := o, type := ty, pos, after := af, guard := gu }).run P w = .ok (.value (den β v)) w ∧ gd β h.length v ∧ K v h := by
  have he := ev_ok rt
  have up : ∀ {s : Sem Value}, Here P s β h w K → ∃ v, (do pure (.value (← s)) : Sem Next).run P w = .ok (.value (den β v)) w ∧ gd β h.length v ∧ K v h := fun ⟨v, h1, h2, h3⟩ => ⟨v, by simp [h1], h2, h3⟩
  cases o with
  | move x => obtain ⟨v, hx, hK⟩ := vWith_some hv; exact ⟨v, by simp only [execOp, (he x v hx).1, Sem.run_pure], (he x v hx).2, hK⟩
  | assign x => obtain ⟨v, hx, hK⟩ := vWith_some hv; exact ⟨v, by simp only [execOp, (he x v hx).1, Sem.run_pure], (he x v hx).2, hK⟩
  | pick c x y =>
    obtain ⟨b, v, hc, hx, hK⟩ := vPick_ok hv
    have e1 := (he c _ hc).1
    cases b
    · have e2 := he y v hx
      exact ⟨v, by simp only [execOp, e1, den, asBool, Sem.run_bind, Sem.run_pure, Result.andThen_ok, Bool.false_eq_true, if_false, e2.1], e2.2, hK⟩
    · have e2 := he x v hx
      exact ⟨v, by simp only [execOp, e1, den, asBool, Sem.run_bind, Sem.run_pure, Result.andThen_ok, if_true, e2.1], e2.2, hK⟩
  | build e ps => exact up (vBuild_ok he hv r)
  | load e x => obtain ⟨v, hx, hK⟩ := vWith_some hv; have e1 := he x v hx; simp only [execOp, e1.1]; exact up (vLoad_ok hK r e1.2)
  | nilCheck x =>
    obtain ⟨v, hx, hK⟩ := vWith_some hv
    have e1 := he x v hx
    unfold vNilCheck at hK
    split at hK
    · rename_i id idx sz fo
      obtain ⟨hA, hK⟩ := hK
      obtain ⟨p, hp⟩ := vAt_ok hA r
      exact ⟨_, by simp only [execOp, e1.1, den, adr, hp, Option.map_some, Sem.run_pure], e1.2, hK⟩
    · exact ⟨_, by simp only [execOp, e1.1, den, Sem.run_pure], e1.2, hK⟩
    · exact ⟨_, by simp only [execOp, e1.1, den, Sem.run_pure], e1.2, hK⟩
    · exact hK.elim
  | binOp op e x y e' =>
    obtain ⟨v, hx, hK⟩ := vWith_some hv
    obtain ⟨u, hy, hK⟩ := vWith_some hK
    simp only [execOp, (he x v hx).1, (he y u hy).1]
    exact up (vBinH_ok hK r (he x v hx).2)
  | unOp op e x => obtain ⟨v, hx, hK⟩ := vWith_some hv; simp only [execOp, (he x v hx).1]; exact up (vUn_ok hK r)
  | convert s d x => obtain ⟨v, hx, hK⟩ := vWith_some hv; simp only [execOp, (he x v hx).1]; exact up (vConvH_ok hK r (he x v hx).2)
  | makeFunc fn x y =>
    simp only [vop, vFunc] at hv
    split at hv
    · rename_i f a' b' h1 h2
      have e1 := evs_ok rt _ _ h1
      have e2 := evs_ok rt _ _ h2
      refine ⟨.func f a' b', ?_, ⟨⟨e1.2.1, e2.2.1⟩, ⟨e1.2.2, e2.2.2⟩⟩, hv⟩
      simp only [execOp, Instr.makeFunc, Sem.run_bind, Sem.run_pure, Result.andThen_ok, den, ← e1.1, ← e2.1]
      have e3 : ∀ (z : Array Operand), z.map a.eval = (z.toList.map a.eval).toArray := fun z => Array.ext' (by simp)
      rw [e3 x, e3 y]
    · exact hv.elim
  | fieldAddr e x f => obtain ⟨v, hx, hK⟩ := vWith_some hv; simp only [execOp, (he x v hx).1]; exact up (vFieldAddr_ok hK r (he x v hx).2)
  | field e x f => obtain ⟨v, hx, hK⟩ := vWith_some hv; have e1 := he x v hx; simp only [execOp, e1.1]; exact up (vField_ok hK r e1.2)
  | indexAddr e x i =>
    obtain ⟨v, hx, hK⟩ := vWith_some hv
    obtain ⟨u, hy, hK⟩ := vWith_some hK
    simp only [execOp, (he x v hx).1, (he i u hy).1]
    exact up (vIndexAddr_ok hK r (he x v hx).2)
  | index e x i =>
    obtain ⟨v, hx, hK⟩ := vWith_some hv
    obtain ⟨u, hy, hK⟩ := vWith_some hK
    have e1 := he x v hx
    simp only [execOp, e1.1, (he i u hy).1]
    exact up (vIndex_ok hK r e1.2)
  | lookup e x i ok =>
    obtain ⟨m, hx, hK⟩ := vWith_some hv
    obtain ⟨k, hy, hK⟩ := vWith_some hK
    simp only [execOp, (he x m hx).1, (he i k hy).1]
    exact up (vLookup_ok hK r)
  | extract x i => obtain ⟨v, hx, hK⟩ := vWith_some hv; have e1 := he x v hx; simp only [execOp, e1.1]; exact up (vExtract_ok hK r e1.2)
  | call c =>
    obtain ⟨callee, args, argTypes⟩ := c
    cases callee with
    | builtin b =>
      have hargs : ∀ vs, evs t args.toList = some vs → args.map a.eval = (denL β vs).toArray ∧ gdL β h.length vs := fun vs hvs => by
        obtain ⟨e1, e2⟩ := evs_ok rt _ _ hvs
        exact ⟨Array.ext' (by rw [← e1]; simp), e2⟩
      have hts : ∀ l, argTypes.toList = l → argTypes = l.toArray := fun l hl => by subst hl; rfl
      simp only [vop] at hv
      unfold vBuiltin at hv
      split at hv
      · rename_i t' x h1 h2
        obtain ⟨e1, e2⟩ := hargs _ h2
        obtain rfl := hts _ h1
        obtain ⟨v, hr, hb, hk⟩ := vLen_ok (P := P) (ty := ty) hv r
        refine ⟨v, ?_, hb, hk⟩
        simp only [execOp, resolve, Sem.run_bind, Sem.run_pure, Result.andThen_ok, invoke, builtin, e1, denL, hr]
      · simp [vq] at hq
      · simp [vq] at hq
      · rename_i k x k' y h2
        obtain ⟨e1, e2⟩ := hargs _ h2
        refine ⟨.int k (if y > x then y else x), ?_, ⟨trivial, trivial⟩, hv⟩
        simp only [execOp, resolve, Sem.run_bind, Sem.run_pure, Result.andThen_ok, invoke, builtin, e1, denL, den, Builtin.max_]
        rfl
      · rename_i k x k' y h2
        obtain ⟨e1, e2⟩ := hargs _ h2
        refine ⟨.int k (if y < x then y else x), ?_, ⟨trivial, trivial⟩, hv⟩
        simp only [execOp, resolve, Sem.run_bind, Sem.run_pure, Result.andThen_ok, invoke, builtin, e1, denL, den, Builtin.min_]
        rfl
      · exact hv.elim
    | value f => exact hv.elim
    | invoke x s => exact hv.elim
  | _ => simp [vq] at hq
theorem vq_ok {β : Val} {o : Op} {ty : TypeId} {dst : Option Tmp} {pos : String} {af : Array Edge} {gu : Option (Nat × Bool)} {t : List (Option VV)} {a : Act} {w0 : World} (hq : vq o = true) (hv : vop P o t h K) (rt : RepT β h.length t a.tmps) (r0 : RepH β h w0) :
    ∃ v, (∀ w, RepH β h w → (execOp a.eval { dst, op := o, type := ty, pos, after := af, guard := gu }).run P w = .ok (.value (den β v)) w) ∧ gd β h.length v ∧ K v h := by
  obtain ⟨v, h1, h2⟩ := vop_det hq hv
  have hv' := h2 (fun u h' => u = v ∧ h' = h) ⟨rfl, rfl⟩
  have key : ∀ w, RepH β h w → (execOp a.eval { dst, op := o, type := ty, pos, after := af, guard := gu }).run P w = .ok (.value (den β v)) w ∧ gd β h.length v := fun w r => by
    obtain ⟨u, g1, g2, g3, _⟩ := vq_run (ty := ty) (dst := dst) (pos := pos) (af := af) (gu := gu) hq hv' rt r
    subst g3
    exact ⟨g1, g2⟩
  exact ⟨v, fun w r => (key w r).1, (key w0 r0).2, h1⟩

/-! ### A slice expression looks at no world -/
def Pur {α : Type} (P : Program) (s : Sem α) : Prop := ∀ w v w1, s.run P w = .ok v w1 → w1 = w ∧ ∀ w2, s.run P w2 = .ok v w2
theorem Pur.bind {α β : Type} {s : Sem α} {f : α → Sem β} (hs : Pur P s) (hf : ∀ a, Pur P (f a)) : Pur P (s >>= f) := fun w v w1 hr => by
  rw [Sem.run_bind] at hr
  cases h1 : s.run P w with
  | halt x w' => rw [h1] at hr; simp [Result.andThen] at hr
  | ok a w' =>
    rw [h1] at hr
    obtain ⟨e1, e2⟩ := hs w a w' h1
    subst e1
    obtain ⟨e3, e4⟩ := hf a _ v w1 hr
    exact ⟨e3, fun w2 => by rw [Sem.run_bind, e2 w2]; exact e4 w2⟩
theorem Pur.pure {α : Type} (a : α) : Pur P (Pure.pure a : Sem α) := fun w v w1 hr => by
  simp only [Sem.run_pure, Result.ok.injEq] at hr
  obtain ⟨rfl, rfl⟩ := hr
  exact ⟨rfl, fun _ => rfl⟩
theorem Pur.never {α : Type} {s : Sem α} (hs : ∀ w v w1, s.run P w ≠ .ok v w1) : Pur P s := fun w v w1 hr => (hs w v w1 hr).elim
theorem Pur.ite {α : Type} {c : Prop} [Decidable c] {s t : Sem α} (hs : Pur P s) (ht : Pur P t) : Pur P (if c then s else t) := by split <;> assumption
theorem Pur.one {α : Type} {s : Sem α} {v : α} (hs : ∀ w : World, s.run P w = .ok v w) : Pur P s := fun w u w1 hr => by
  rw [hs w] at hr
  injection hr with h1 h2
  subst h1; subst h2
  exact ⟨rfl, hs⟩
theorem Pur.underlying (t : TypeId) : Pur P (underlying t) := fun w v w1 hr => by
  cases hu : P.underlying t with
  | none => simp [Go.underlying, hu] at hr
  | some d =>
    rw [run_underlying hu] at hr
    simp only [Result.ok.injEq] at hr
    obtain ⟨rfl, rfl⟩ := hr
    exact ⟨rfl, fun w2 => run_underlying hu w2⟩
theorem Pur.sizeOf (t : TypeId) : Pur P (sizeOf t) := fun w v w1 hr => by
  cases hu : tsz P t with
  | none =>
    have : P.info? t = none := by simpa [tsz] using hu
    simp [Go.sizeOf, typeInfo, this] at hr
  | some d =>
    rw [sizeOf_run t d hu] at hr
    simp only [Result.ok.injEq] at hr
    obtain ⟨rfl, rfl⟩ := hr
    exact ⟨rfl, fun w2 => sizeOf_run (w := w2) t d hu⟩
theorem Pur.boundsPanic {α : Type} (k : IntKind) (i n : Int) (c : BoundsCode) : Pur P (boundsPanic k i n c : Sem α) := Pur.never fun w v w1 hr => by
  obtain ⟨s, w', h⟩ := run_boundsPanic (α := α) (P := P) (w := w) k i n c
  rw [h] at hr; cases hr
theorem Pur.stuck {α : Type} (s : String) : Pur P (stuck s : Sem α) := Pur.never fun w v w1 hr => by simp at hr
theorem Pur.asIntOf (v : Value) : Pur P (asIntOf v) := by
  unfold Go.asIntOf
  split
  · exact Pur.pure _
  · exact Pur.never fun w v w1 hr => by simp at hr
  · exact Pur.stuck _
theorem Pur.sliceBound (x : Value) (y : Nat) (c : BoundsCode) : Pur P (Instr.sliceBound x y c) := by
  unfold Instr.sliceBound
  exact Pur.bind (Pur.asIntOf x) fun a => Pur.ite (Pur.pure _) (Pur.boundsPanic _ _ _ _)
theorem Pur.sliceBounds (b : Bool) (n c : Nat) (lo hi mx : Option Value) : Pur P (Instr.sliceBounds b n c lo hi mx) := by
  cases lo <;> cases hi <;> cases mx <;> (unfold Instr.sliceBounds; dsimp only; repeat (first | exact Pur.pure _ | exact Pur.sliceBound _ _ _ | exact Pur.stuck _ | refine Pur.bind ?_ (fun _ => ?_)))
theorem Pur.sliceArr {t : TypeId} {x : Value} {lo hi mx : Option Value} {n : Nat} {e : TypeId} (hu : P.underlying t = some (.array n e)) (hs : ∃ a, x = .pointer (some a)) : Pur P (Instr.sliceAt t x lo hi mx) := fun w v w1 hr => by
  obtain ⟨a, rfl⟩ := hs
  have hp : Pur P (do
      let (l, h, m) ← Instr.sliceBounds false n n lo hi mx
      let size ← Go.sizeOf e
      Pure.pure (Value.slice (some (if m = l then a else a.add (l * size))) (h - l) (m - l)) : Sem Value) :=
    Pur.bind (Pur.sliceBounds _ _ _ _ _ _) fun x => Pur.bind (Pur.sizeOf e) fun s => Pur.pure _
  have e1 : ∀ w, (Instr.sliceAt t (.pointer (some a)) lo hi mx).run P w = (do
      let (l, h, m) ← Instr.sliceBounds false n n lo hi mx
      let size ← Go.sizeOf e
      Pure.pure (Value.slice (some (if m = l then a else a.add (l * size))) (h - l) (m - l)) : Sem Value).run P w := fun w => by
    simp only [Instr.sliceAt, Sem.run_bind, run_underlying hu, Result.andThen_ok, Instr.sureAddr, Sem.run_pure]
  rw [e1] at hr
  obtain ⟨g1, g2⟩ := hp w v w1 hr
  exact ⟨g1, fun w2 => by rw [e1]; exact g2 w2⟩
theorem Pur.slice {t : TypeId} {A : Option Addr} {n c : Nat} {lo hi mx : Option Value} {e : TypeId} (hu : P.underlying t = some (.slice e)) : Pur P (Instr.sliceAt t (.slice A n c) lo hi mx) := fun w v w1 hr => by
  have hp : Pur P (do
      let (l, h, m) ← Instr.sliceBounds true n c lo hi mx
      let size ← Go.sizeOf e
      Pure.pure (Value.slice (if m = l then A else A.map (·.add (l * size))) (h - l) (m - l)) : Sem Value) :=
    Pur.bind (Pur.sliceBounds _ _ _ _ _ _) fun x => Pur.bind (Pur.sizeOf e) fun s => Pur.pure _
  have e1 : ∀ w, (Instr.sliceAt t (.slice A n c) lo hi mx).run P w = (do
      let (l, h, m) ← Instr.sliceBounds true n c lo hi mx
      let size ← Go.sizeOf e
      Pure.pure (Value.slice (if m = l then A else A.map (·.add (l * size))) (h - l) (m - l)) : Sem Value).run P w := fun w => by
    simp only [Instr.sliceAt, Sem.run_bind, run_underlying hu, Result.andThen_ok, Instr.slice]
  rw [e1] at hr
  obtain ⟨g1, g2⟩ := hp w v w1 hr
  exact ⟨g1, fun w2 => by rw [e1]; exact g2 w2⟩

/-! ### The certificate -/
inductive Crt where
  | done
  | take (i : Nat) (c : Crt)
  | view (i : Nat) (c : Crt)
  | one (i : Nat) (c : Crt)
  | two (i : Nat) (c : Crt) (j : Nat) (d : Crt)
def okC (ops : Array Oper) : Array Bool → Crt → Bool
  | l, .done => (Region.ready .any ops l).isEmpty
  | l, .take i c => Region.free .any ops l i && (Region.ready .any ops l).contains i && okC ops (l.setIfInBounds i true) c
  | l, .view i c => Region.free .any ops l i && (Region.ready .any ops l).contains i && okC ops (l.setIfInBounds i true) c
  | l, .one i c => (Region.ready .any ops l == [i]) && okC ops (l.setIfInBounds i true) c
  | l, .two i c j d => (Region.ready .any ops l == [i, j]) && okC ops (l.setIfInBounds i true) c && okC ops (l.setIfInBounds j true) d
/-- What is kept through a region: these blocks, the others left out; as many as there are by now. -/
def pad (hk : List Blk) (n : Nat) : List Blk := hk ++ List.replicate (n - hk.length) .gone
def kept : List Blk → List Blk → Prop
  | [], _ => True
  | .gone :: hk, _ :: h => kept hk h
  | b :: hk, c :: h => c = b ∧ kept hk h
  | _, _ => False
def vQuiet (P : Program) (o : Oper) (hk : List Blk) (st : St) (K : St → Prop) : Prop :=
  vq o.op = true ∧ vop P o.op st.t (pad hk st.h.length) fun v _ => K ⟨tput st.t o.dst v, st.h⟩
/-- A slice of what is kept: a new view. -/
def isSlice : Op → Bool
  | .slice .. | .nilCheck _ | .fieldAddr .. | .indexAddr .. => true
  | _ => false
def vViewS (P : Program) (o : Oper) (hk : List Blk) (st : St) (K : St → Prop) : Prop :=
  isSlice o.op = true ∧ vop P o.op st.t st.h fun v h' => kept hk h' ∧ K ⟨tput st.t o.dst v, h'⟩
def vGd (all : List Oper) (o : Oper) (st : St) (A : Prop) (B : Prop) : Prop :=
  match o.guard with
  | none => A
  | some (j, want) => vGuard (gslot all j st.t) want A B
def vcrt (P : Program) (all : List Oper) (hk : List Blk) : Crt → St → (St → Prop) → Prop
  | .done, st, K => K st
  | .take i c, st, K => match nth all i with
    | some o => vGd all o st (vQuiet P o hk st fun st' => vcrt P all hk c st' K) (vcrt P all hk c ⟨tput st.t o.dst (.tup []), st.h⟩ K)
    | none => False
  | .view i c, st, K => match nth all i with
    | some o => vGd all o st (vViewS P o hk st fun st' => vcrt P all hk c st' K) (vcrt P all hk c ⟨tput st.t o.dst (.tup []), st.h⟩ K)
    | none => False
  | .one i c, st, K => match nth all i with
    | some o => vGd all o st (vstep P true o st fun st' => kept hk st'.h ∧ vcrt P all hk c st' K) (vcrt P all hk c ⟨tput st.t o.dst (.tup []), st.h⟩ K)
    | none => False
  | .two i c j d, st, K => (match nth all i with
    | some o => vGd all o st (vstep P true o st fun st' => kept hk st'.h ∧ vcrt P all hk c st' K) (vcrt P all hk c ⟨tput st.t o.dst (.tup []), st.h⟩ K)
    | none => False) ∧ (match nth all j with
    | some o => vGd all o st (vstep P true o st fun st' => kept hk st'.h ∧ vcrt P all hk d st' K) (vcrt P all hk d ⟨tput st.t o.dst (.tup []), st.h⟩ K)
    | none => False)
theorem kept_get : ∀ {hk h : List Blk}, kept hk h → hk.length ≤ h.length ∧ ∀ (i : Nat) b, hk[i]? = some b → b = .gone ∨ h[i]? = some b
  | [], h, _ => ⟨by simp, fun i b hi => by simp at hi⟩
  | b :: hk, c :: h, hh => by
    have h2 : kept hk h ∧ (b = .gone ∨ c = b) := by
      cases b <;> simp only [kept] at hh
      · exact ⟨hh, .inl rfl⟩
      · exact ⟨hh.2, .inr hh.1⟩
      · exact ⟨hh.2, .inr hh.1⟩
      · exact ⟨hh.2, .inr hh.1⟩
      · exact ⟨hh.2, .inr hh.1⟩
    obtain ⟨e1, e2⟩ := kept_get h2.1
    refine ⟨by simp; omega, fun i x hi => ?_⟩
    cases i with
    | zero =>
      simp only [List.getElem?_cons_zero, Option.some.injEq] at hi
      subst hi
      rcases h2.2 with e | e
      · exact .inl e
      · exact .inr (by simp [e])
    | succ i => simpa using e2 i x (by simpa using hi)
  | b :: hk, [], hh => by cases b <;> exact hh.elim
/-- The kept blocks lie where they lay. -/
def KRep (β0 : Val) (hk : List Blk) (w : World) : Prop := ∀ n, hk.length ≤ n → ∀ β : Val, (∀ i, i < hk.length → β i = β0 i) → β.fz = β0.fz → RepH β (pad hk n) w
theorem kept_rep {β β0 : Val} {hk h : List Blk} {w : World} (hs : kept hk h) (hb : bdH hk.length hk) (r : RepH β h w) (hβ : ∀ i, i < hk.length → β i = β0 i) (hF : β.fz = β0.fz) : KRep β0 hk w := by
  obtain ⟨e1, e2⟩ := kept_get hs
  intro n hn β' hβ' hF'
  have hFF : β'.fz = β.fz := hF'.trans hF.symm
  have get : ∀ (i : Nat) b, (pad hk n)[i]? = some b → b = .gone ∨ (i < hk.length ∧ hk[i]? = some b ∧ h[i]? = some b) := fun i b hi => by
    unfold pad at hi
    rcases Nat.lt_or_ge i hk.length with c | c
    · rw [List.getElem?_append_left c] at hi
      rcases e2 i b hi with e | e
      · exact .inl e
      · exact .inr ⟨c, hi, e⟩
    · rw [List.getElem?_append_right c] at hi
      have := List.mem_of_getElem? hi
      simp at this
      exact .inl this.2
  have hlen : (pad hk n).length = n := by unfold pad; simp; omega
  constructor
  · intro i b hi
    rw [hlen]
    rcases get i b hi with rfl | ⟨c1, c2, c3⟩
    · trivial
    · exact BlkRep.move hn c1 (fun j hj => by rw [hβ' j hj, hβ j hj]) (by rw [hFF]; exact FLe.refl _) (fun _ _ => rfl) ((r.blk i b c3).trim (bdH_get hb i b c2))
  · intro i j b c hi hj hij hbo hch k hki hkj
    rcases get i b hi with rfl | ⟨c1, c2, c3⟩
    · simp [Blk.owned] at hbo
    · rcases get j c hj with rfl | ⟨d1, d2, d3⟩
      · exact gone_held hch
      · have f1 : bno β i = some k := by rw [← hki]; simp only [bno, hβ i c1, hβ' i c1]
        have f2 : bno β j = some k := by rw [← hkj]; simp only [bno, hβ j d1, hβ' j d1]
        exact r.sep i j b c c3 d3 hij hbo hch k f1 f2
  · rw [hFF]; exact r.fz
  · intro i b hi hbo k hk'
    rcases get i b hi with rfl | ⟨c1, c2, c3⟩
    · simp [Blk.owned] at hbo
    · rw [hFF]; exact r.fsep i b c3 hbo k (by rw [← hk']; simp only [bno, hβ i c1, hβ' i c1])

def Crt.depth : Crt → Nat
  | .done => 0
  | .take _ c => c.depth + 1
  | .view _ c => c.depth + 1
  | .one _ c => c.depth + 1
  | .two _ c _ d => max c.depth d.depth + 1
def onlyN (Q : Act → World → Prop) : Exit → Act → World → Prop
  | .normal, a, w => Q a w
  | _, _, _ => False
theorem vGd_cases {E : Entry} {st : St} {β : Val} {a : Act} {w : World} {ops : Array Oper} {o : Oper} {A B : Prop} (r : Rep E st β a w) (hv : vGd ops.toList o st A B) :
    (Region.wanted o (yielded ops a.tmps) = true ∧ A) ∨ (Region.wanted o (yielded ops a.tmps) = false ∧ B) := by
  unfold vGd at hv
  split at hv
  · rename_i hg; exact .inl ⟨by simp [Region.wanted, hg], hv⟩
  · rename_i j want hg
    rcases vGuard_cases hv with ⟨b, hgs, h1, h2⟩ | ⟨l', hgs, h2⟩
    · have hy := gslot_yield (ops := ops) r.t hgs
      by_cases hb : b = want
      · exact .inl ⟨by simp [Region.wanted, hg, hy, hb], h1 hb⟩
      · exact .inr ⟨by simp [Region.wanted, hg, hy, hb], h2 hb⟩
    · have hy := gslot_yield (ops := ops) r.t hgs
      exact .inr ⟨by simp [Region.wanted, hg, hy], h2⟩
theorem vcrt_ok {E : Entry} {ops : Array Oper} {hk : List Blk} {β0 : Val} {K : St → Prop} {Q : Act → World → Prop} (hns : Region.noSelect ops = true) (hb : bdH hk.length hk) (hK : ∀ st' β' a' w', Rep E st' β' a' w' → K st' → Q a' w') :
    ∀ (c : Crt) (listed : Array Bool) (fuel : Nat) (st : St) (β : Val) (a : Act) (w : World), okC ops listed c = true → c.depth ≤ fuel → vcrt P ops.toList hk c st K → Rep E st β a w → (∀ i, i < hk.length → β i = β0 i) → β.fz = β0.fz → hk.length ≤ st.h.length → KRep β0 hk w →
      wpAnyH P .any ops (onlyN Q) (KRep β0 hk) fuel listed a w
  | .done, listed, fuel, st, β, a, w, ho, _, hv, r, _, _, _, _ => wpAnyH_done (by simpa [okC] using ho) (hK st β a w r hv) fuel
  | .take i c, listed, fuel, st, β, a, w, ho, hf, hv, r, hβ, hF, hl, hS => by
    obtain ⟨f, rfl⟩ : ∃ f, fuel = f + 1 := ⟨fuel - 1, by simp [Crt.depth] at hf; omega⟩
    simp only [Crt.depth] at hf
    simp only [okC, Bool.and_eq_true] at ho
    simp only [vcrt, nth_eq] at hv
    split at hv
    · rename_i o hio
      have hio' : ops[i]? = some o := by simpa using hio
      have ih := vcrt_ok (E := E) (ops := ops) (hk := hk) (β0 := β0) (K := K) (Q := Q) hns hb hK c (listed.setIfInBounds i true) f
      rcases vGd_cases r hv with ⟨hw, hq, hvo⟩ | ⟨hw, hvo⟩
      · obtain ⟨dst, op, ty, pos, af, gu⟩ := o
        have hpl : (pad hk st.h.length).length = st.h.length := by unfold pad; simp; omega
        obtain ⟨v, h1, h2, h3⟩ := vq_ok (ty := ty) (dst := dst) (pos := pos) (af := af) (gu := gu) hq hvo (by rw [hpl]; exact r.t) (hS _ hl β hβ hF)
        rw [hpl] at h2
        refine wpAnyH_take hio' hns ho.1.1 ho.1.2 (fun _ _ _ h => h) (.inl ⟨hw, fun w' hw' => h1 w' (hw' _ hl β hβ hF)⟩) hS ?_
        exact ih ⟨tput st.t dst v, st.h⟩ β _ w ho.2 (by omega) h3 (r.step r.h (Link.refl _ _ _) h2 (fun _ => rfl)) hβ hF hl hS
      · refine wpAnyH_take hio' hns ho.1.1 ho.1.2 (fun _ _ _ h => h) (.inr ⟨hw, rfl⟩) hS ?_
        exact ih ⟨tput st.t o.dst (.tup []), st.h⟩ β _ w ho.2 (by omega) hvo (r.step (v := .tup []) r.h (Link.refl _ _ _) ⟨trivial, trivial⟩ (fun _ => rfl)) hβ hF hl hS
    · exact hv.elim
  | .view i c, listed, fuel, st, β, a, w, ho, hf, hv, r, hβ, hF, hl, hS => by
    obtain ⟨f, rfl⟩ : ∃ f, fuel = f + 1 := ⟨fuel - 1, by simp [Crt.depth] at hf; omega⟩
    simp only [Crt.depth] at hf
    simp only [okC, Bool.and_eq_true] at ho
    simp only [vcrt, nth_eq] at hv
    split at hv
    · rename_i o hio
      have hio' : ops[i]? = some o := by simpa using hio
      have ih := vcrt_ok (E := E) (ops := ops) (hk := hk) (β0 := β0) (K := K) (Q := Q) hns hb hK c (listed.setIfInBounds i true) f
      rcases vGd_cases r hv with ⟨hw, hq, hvo⟩ | ⟨hw, hvo⟩
      · obtain ⟨dst, op, ty, pos, af, gu⟩ := o
        have hrun0 := vop_ok (P := P) (ty := ty) (dst := dst) (pos := pos) (af := af) (gu := gu) hvo r.t r.h
        cases op with
        | slice tt x lo hi mx =>
          obtain ⟨v0, hx, hvs⟩ := vWith_some hvo
          have hpur0 : Pur P (Instr.sliceAt tt (a.eval x) (lo.map a.eval) (hi.map a.eval) (mx.map a.eval)) := by
            have ex := (ev_ok r.t x v0 hx).1
            rw [ex]
            unfold vSlice at hvs
            split at hvs
            · rename_i ht; obtain ⟨e, hu⟩ := tsl_under (P := P) (t := tt) (by rw [ht]; rfl); exact Pur.slice hu
            · rename_i ht; obtain ⟨e, hu⟩ := tsl_under (P := P) (t := tt) (by rw [ht]; rfl); exact Pur.slice hu
            · rename_i ht; obtain ⟨e, hu⟩ := tsl_under (P := P) (t := tt) (by rw [ht]; rfl); exact Pur.slice hu
            · split at hvs
              · rename_i hta
                obtain ⟨_, ha, _⟩ := hvs
                obtain ⟨p, hp⟩ := vAt_ok ha r.h
                unfold tarr at hta
                split at hta
                · rename_i hu
                  refine Pur.sliceArr hu ?_
                  simp only [den, adr, hp, Option.map_some]
                  exact ⟨_, rfl⟩
                · cases hta
              · exact hvs.elim
            · exact hvs.elim
          have hpur : Pur P (execOp a.eval { dst, op := .slice tt x lo hi mx, type := ty, pos, after := af, guard := gu }) := Pur.bind hpur0 fun s => Pur.pure _
          have hns' : ∀ w w', (execOp a.eval { dst, op := .slice tt x lo hi mx, type := ty, pos, after := af, guard := gu }).run P w ≠ .ok .skip w' := fun w w' hh => by
            have hh : ((Instr.sliceAt tt (a.eval x) (lo.map a.eval) (hi.map a.eval) (mx.map a.eval)) >>= fun s => (Pure.pure (Next.value s) : Sem Next)).run P w = .ok .skip w' := hh
            rw [Sem.run_bind] at hh
            cases hs : (Instr.sliceAt tt (a.eval x) (lo.map a.eval) (hi.map a.eval) (mx.map a.eval)).run P w <;> rw [hs] at hh <;> simp [Result.andThen] at hh
          obtain ⟨β', h', w', v, hrun, hr', hl', hb', hkp, hK'⟩ := hrun0
          have hval : (execOp a.eval { dst, op := .slice tt x lo hi mx, type := ty, pos, after := af, guard := gu }).run P w = .ok (.value (den β' v)) w' := by
            rcases hrun with hrun | ⟨hrun, _⟩
            · exact hrun
            · exact (hns' w w' hrun).elim
          obtain ⟨e1, e2⟩ := hpur w _ _ hval
          subst e1
          refine wpAnyH_take (v := den β' v) hio' hns ho.1.1 ho.1.2 (fun _ _ _ h => h) (.inl ⟨hw, fun w2 _ => e2 w2⟩) hS ?_
          have hβ' : ∀ i, i < hk.length → β' i = β0 i := fun i hi => (hl'.ext i (by omega)).trans (hβ i hi)
          exact ih ⟨tput st.t dst v, h'⟩ β' _ _ ho.2 (by omega) hK' (r.step hr' hl'.toLink hb' (fun _ => hl'.same)) hβ' (hl'.same.trans hF) (kept_get hkp).1 hS
        | nilCheck x =>
          obtain ⟨v0, hx, hvs⟩ := vWith_some hvo
          have ex := (ev_ok r.t x v0 hx).1
          have hone : ∀ w, (execOp a.eval { dst, op := .nilCheck x, type := ty, pos, after := af, guard := gu }).run P w = .ok (.value (den β v0)) w := fun w => by
            unfold vNilCheck at hvs
            split at hvs
            · rename_i id idx sz fo
              obtain ⟨p, hp⟩ := vAt_ok hvs.1 r.h
              simp only [execOp, ex, den, adr, hp, Option.map_some, Sem.run_pure]
            · simp only [execOp, ex, den, Sem.run_pure]
            · simp only [execOp, ex, den, Sem.run_pure]
            · exact hvs.elim
          have hpur : Pur P (execOp a.eval { dst, op := .nilCheck x, type := ty, pos, after := af, guard := gu }) := Pur.one hone
          have hns' : ∀ w w', (execOp a.eval { dst, op := .nilCheck x, type := ty, pos, after := af, guard := gu }).run P w ≠ .ok .skip w' := fun w w' hh => by
            rw [hone w] at hh; cases hh
          obtain ⟨β', h', w', v, hrun, hr', hl', hb', hkp, hK'⟩ := hrun0
          have hval : (execOp a.eval { dst, op := .nilCheck x, type := ty, pos, after := af, guard := gu }).run P w = .ok (.value (den β' v)) w' := by
            rcases hrun with hrun | ⟨hrun, _⟩
            · exact hrun
            · exact (hns' w w' hrun).elim
          obtain ⟨e1, e2⟩ := hpur w _ _ hval
          subst e1
          refine wpAnyH_take (v := den β' v) hio' hns ho.1.1 ho.1.2 (fun _ _ _ h => h) (.inl ⟨hw, fun w2 _ => e2 w2⟩) hS ?_
          have hβ' : ∀ i, i < hk.length → β' i = β0 i := fun i hi => (hl'.ext i (by omega)).trans (hβ i hi)
          exact ih ⟨tput st.t dst v, h'⟩ β' _ _ ho.2 (by omega) hK' (r.step hr' hl'.toLink hb' (fun _ => hl'.same)) hβ' (hl'.same.trans hF) (kept_get hkp).1 hS
        | fieldAddr e x f' =>
          obtain ⟨v0, hx, hvs⟩ := vWith_some hvo
          have ex := ev_ok r.t x v0 hx
          obtain ⟨u, hu, _⟩ := vFieldAddr_any hvs r.h ex.2
          have hone : ∀ w, (execOp a.eval { dst, op := .fieldAddr e x f', type := ty, pos, after := af, guard := gu }).run P w = .ok (.value (den β u)) w := fun w => by
            simp only [execOp, ex.1, Sem.run_bind, hu w, Result.andThen_ok, Sem.run_pure]
          have hpur : Pur P (execOp a.eval { dst, op := .fieldAddr e x f', type := ty, pos, after := af, guard := gu }) := Pur.one hone
          have hns' : ∀ w w', (execOp a.eval { dst, op := .fieldAddr e x f', type := ty, pos, after := af, guard := gu }).run P w ≠ .ok .skip w' := fun w w' hh => by
            rw [hone w] at hh; cases hh
          obtain ⟨β', h', w', v, hrun, hr', hl', hb', hkp, hK'⟩ := hrun0
          have hval : (execOp a.eval { dst, op := .fieldAddr e x f', type := ty, pos, after := af, guard := gu }).run P w = .ok (.value (den β' v)) w' := by
            rcases hrun with hrun | ⟨hrun, _⟩
            · exact hrun
            · exact (hns' w w' hrun).elim
          obtain ⟨e1, e2⟩ := hpur w _ _ hval
          subst e1
          refine wpAnyH_take (v := den β' v) hio' hns ho.1.1 ho.1.2 (fun _ _ _ h => h) (.inl ⟨hw, fun w2 _ => e2 w2⟩) hS ?_
          have hβ' : ∀ i, i < hk.length → β' i = β0 i := fun i hi => (hl'.ext i (by omega)).trans (hβ i hi)
          exact ih ⟨tput st.t dst v, h'⟩ β' _ _ ho.2 (by omega) hK' (r.step hr' hl'.toLink hb' (fun _ => hl'.same)) hβ' (hl'.same.trans hF) (kept_get hkp).1 hS
        | indexAddr e x y =>
          obtain ⟨v0, hx, hvs⟩ := vWith_some hvo
          obtain ⟨v1, hy, hvs⟩ := vWith_some hvs
          have ex := ev_ok r.t x v0 hx
          have ey := ev_ok r.t y v1 hy
          obtain ⟨u, hu, _⟩ := vIndexAddr_any hvs r.h ex.2
          have hone : ∀ w, (execOp a.eval { dst, op := .indexAddr e x y, type := ty, pos, after := af, guard := gu }).run P w = .ok (.value (den β u)) w := fun w => by
            simp only [execOp, ex.1, ey.1, Sem.run_bind, hu w, Result.andThen_ok, Sem.run_pure]
          have hpur : Pur P (execOp a.eval { dst, op := .indexAddr e x y, type := ty, pos, after := af, guard := gu }) := Pur.one hone
          have hns' : ∀ w w', (execOp a.eval { dst, op := .indexAddr e x y, type := ty, pos, after := af, guard := gu }).run P w ≠ .ok .skip w' := fun w w' hh => by
            rw [hone w] at hh; cases hh
          obtain ⟨β', h', w', v, hrun, hr', hl', hb', hkp, hK'⟩ := hrun0
          have hval : (execOp a.eval { dst, op := .indexAddr e x y, type := ty, pos, after := af, guard := gu }).run P w = .ok (.value (den β' v)) w' := by
            rcases hrun with hrun | ⟨hrun, _⟩
            · exact hrun
            · exact (hns' w w' hrun).elim
          obtain ⟨e1, e2⟩ := hpur w _ _ hval
          subst e1
          refine wpAnyH_take (v := den β' v) hio' hns ho.1.1 ho.1.2 (fun _ _ _ h => h) (.inl ⟨hw, fun w2 _ => e2 w2⟩) hS ?_
          have hβ' : ∀ i, i < hk.length → β' i = β0 i := fun i hi => (hl'.ext i (by omega)).trans (hβ i hi)
          exact ih ⟨tput st.t dst v, h'⟩ β' _ _ ho.2 (by omega) hK' (r.step hr' hl'.toLink hb' (fun _ => hl'.same)) hβ' (hl'.same.trans hF) (kept_get hkp).1 hS
        | _ => simp [isSlice] at hq
      · refine wpAnyH_take hio' hns ho.1.1 ho.1.2 (fun _ _ _ h => h) (.inr ⟨hw, rfl⟩) hS ?_
        exact ih ⟨tput st.t o.dst (.tup []), st.h⟩ β _ w ho.2 (by omega) hvo (r.step (v := .tup []) r.h (Link.refl _ _ _) ⟨trivial, trivial⟩ (fun _ => rfl)) hβ hF hl hS
    · exact hv.elim
  | .one i c, listed, fuel, st, β, a, w, ho, hf, hv, r, hβ, hF, hl, hS => by
    obtain ⟨f, rfl⟩ : ∃ f, fuel = f + 1 := ⟨fuel - 1, by simp [Crt.depth] at hf; omega⟩
    simp only [Crt.depth] at hf
    simp only [okC, Bool.and_eq_true, beq_iff_eq] at ho
    simp only [vcrt, nth_eq] at hv
    split at hv
    · rename_i o hio
      have hio' : ops[i]? = some o := by simpa using hio
      have ih := vcrt_ok (E := E) (ops := ops) (hk := hk) (β0 := β0) (K := K) (Q := Q) hns hb hK c (listed.setIfInBounds i true) f
      refine wpAnyH_all ho.1 (by simp) (fun i' hi' => ?_)
      obtain rfl : i' = i := by simpa using hi'
      unfold wpOp
      simp only [hio']
      rcases vGd_cases r hv with ⟨hw, hvo⟩ | ⟨hw, hvo⟩
      · simp only [hw, if_true]
        refine .inl (vstep_ok hvo (fun _ => rfl) r fun st' β' a' w' r' hext hsm h' => ?_)
        have hβ' : ∀ i, i < hk.length → β' i = β0 i := fun i hi => (hext i (by omega)).trans (hβ i hi)
        have hF' : β'.fz = β0.fz := (hsm rfl).trans hF
        have hS' := kept_rep h'.1 hb r'.h hβ' hF'
        exact ⟨hS', ih st' β' a' w' ho.2 (by omega) h'.2 r' hβ' hF' (kept_get h'.1).1 hS'⟩
      · simp only [hw, Bool.false_eq_true, if_false]
        exact ⟨hS, ih ⟨tput st.t o.dst (.tup []), st.h⟩ β _ w ho.2 (by omega) hvo (r.step (v := .tup []) r.h (Link.refl _ _ _) ⟨trivial, trivial⟩ (fun _ => rfl)) hβ hF hl hS⟩
    · exact hv.elim
  | .two i c j d, listed, fuel, st, β, a, w, ho, hf, hv, r, hβ, hF, hl, hS => by
    obtain ⟨f, rfl⟩ : ∃ f, fuel = f + 1 := ⟨fuel - 1, by simp [Crt.depth] at hf; omega⟩
    simp only [Crt.depth] at hf
    simp only [okC, Bool.and_eq_true, beq_iff_eq] at ho
    simp only [vcrt, nth_eq] at hv
    obtain ⟨hv1, hv2⟩ := hv
    have one : ∀ (i : Nat) (c : Crt), okC ops (listed.setIfInBounds i true) c = true → c.depth ≤ f → (match ops.toList[i]? with
        | some o => vGd ops.toList o st (vstep P true o st fun st' => kept hk st'.h ∧ vcrt P ops.toList hk c st' K) (vcrt P ops.toList hk c ⟨tput st.t o.dst (.tup []), st.h⟩ K)
        | none => False) → (∀ st β a w, okC ops (listed.setIfInBounds i true) c = true → c.depth ≤ f → vcrt P ops.toList hk c st K → Rep E st β a w → (∀ i, i < hk.length → β i = β0 i) → β.fz = β0.fz → hk.length ≤ st.h.length → KRep β0 hk w →
          wpAnyH P .any ops (onlyN Q) (KRep β0 hk) f (listed.setIfInBounds i true) a w) →
        wpOp P ops (onlyN Q) i (fun a' w' => KRep β0 hk w' ∧ wpAnyH P .any ops (onlyN Q) (KRep β0 hk) f (listed.setIfInBounds i true) a' w') a w := fun i c hoc hfc hv ih => by
      split at hv
      · rename_i o hio
        have hio' : ops[i]? = some o := by simpa using hio
        unfold wpOp
        simp only [hio']
        rcases vGd_cases r hv with ⟨hw, hvo⟩ | ⟨hw, hvo⟩
        · simp only [hw, if_true]
          refine .inl (vstep_ok hvo (fun _ => rfl) r fun st' β' a' w' r' hext hsm h' => ?_)
          have hβ' : ∀ i, i < hk.length → β' i = β0 i := fun i hi => (hext i (by omega)).trans (hβ i hi)
          have hF' : β'.fz = β0.fz := (hsm rfl).trans hF
          have hS' := kept_rep h'.1 hb r'.h hβ' hF'
          exact ⟨hS', ih st' β' a' w' hoc hfc h'.2 r' hβ' hF' (kept_get h'.1).1 hS'⟩
        · simp only [hw, Bool.false_eq_true, if_false]
          exact ⟨hS, ih ⟨tput st.t o.dst (.tup []), st.h⟩ β _ w hoc hfc hvo (r.step (v := .tup []) r.h (Link.refl _ _ _) ⟨trivial, trivial⟩ (fun _ => rfl)) hβ hF hl hS⟩
      · exact hv.elim
    refine wpAnyH_all ho.1.1 (by simp) (fun i' hi' => ?_)
    simp only [List.mem_cons, List.not_mem_nil, or_false] at hi'
    rcases hi' with rfl | rfl
    · exact one i' c ho.1.2 (by omega) hv1 (fun st β a w => vcrt_ok (E := E) (ops := ops) (hk := hk) (β0 := β0) (K := K) (Q := Q) hns hb hK c (listed.setIfInBounds i' true) f st β a w)
    · exact one i' d ho.2 (by omega) hv2 (fun st β a w => vcrt_ok (E := E) (ops := ops) (hk := hk) (β0 := β0) (K := K) (Q := Q) hns hb hK d (listed.setIfInBounds i' true) f st β a w)
/-- THE RULE for a region whose order is open. -/
theorem vdraw {n0 : N0} {id : Nat} {ops : Array Oper} {st : St} {Q : Exit → St → Prop} (c : Crt) (hk : List Blk) (hm : P.follows .mixedOrders = true) (hc : (Region.noSelect ops && okC ops (Array.replicate ops.size false) c && decide (c.depth ≤ ops.size)) = true)
    (hs : kept hk st.h) (hb : bdH hk.length hk) (hv : vcrt P ops.toList hk c st (Q .normal)) : VW P n0 (.region id ops true) st Q := by
  intro E β a w he r
  simp only [Bool.and_eq_true, decide_eq_true_eq] at hc
  have r1 : Rep E st β a { w with drawn := w.drawn + 1 } := ⟨r.t, r.d, r.h.grow (fun _ _ => rfl), r.l.trans ⟨Nat.le_refl _, fun _ _ => rfl, FLe.refl _, fun _ _ hb => .inl hb, ⟨rfl, rfl, rfl, Nat.le_refl _, fun _ _ _ => rfl⟩, fun i b hi ho k hk => .inl ⟨i, b, hi, ho, hk⟩, fun i b hi ho k hk => .inl ⟨i, b, hi, ho, hk⟩⟩, r.s⟩
  have hS := kept_rep hs hb r1.h (β0 := β) (fun _ _ => rfl) rfl
  have := vcrt_ok (E := E) (ops := ops) (hk := hk) (β0 := β) (K := Q .normal) (Q := Sat E Q .normal) hc.1.1 hb (fun st' β' a' w' r' h' => ⟨st', β', r', h'⟩) c _ _ st β a _ hc.1.2 hc.2 hv r1 (fun _ _ => rfl) rfl (kept_get hs).1 hS
  refine Code.wp_mono (fun e a' w' h' => ?_) (wp_region_held (Q := onlyN (Sat E Q .normal)) hm this)
  cases e with
  | normal => exact h'
  | _ => exact h'.elim
end
end Go.Sx
