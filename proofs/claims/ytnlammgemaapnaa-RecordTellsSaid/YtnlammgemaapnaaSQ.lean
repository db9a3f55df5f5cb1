/- The row: cashboxlaw07.RecordTells. -/
import Derived.Test.YtnlammgemaapnaaRY
import Derived.Test.YtnlammgemaapnaaSP
set_option linter.unusedSimpArgs false
set_option linter.unusedVariables false
set_option maxRecDepth 100000
namespace Go.Proofs.Ytnlammgemaapnaa
open Go Go.Sx Go.ChangeShapes Go.WideShapes Go.ChangeAt Go.RowKit
theorem rep2w (W : World) (p q : Option (Nat × Nat)) (r o : Rec) (h : LiesW W p r) (k : LiesW W q o) : RepH (val2 p q) [.row 9 r.n fun j => wrC (r.w j), .row 9 o.n fun j => wrC (o.w j)] W := by
  refine ⟨fun i b hi => ?_, fun i j b c hi hj hij hbo => ?_, (fun k b hb => by cases hb), fun i b hi hbo => ?_⟩
  · match i, hi with
    | 0, hi => injection hi with hi; subst hi; exact rep_w _ _ _ _ _ rfl r h
    | 1, hi => injection hi with hi; subst hi; exact rep_w _ _ _ _ _ rfl o k
    | i + 2, hi => simp at hi
  · match i, hi with
    | 0, hi => injection hi with hi; subst hi; cases hbo
    | 1, hi => injection hi with hi; subst hi; cases hbo
    | i + 2, hi => simp at hi
  · match i, hi with
    | 0, hi => injection hi with hi; subst hi; cases hbo
    | 1, hi => injection hi with hi; subst hi; cases hbo
    | i + 2, hi => simp at hi
theorem recordTells_lifted (os : Os) (started : os.Started) (H : Type) (enc : TypeId × Value → H) :
    ReturnsInHanded {} Try.checked os 7 .any (Rows.recordTellsSpec.pre6 enc Try.prog Try.f7 Rows.recordTellsRow.domain false) (Rows.recordTellsSpec.post enc Try.prog Try.f7 false true false false) := by
  refine returnsInHanded_of_change (C := Try.checked) Try.own started (by kernel_rfl) Try.func7
    (ChangeSpec.witness6 (enc := enc) (C := Try.checked) false ⟨#[], #[.agg #[.int .i8 0, .int .i64 0, .int .i64 0, .int .i64 0, .bool false, .slice none 0 0, .int .i64 0, .int .i64 0, .int .i64 0, .int .i64 0, .int .i64 0, .int .i64 0], .agg #[.int .i8 0, .int .i64 0, .int .i64 0, .int .i64 0, .bool false, .slice none 0 0, .int .i64 0, .int .i64 0, .int .i64 0, .int .i64 0, .int .i64 0, .int .i64 0]], []⟩ 8 (by kernel_rfl) (by kernel_rfl) (by kernel_rfl) (by kernel_rfl)) ?_
  intro W base args ds gs before hval0 hW hcnd _
  have hval : ∀ (j : Nat) t v, Try.f7.params[j]? = some t → args[j]? = some v → Value.okWide Try.prog W .any base t v := hval0
  have hW' := hW
  obtain ⟨p, q, hA0, hV, rfl, hfz, hnd⟩ := hW
  have hA : DataW.TrodAll enc Try.prog W 0 (fun _ => true) true Try.f7.params.toList args.toList ds p := hA0
  rw [Try.params7] at hA hval
  obtain ⟨v0, v1, d0, d1, p0, p1, rfl, rfl, rfl, h0, h1⟩ := trodAll_two hA
  obtain ⟨rfl, rfl⟩ := trodVars_none hV
  obtain ⟨r, cw, pw, e0, hk, hw, hlw⟩ := open_rec (hval 0 31 v0 rfl rfl) h0
  obtain ⟨o, co, po, e1, ho, hwo, hlo⟩ := open_rec (hval 1 31 v1 rfl rfl) h1
  have hcall := (tells_ok r cw o co hk hw).2 (val2 pw po) W (rep2w W pw po r o hlw hlo) ⟨by simp [recC, bd, bdL], by simp [recC, okV, okL]⟩
  have hargs : (denL (val2 pw po) [.agg (recC r (.slice 0 r.n cw)), .agg (recC o (.slice 1 o.n co))]).toArray = #[v0, v1] := by
    rw [e0 (val2 pw po) 0 rfl, e1 (val2 pw po) 1 rfl]; rfl
  rw [hargs] at hcall
  refine hcall.mono fun e W' ⟨v, β', h', he, R', L', _, _, hK⟩ => ?_
  obtain ⟨rfl, rfl⟩ := hK
  subst he
  have hB := below_of_link (by intro b hb; simp at hb; rcases hb with rfl | rfl <;> rfl) L'
  have hlt : ∀ x ∈ p0 ++ p1, x.block < W.heap.size := fun x hx => hW'.lt x (by simpa using hx)
  have sh : ∀ {t : TypeId} {v : Value} {d : DataW H} {ps : List MemPlace}, Try.prog.readableRec t = true → t < Try.prog.types.size → DataW.Trod enc Try.prog W 0 (fun _ => true) true t v d ps → (∀ x ∈ ps, x ∈ p0 ++ p1) → DataW.Trod enc Try.prog W' 0 (fun b => decide (b < W.heap.size)) true t v d ps :=
    fun hr hs h hin => Below.trod Try.laidOut hr hs h hB fun x hx => hlt x (hin x hx)
  have s0 := sh (by kernel_rfl) (of_decide_eq_true (by kernel_rfl)) h0 (fun x hx => by simp [hx])
  have s1 := sh (by kernel_rfl) (of_decide_eq_true (by kernel_rfl)) h1 (fun x hx => by simp [hx])
  refine ⟨_, rfl, _, _, _, [], p0 ++ p1, [], hW', ?_, ?_, ?_, hB.frame _, fun h => by cases h⟩
  · exact trodAll_mk1 (shut_bool Try.underlying4 true)
  · exact trodAll_mk2 s0 s1
  · rfl
theorem recordTells_holds : Rows.RecordTellsSaid :=
  OpenClaim.holds_of_wide 7 Try.f7 rfl rfl rfl rfl rfl rfl rfl ⟨rfl, rfl, rfl, rfl, rfl⟩ rfl rfl rfl rfl rfl (by kernel_rfl) Try.func7 (by kernel_rfl)
    (of_decide_eq_true (by kernel_rfl)) (by unfold Func.isWrapper; first | (rw [if_pos (by decide +kernel)]; kernel_rfl) | (rw [if_neg (by decide +kernel)]; exact ⟨rfl, rfl⟩))
    (fun os started H enc _ => recordTells_lifted os started H enc)
#print axioms recordTells_holds
end Go.Proofs.Ytnlammgemaapnaa
