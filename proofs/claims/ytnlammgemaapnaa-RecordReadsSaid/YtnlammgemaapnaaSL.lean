/- The row: cashboxlaw07.RecordReads. -/
import Derived.Test.YtnlammgemaapnaaRY
import Derived.Test.YtnlammgemaapnaaSK
set_option linter.unusedSimpArgs false
set_option linter.unusedVariables false
set_option maxRecDepth 100000
namespace Go.Proofs.Ytnlammgemaapnaa
open Go Go.Sx Go.ChangeShapes Go.WideShapes Go.ChangeAt Go.RowKit
def val1 (p : Option (Nat × Nat)) : Val := ⟨fun i => match i with | 0 => p | _ => none, fun _ => none⟩
theorem rep1 (W : World) (q : Option (Nat × Nat)) (B : List Int) (k : LiesB W q B) : RepH (val1 q) [rw B] W := by
  refine ⟨fun i b hi => ?_, fun i j b c hi hj hij hbo => ?_, (fun k b hb => by cases hb), fun i b hi hbo => ?_⟩
  · match i, hi with
    | 0, hi => injection hi with hi; subst hi; exact rep_b _ _ _ _ _ rfl B k
    | i + 1, hi => simp at hi
  · match i, hi with
    | 0, hi => injection hi with hi; subst hi; cases hbo
    | i + 1, hi => simp at hi
  · match i, hi with
    | 0, hi => injection hi with hi; subst hi; cases hbo
    | i + 1, hi => simp at hi
theorem recordReads_lifted (os : Os) (started : os.Started) (H : Type) (enc : TypeId × Value → H) :
    ReturnsInHanded {} Try.checked os 3 .any (Rows.recordReadsSpec.pre6 enc Try.prog Try.f3 Rows.recordReadsRow.domain false) (Rows.recordReadsSpec.post enc Try.prog Try.f3 false true false false) := by
  refine returnsInHanded_of_change (C := Try.checked) Try.own started (by kernel_rfl) Try.func3
    (ChangeSpec.witness6 (enc := enc) (C := Try.checked) false ⟨#[], #[.slice none 0 0], []⟩ 8 (by kernel_rfl) (by kernel_rfl) (by kernel_rfl) (by kernel_rfl)) ?_
  intro W base args ds gs before hval0 hW hcnd _
  have hval : ∀ (j : Nat) t v, Try.f3.params[j]? = some t → args[j]? = some v → Value.okWide Try.prog W .any base t v := hval0
  have hW' := hW
  obtain ⟨p, q, hA0, hV, rfl, hfz, hnd⟩ := hW
  have hA : DataW.TrodAll enc Try.prog W 0 (fun _ => true) true Try.f3.params.toList args.toList ds p := hA0
  rw [Try.params3] at hA hval
  obtain ⟨v0, d0, rfl, rfl, h0⟩ := trodAll_one hA
  obtain ⟨rfl, rfl⟩ := trodVars_none hV
  obtain ⟨B, cb, pb, e1, hBy, hlb⟩ := open_bytes (hval 0 22 v0 rfl rfl) h0
  have hcb : B.length ≤ cb := by
    have h := hval 0 22 v0 rfl rfl
    rw [e1 (val1 pb) 0 rfl] at h
    exact cap_ok h
  have hcall := (readsLaw_ok B cb hBy hcb).2 (val1 pb) W (rep1 W pb B hlb) ⟨by simp [bd, bdL], by simp [okV, okL]⟩
  have hargs : (denL (val1 pb) [.slice 0 B.length cb]).toArray = #[v0] := by
    rw [e1 (val1 pb) 0 rfl]; rfl
  rw [hargs] at hcall
  refine hcall.mono fun e W' ⟨v, β', h', he, R', L', _, _, hK⟩ => ?_
  obtain ⟨rfl, rfl⟩ := hK
  subst he
  have hB := below_of_link (by intro b hb; simp at hb; rcases hb with rfl; rfl) L'
  have hlt : ∀ x ∈ p, x.block < W.heap.size := fun x hx => hW'.lt x (by simpa using hx)
  have sh : ∀ {t : TypeId} {v : Value} {d : DataW H} {ps : List MemPlace}, Try.prog.readableRec t = true → t < Try.prog.types.size → DataW.Trod enc Try.prog W 0 (fun _ => true) true t v d ps → (∀ x ∈ ps, x ∈ p) → DataW.Trod enc Try.prog W' 0 (fun b => decide (b < W.heap.size)) true t v d ps :=
    fun hr hs h hin => Below.trod Try.laidOut hr hs h hB fun x hx => hlt x (hin x hx)
  have s0 := sh (by kernel_rfl) (of_decide_eq_true (by kernel_rfl)) h0 (fun x hx => by simp [hx])
  refine ⟨_, rfl, _, _, _, [], p, [], hW', ?_, ?_, ?_, hB.frame _, fun h => by cases h⟩
  · exact trodAll_mk1 (shut_bool Try.underlying4 true)
  · exact trodAll_mk1 s0
  · rfl
theorem recordReads_holds : Rows.RecordReadsSaid :=
  OpenClaim.holds_of_wide 3 Try.f3 rfl rfl rfl rfl rfl rfl rfl ⟨rfl, rfl, rfl, rfl, rfl⟩ rfl rfl rfl rfl rfl (by kernel_rfl) Try.func3 (by kernel_rfl)
    (of_decide_eq_true (by kernel_rfl)) (by unfold Func.isWrapper; first | (rw [if_pos (by decide +kernel)]; kernel_rfl) | (rw [if_neg (by decide +kernel)]; exact ⟨rfl, rfl⟩))
    (fun os started H enc _ => recordReads_lifted os started H enc)
#print axioms recordReads_holds
end Go.Proofs.Ytnlammgemaapnaa
