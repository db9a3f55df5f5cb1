/- The row: cashboxlaw07.RecordBack. -/
import Derived.Test.YtnlammgemaapnaaRY
import Derived.Test.YtnlammgemaapnaaSA
set_option linter.unusedSimpArgs false
set_option linter.unusedVariables false
set_option maxRecDepth 100000
namespace Go.Proofs.Ytnlammgemaapnaa
open Go Go.Sx Go.ChangeShapes Go.WideShapes Go.ChangeAt Go.RowKit
theorem cap_ok {W : World} {r0 : Reach} {b0 n c : Nat} {a : Option Addr} (hval : Value.okWide Try.prog W r0 b0 22 (.slice a n c)) : n ≤ c := by
  unfold Value.okWide at hval
  rw [uBs] at hval
  simp only [] at hval
  unfold Cell.okWide at hval
  rw [uBs] at hval
  simp only [Cell.ok, uBs] at hval
  cases a with
  | none =>
    cases n with
    | zero => exact Nat.zero_le _
    | succ n => simp at hval
  | some a => exact hval.1
theorem recordBack_lifted (os : Os) (started : os.Started) (H : Type) (enc : TypeId × Value → H) :
    ReturnsInHanded {} Try.checked os 5 .any (Rows.recordBackSpec.pre6 enc Try.prog Try.f5 Rows.recordBackRow.domain false) (Rows.recordBackSpec.post enc Try.prog Try.f5 false true false false) := by
  refine returnsInHanded_of_change (C := Try.checked) Try.own started (by kernel_rfl) Try.func5
    (ChangeSpec.witness6 (enc := enc) (C := Try.checked) false ⟨#[], #[.agg #[.int .i8 0, .int .i64 0, .int .i64 0, .int .i64 0, .bool false, .slice none 0 0, .int .i64 0, .int .i64 0, .int .i64 0, .int .i64 0, .int .i64 0, .int .i64 0], .slice none 0 0], []⟩ 8 (by kernel_rfl) (by kernel_rfl) (by kernel_rfl) (by kernel_rfl)) ?_
  intro W base args ds gs before hval0 hW hcnd _
  have hval : ∀ (j : Nat) t v, Try.f5.params[j]? = some t → args[j]? = some v → Value.okWide Try.prog W .any base t v := hval0
  have hW' := hW
  obtain ⟨p, q, hA0, hV, rfl, hfz, hnd⟩ := hW
  have hA : DataW.TrodAll enc Try.prog W 0 (fun _ => true) true Try.f5.params.toList args.toList ds p := hA0
  rw [Try.params5] at hA hval
  obtain ⟨v0, v1, d0, d1, p0, p1, rfl, rfl, rfl, h0, h1⟩ := trodAll_two hA
  obtain ⟨rfl, rfl⟩ := trodVars_none hV
  obtain ⟨r, cw, pw, e0, hk, hw, hlw⟩ := open_rec (hval 0 31 v0 rfl rfl) h0
  obtain ⟨B, cb, pb, e1, hBy, hlb⟩ := open_bytes (hval 1 22 v1 rfl rfl) h1
  have hcb : B.length ≤ cb := by
    have h := hval 1 22 v1 rfl rfl
    rw [e1 (val2 pw pb) 1 rfl] at h
    exact cap_ok h
  have hcall := (back_ok r cw B cb hk hw hBy hcb).2 (val2 pw pb) W (rep2 W pw pb r B hlw hlb) ⟨by simp [recC, bd, bdL], by simp [recC, okV, okL]⟩
  have hargs : (denL (val2 pw pb) [.agg (recC r (.slice 0 r.n cw)), .slice 1 B.length cb]).toArray = #[v0, v1] := by
    rw [e0 (val2 pw pb) 0 rfl, e1 (val2 pw pb) 1 rfl]; rfl
  rw [hargs] at hcall
  refine hcall.mono fun e W' ⟨v, β', h', he, R', L', _, _, hK⟩ => ?_
  obtain ⟨rfl, rfl⟩ := hK
  subst he
  have hB := below_of_link (by intro b hb; simp at hb; rcases hb with rfl | rfl <;> rfl) L'
  have hlt : ∀ x ∈ p0 ++ p1, x.block < W.heap.size := fun x hx => hW'.lt x (by simpa using hx)
  have sh : ∀ {t : TypeId} {v : Value} {d : DataW H} {ps : List MemPlace}, Try.prog.readableRec t = true → t < Try.prog.types.size → DataW.Trod enc Try.prog W 0 (fun _ => true) true t v d ps → (∀ x ∈ ps, x ∈ p0 ++ p1) → DataW.Trod enc Try.prog W' 0 (fun b => decide (b < W.heap.size)) true t v d ps :=
    fun hr hs h hin => Below.trod Try.laidOut hr hs h hB fun x hx => hlt x (hin x hx)
  have s0 := sh (by kernel_rfl) (of_decide_eq_true (by kernel_rfl)) h0 (fun x hx => by simp [hx])
  have s1 := sh (by kernel_rfl) (of_decide_eq_true (by kernel_rfl)) h1 (fun x hx => by simp [hx])
  refine ⟨_, rfl, _, _, _, [], p0 ++ p1, [], hW', ?_, ?_, ?_, hB.frame _, fun h => by cases h⟩
  · exact trodAll_mk1 (shut_bool Try.underlying4 true)
  · exact trodAll_mk2 s0 s1
  · rfl
theorem recordBack_holds : Rows.RecordBackSaid :=
  OpenClaim.holds_of_wide 5 Try.f5 rfl rfl rfl rfl rfl rfl rfl ⟨rfl, rfl, rfl, rfl, rfl⟩ rfl rfl rfl rfl rfl (by kernel_rfl) Try.func5 (by kernel_rfl)
    (of_decide_eq_true (by kernel_rfl)) (by unfold Func.isWrapper; first | (rw [if_pos (by decide +kernel)]; kernel_rfl) | (rw [if_neg (by decide +kernel)]; exact ⟨rfl, rfl⟩))
    (fun os started H enc _ => recordBack_lifted os started H enc)
#print axioms recordBack_holds
end Go.Proofs.Ytnlammgemaapnaa
