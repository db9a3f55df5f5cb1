/- Names: equal or not; as keys of maps. -/
import Derived.Test.YtjknlacpniehfaaWC
import Derived.Laws.StructEq
set_option linter.unusedSimpArgs false
set_option linter.unusedVariables false
set_option maxRecDepth 100000
namespace Go.Proofs.Ytjknlacpniehfaa
open Go Go.Sx
theorem u23 : Try.prog.underlying 23 = some (.struct #[⟨ "Stamp", 3, 0, false, "", "", 0⟩, ⟨ "Inc", 3, 1, false, "", "", 8⟩, ⟨ "Try", 3, 2, false, "", "", 16⟩]) := by kernel_rfl
theorem f23 : Try.prog.fieldsOf 23 = #[⟨ "Stamp", 3, 0, false, "", "", 0⟩, ⟨ "Inc", 3, 1, false, "", "", 8⟩, ⟨ "Try", 3, 2, false, "", "", 16⟩] := by kernel_rfl
theorem u3 : Try.prog.underlying 3 = some (.int .i64) := by kernel_rfl
theorem s23 : Try.prog.stoodInHeld 23 = false := by kernel_rfl
theorem part3 (xs : Array Value) (i : Nat) (v : Value) (w : World) (h : xs[i]? = some v) : (part 3 xs i).run Try.prog w = .ok v w := by
  simp [part, isAgg, run_underlying u3, Result.andThen, h]
theorem run_eq23 (d : Nat) (x y : Nm) (β : Val) (w : World) : (Op.equalIn (d + 2) 23 (den β (nmV x)) (den β (nmV y))).run Try.prog w = .ok (eqL (nmC x) (nmC y)) w := by
  simp only [nmV, nmC, den, denL]
  rw [run_equalIn_agg w (d + 1) 23 _ _ (by rw [f23]; exact u23) s23, f23]
  have h0 : ∀ a b c : Value, (part 3 #[a, b, c] 0).run Try.prog w = .ok a w := fun a b c => part3 _ 0 a w rfl
  have h1 : ∀ a b c : Value, (part 3 #[a, b, c] 1).run Try.prog w = .ok b w := fun a b c => part3 _ 1 b w rfl
  have h2 : ∀ a b c : Value, (part 3 #[a, b, c] 2).run Try.prog w = .ok c w := fun a b c => part3 _ 2 c w rfl
  have he : ∀ a b : Int, (Op.equalIn (d + 1) 3 (.int .i64 a) (.int .i64 b)).run Try.prog w = .ok (a == b) w := fun a b => run_equalIn_int w d 3 .i64 .i64 a b u3
  simp only [Op.eqFields, Sem.run_bind, ne_eq, reduceCtorEq, not_false_eq_true, if_true, String.reduceEq, h0, h1, h2, Result.andThen_ok, he, eqL, eqV]
  cases x.a == y.a
  · simp
  · simp only [Bool.not_true, Bool.false_eq_true, if_false, Bool.true_and, Sem.run_bind, h1, Result.andThen_ok, he]
    cases x.b == y.b
    · simp
    · simp only [Bool.not_true, Bool.false_eq_true, if_false, Bool.true_and, Sem.run_bind, h2, Result.andThen_ok, he]
      cases x.c == y.c <;> simp
theorem eqOK23 (x y : Nm) : EqOK Try.prog 23 (nmC x) (nmC y) := ⟨by kernel_rfl, fun β w => run_eq23 9998 x y β w⟩
theorem eqL_nm (x y : Nm) : eqL (nmC x) (nmC y) = decide (x = y) := by
  cases x; cases y
  simp [nmC, eqL, eqV, Bool.decide_and]
  rfl
def entN (e : Nm × VV × Nat) : VV × VV × Nat := (nmV e.1, e.2.1, e.2.2)
def nfind (x : Nm) : List (Nm × VV × Nat) → Nat → Option (Nat × VV)
  | [], _ => none
  | e :: es, i => if x = e.1 then some (i, e.2.1) else nfind x es (i + 1)
theorem kfind_nm (x : Nm) : ∀ (es : List (Nm × VV × Nat)) (i : Nat), kfind (nmV x) (es.map entN) i = nfind x es i
  | [], i => rfl
  | e :: es, i => by
    have : keyEq (nmV x) (nmV e.1) = decide (x = e.1) := eqL_nm x e.1
    simp only [List.map_cons, kfind, nfind, entN, this, decide_eq_true_eq]
    rw [← kfind_nm x es (i + 1)]
theorem nfind_at (x : Nm) : ∀ (es : List (Nm × VV × Nat)) (i j : Nat) (v : VV), nfind x es i = some (j, v) → ∃ q e, j = i + q ∧ es[q]? = some e ∧ e.1 = x ∧ e.2.1 = v
  | [], i, j, v, h => by cases h
  | e :: es, i, j, v, h => by
    rw [nfind] at h
    split at h
    · rename_i he
      injection h with h; injection h with h1 h2
      exact ⟨0, e, by omega, rfl, he.symm, h2⟩
    · obtain ⟨q, e', h1, h2, h3⟩ := nfind_at x es (i + 1) j v h
      exact ⟨q + 1, e', by omega, by simpa using h2, h3⟩
theorem asking (x : Nm) (β : Val) (w : World) : ∀ (es : List (Nm × VV × Nat)) (i : Nat),
    (Instr.findAsking 23 (den β (nmV x)) (mapE β (es.map entN)).toList i).run Try.prog w = .ok ((nfind x es i).map fun p => (p.1, den β p.2)) w
  | [], i => by simp [mapE, Instr.findAsking, nfind]
  | e :: es, i => by
    have ih := asking x β w es (i + 1)
    simp only [mapE, List.map_cons, entN, List.map_map] at ih ⊢
    have he : (Op.equal 23 (den β (nmV x)) (den β (nmV e.1))).run Try.prog w = .ok (decide (x = e.1)) w := by
      rw [← eqL_nm]; exact run_eq23 9998 x e.1 β w
    simp only [Instr.findAsking, Sem.run_bind, he, Result.andThen_ok, nfind]
    by_cases h : x = e.1
    · simp [h]
    · simp only [h, decide_false, Bool.false_eq_true, if_false]; exact ih
theorem mapOK23 (x : Nm) (es : List (Nm × VV × Nat)) : MapOK Try.prog 23 (nmV x) (es.map entN) := by
  refine ⟨fun b β w => ?_, fun β w => ?_, fun β i v h => ?_⟩
  · have h0 : ∀ a b c : Value, (part 3 #[a, b, c] 0).run Try.prog w = .ok a w := fun a b c => part3 _ 0 a w rfl
    have h1 : ∀ a b c : Value, (part 3 #[a, b, c] 1).run Try.prog w = .ok b w := fun a b c => part3 _ 1 b w rfl
    have h2 : ∀ a b c : Value, (part 3 #[a, b, c] 2).run Try.prog w = .ok c w := fun a b c => part3 _ 2 c w rfl
    have hc : ∀ (n : Nat) (a : Int), (Instr.checkKey b (n + 1) 3 (.int .i64 a)).run Try.prog w = .ok () w := fun n a => Go.MapKept.run_checkKey (k := .int .i64 a) u3 (by simp [Go.MapKept.IsKey]) b n
    simp only [nmV, nmC, den, denL]
    rw [show (10000 : Nat) = 9998 + 1 + 1 from rfl]
    unfold Instr.checkKey
    simp [run_underlying u23, Result.andThen, h0, h1, h2, hc]
  · rw [kfind_nm]
    have hn : ∀ l : List MapEntry, (Instr.findKey 23 (den β (nmV x)) l).run Try.prog w = (Instr.findAsking 23 (den β (nmV x)) l 0).run Try.prog w := fun l => by
      cases l with
      | nil => simp [Instr.findKey, run_underlying u23, Result.andThen, Instr.findNow, Instr.findAsking]
      | cons e l => simp [Instr.findKey, run_underlying u23, Result.andThen, Instr.findNow, Instr.sameNow]
    rw [hn]
    exact asking x β w es 0
  · rw [kfind_nm] at h
    obtain ⟨q, e, h1, h2, h3, h4⟩ := nfind_at x es 0 i v h
    refine ⟨entN e, by rw [List.getElem?_map, show i = q by omega, h2]; rfl, h4, by rw [← h3]; rfl, ?_⟩
    simp [nmV, nmC, den, denL, Instr.sameBits]
end Go.Proofs.Ytjknlacpniehfaa
