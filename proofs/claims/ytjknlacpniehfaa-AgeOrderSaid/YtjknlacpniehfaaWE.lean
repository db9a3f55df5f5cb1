/- age.Sort. -/
import Derived.Test.YtjknlacpniehfaaWD
set_option linter.unusedSimpArgs false
set_option linter.unusedVariables false
set_option maxRecDepth 100000
namespace Go.Proofs.Ytjknlacpniehfaa
open Go Go.Sx
/-- The first i names, each once. -/
def dd (S : List Nm) : Nat → List Nm
  | 0 => []
  | i + 1 => if lk S i ∈ dd S i then dd S i else dd S i ++ [lk S i]
def mk (o : List Nm) (c : Nat → Int) : List (Nm × VV × Nat) := (List.range o.length).map fun j => (lk o j, VV.int .i64 (c j), j)
theorem mk_length (o : List Nm) (c : Nat → Int) : (mk o c).length = o.length := by simp [mk]
theorem mk_get (o : List Nm) (c : Nat → Int) (j : Nat) (hj : j < o.length) : (mk o c)[j]? = some (lk o j, VV.int .i64 (c j), j) := by
  simp [mk, hj]
theorem nfind_none (x : Nm) : ∀ (es : List (Nm × VV × Nat)) (i : Nat), (∀ e ∈ es, x ≠ e.1) → nfind x es i = none
  | [], _, _ => rfl
  | e :: es, i, h => by
    rw [nfind, if_neg (h e (.head _))]
    exact nfind_none x es (i + 1) fun e he => h e (.tail _ he)
theorem nfind_some (x : Nm) : ∀ (es : List (Nm × VV × Nat)) (i q : Nat) (e : Nm × VV × Nat), es[q]? = some e → e.1 = x → (∀ p, p < q → ∀ e', es[p]? = some e' → x ≠ e'.1) → nfind x es i = some (i + q, e.2.1)
  | [], i, q, e, h, _, _ => by simp at h
  | a :: es, i, q, e, h, hx, hlt => by
    cases q with
    | zero =>
      simp only [List.getElem?_cons_zero, Option.some.injEq] at h
      subst h
      rw [nfind, if_pos hx.symm]; rfl
    | succ q =>
      rw [nfind, if_neg (hlt 0 (by omega) a rfl), nfind_some x es (i + 1) q e (by simpa using h) hx (fun p hp e' he' => hlt (p + 1) (by omega) e' (by simpa using he'))]
      congr 2; omega
theorem mem_lk (o : List Nm) (x : Nm) (h : x ∈ o) : ∃ j, j < o.length ∧ lk o j = x := by
  obtain ⟨j, hj, he⟩ := List.mem_iff_getElem.1 h
  exact ⟨j, hj, by simp [lk, hj, he]⟩
theorem lk_mem (o : List Nm) (j : Nat) (h : j < o.length) : lk o j ∈ o := by
  simp [lk, h]
theorem first_at (o : List Nm) (x : Nm) (h : x ∈ o) : ∃ j, j < o.length ∧ lk o j = x ∧ ∀ p, p < j → lk o p ≠ x := by
  obtain ⟨j, hj, he⟩ := mem_lk o x h
  induction j using Nat.strongRecOn with
  | ind j ih =>
    by_cases hp : ∃ p, p < j ∧ lk o p = x
    · obtain ⟨p, hp1, hp2⟩ := hp
      exact ih p hp1 (by omega) hp2
    · exact ⟨j, hj, he, fun p h1 h2 => hp ⟨p, h1, h2⟩⟩
theorem find_new (o : List Nm) (c : Nat → Int) (x : Nm) (h : x ∉ o) : kfind (nmV x) ((mk o c).map entN) 0 = none := by
  rw [kfind_nm]
  apply nfind_none
  intro e he
  obtain ⟨j, hj, rfl⟩ := List.mem_map.1 he
  intro hx
  exact h (hx ▸ lk_mem o j (by simpa using hj))
theorem find_old (o : List Nm) (c : Nat → Int) (x : Nm) (h : x ∈ o) : ∃ j, j < o.length ∧ kfind (nmV x) ((mk o c).map entN) 0 = some (j, .int .i64 (c j)) := by
  obtain ⟨j, hj, he, hp⟩ := first_at o x h
  refine ⟨j, hj, ?_⟩
  rw [kfind_nm, nfind_some x (mk o c) 0 j _ (mk_get o c j hj) he]
  · simp
  · intro p hp' e' he'
    rw [mk_get o c p (by omega)] at he'
    injection he' with he'
    subst he'
    exact fun hx => hp p hp' hx.symm
theorem bfind_range : ∀ (es : List (VV × VV × Nat)) (s q : Nat) (e : VV × VV × Nat), es[q]? = some e → (∀ p e', es[p]? = some e' → e'.2.2 = s + p) → bfind ((s + q : Nat) : Int) es = some q
  | [], s, q, e, h, _ => by simp at h
  | a :: es, s, q, e, h, hb => by
    have h0 := hb 0 a rfl
    cases q with
    | zero => simp [bfind, h0]
    | succ q =>
      have := bfind_range es (s + 1) q e (by simpa using h) (fun p e' he' => by rw [hb (p + 1) e' (by simpa using he')]; omega)
      rw [show s + 1 + q = s + (q + 1) by omega] at this
      rw [bfind, if_neg (by simp [h0]; omega), this]; rfl
theorem mk_born (o : List Nm) (c : Nat → Int) (p : Nat) (e' : VV × VV × Nat) (h : ((mk o c).map entN)[p]? = some e') : e'.2.2 = 0 + p := by
  rw [List.getElem?_map] at h
  by_cases hp : p < o.length
  · rw [mk_get o c p hp] at h
    injection h with h; subst h; simp [entN]
  · rw [List.getElem?_eq_none (by rw [mk_length]; omega)] at h; cases h
theorem bfind_mk (o : List Nm) (c : Nat → Int) (j : Nat) (hj : j < o.length) : bfind (j : Int) ((mk o c).map entN) = some j := by
  have := bfind_range ((mk o c).map entN) 0 j (entN (lk o j, VV.int .i64 (c j), j)) (by rw [List.getElem?_map, mk_get o c j hj]; rfl) (mk_born o c)
  simpa using this
theorem born_mk (o : List Nm) (c : Nat → Int) (j : Nat) (hj : j < o.length) : ((((mk o c).map entN)[j]?).map fun e => ((e.2.2 : Nat) : Int)).getD 0 = (j : Int) := by
  rw [List.getElem?_map, mk_get o c j hj]; rfl
def upC (c : Nat → Int) (j : Nat) (v : Int) : Nat → Int := fun i => if i = j then v else c i
theorem mk_put (o : List Nm) (c : Nat → Int) (j : Nat) (v : Int) : eput ((mk o c).map entN) j (.int .i64 v) = (mk o (upC c j v)).map entN := by
  apply List.ext_getElem?
  intro i
  rw [eput, List.getElem?_modify, List.getElem?_map, List.getElem?_map]
  by_cases hi : i < o.length
  · rw [mk_get o c i hi, mk_get o _ i hi]
    by_cases hj : j = i
    · subst hj; simp [entN, upC]
    · simp [hj, entN, upC, Ne.symm hj]
  · rw [List.getElem?_eq_none (by rw [mk_length]; omega), List.getElem?_eq_none (by rw [mk_length]; omega)]
    simp
theorem mk_push (o : List Nm) (c : Nat → Int) (x : Nm) : (mk o c).map entN ++ [(nmV x, .int .i64 0, o.length)] = (mk (o ++ [x]) (upC c o.length 0)).map entN := by
  simp only [mk, List.length_append, List.length_singleton, List.range_succ, List.map_append, List.map_map, List.map_cons, List.map_nil]
  congr 1
  · apply List.map_congr_left
    intro j hj
    have hj : j < o.length := by simpa using hj
    simp [entN, lk, hj, upC, Nat.ne_of_lt hj, List.getElem?_append_left hj]
  · simp [entN, lk, upC]
theorem bd_mk (n : Nat) (o : List Nm) (c : Nat → Int) : bdE n ((mk o c).map entN) := fun e he => by
  obtain ⟨a, ha, rfl⟩ := List.mem_map.1 he
  obtain ⟨j, _, rfl⟩ := List.mem_map.1 ha
  exact ⟨⟨trivial, trivial, trivial, trivial⟩, trivial⟩
theorem dd_le (S : List Nm) : ∀ i, (dd S i).length ≤ i
  | 0 => Nat.le_refl _
  | i + 1 => by
    have := dd_le S i
    unfold dd
    split
    · omega
    · simp; omega
theorem upC_same (c : Nat → Int) (j : Nat) (v : Int) : upC c j v j = v := by simp [upC]
theorem find_push (o : List Nm) (x : Nm) (h : x ∉ o) (c : Nat → Int) : kfind (nmV x) ((mk (o ++ [x]) c).map entN) 0 = some (o.length, .int .i64 (c o.length)) := by
  rw [kfind_nm, nfind_some x (mk (o ++ [x]) c) 0 o.length _ (mk_get _ c o.length (by simp)) (by simp [lk])]
  · simp
  · intro p hp e' he'
    rw [mk_get _ c p (by simp; omega)] at he'
    injection he' with he'
    subst he'
    intro hx
    apply h
    have : lk (o ++ [x]) p = lk o p := by simp [lk, List.getElem?_append_left hp]
    rw [hx]; show lk (o ++ [x]) p ∈ o
    rw [this]; exact lk_mem o p hp
theorem find_old' (o : List Nm) (x : Nm) (h : x ∈ o) : ∃ j, j < o.length ∧ ∀ c, kfind (nmV x) ((mk o c).map entN) 0 = some (j, .int .i64 (c j)) := by
  obtain ⟨j, hj, he, hp⟩ := first_at o x h
  refine ⟨j, hj, fun c => ?_⟩
  rw [kfind_nm, nfind_some x (mk o c) 0 j _ (mk_get o c j hj) he]
  · simp
  · intro p hp' e' he'
    rw [mk_get o c p (by omega)] at he'
    injection he' with he'
    subst he'
    exact fun hx => hp p hp' hx.symm
theorem closeE (r : List (Option Nat)) (o : List Nm) (c : Nat → Int) : ELe r ((mk o c).map entN) ((mk o c).map entN) := ELe.closed r (bd_mk 0 o c)
theorem app_one (o : List Nm) (x : Nm) (j : Nat) (hj : j < o.length + 1) : elApp o.length (fun j => nmC (lk o j)) (chunk 3 (nmC x)) j = nmC (lk (o ++ [x]) j) := by
  unfold elApp
  by_cases h : j < o.length
  · rw [if_pos h]; simp [lk, List.getElem?_append_left h]
  · have e : j = o.length := by omega
    subst e
    rw [if_neg h, Nat.sub_self]
    simp [lk]; rfl
theorem both (p : Prop) (h : p) : p ∧ p := ⟨h, h⟩
theorem sort_ok (n c : Nat) (f : Nat → Nm) (hn : n ≤ 1000) : VCall Try.prog 10 [.slice 0 n c] [.row 3 n fun j => nmC (f j)] fun v h =>
    ∃ cs cn co, v = .slice 3 (dd (sortAt f n) n).length co ∧ h = [.row 3 n fun j => nmC (f j), .map true ((mk (dd (sortAt f n) n) cn).map entN) (dd (sortAt f n) n).length, .own 23 3 n cs (fun j => nmC (lk (sortAt f n) j)), .own 23 3 (dd (sortAt f n) n).length co fun j => nmC (lk (dd (sortAt f n) n) j)] := by
  refine VCall.trim 4 (Nat.le_of_ble_eq_true rfl) ?_
  refine wbody Try.func10 rfl (by kernel_rfl) ?_
  rw [Try.ntmps10, Try.results10]
  simp (implicitDefEqProofs := false) only [rX1, bd, bdL, bdB, bdH, bdT, front, VLe, VLeL, BLe, Phan, TLe, HLe, ro, Blk.owned, CLe, rr, given, mrg, exct, shr, ren, renL, renB, Nat.reduceBEq, Nat.reduceBNe, rX0, ofVal, ofVals, cellsV, vStore.isTup, eqL, eqV, Blk.deg, oneV, elApp, Nat.reduceAdd, Nat.reduceSub, Nat.reduceMul, Nat.reduceLT, Nat.reduceLeDiff, Nat.reduceEqDiff, Int.reduceToNat, Int.reduceGT, Int.reduceGE, Int.reduceMul, Int.reduceLT, Int.reduceLE, Int.reduceAdd, Int.reduceSub, Int.reduceNeg, reduceCtorEq, Sf.T3, Sf.T4, Sf.T23, Sf.T24, Sf.T41, Sf.T54, nmC, nmV, Sf.tmap_41, Sf.tzv_3, kval]
  refine vframe (sorted_ok n c f hn) [0] (by rfl) (by simp only [rX2, bd, bdL, bdB, bdH, bdT, front, VLe, VLeL, BLe, Phan, TLe, HLe, ro, Blk.owned, CLe, rr, given, mrg, exct, shr, ren, renL, renB, Nat.reduceAdd, Nat.reduceSub, Nat.reduceLT, Nat.reduceLeDiff, Nat.reduceEqDiff, Nat.reduceBEq, Nat.reduceBNe, reduceCtorEq, nmC, nmV, Sf.tmap_41, Sf.tzv_3, kval]) ?_
  rintro v h ⟨cs, rfl, rfl⟩ _
  simp (implicitDefEqProofs := false) only [rX2, bd, bdL, bdB, bdH, bdT, front, VLe, VLeL, BLe, Phan, TLe, HLe, ro, Blk.owned, CLe, rr, given, mrg, exct, shr, ren, renL, renB, Nat.reduceAdd, Nat.reduceSub, Nat.reduceLT, Nat.reduceLeDiff, Nat.reduceEqDiff, Nat.reduceBEq, Nat.reduceBNe, reduceCtorEq, nmC, nmV, Sf.tmap_41, Sf.tzv_3, kval, rX0, ofVal, ofVals, cellsV, vStore.isTup, eqL, eqV, Blk.deg, oneV, elApp, Nat.reduceAdd, Nat.reduceSub, Nat.reduceMul, Nat.reduceLT, Nat.reduceLeDiff, Nat.reduceEqDiff, Int.reduceToNat, Int.reduceGT, Int.reduceGE, Int.reduceMul, Int.reduceLT, Int.reduceLE, Int.reduceAdd, Int.reduceSub, Int.reduceNeg, reduceCtorEq, Sf.T3, Sf.T4, Sf.T23, Sf.T24, Sf.T41, Sf.T54, nmC, nmV, Sf.tmap_41, Sf.tzv_3, kval]
  generalize hS : sortAt f n = S
  refine wloop (fun s : Nat × (Nat → Int) × Nat => ⟨[none, none, some (.slice 3 (dd S s.1).length s.2.2), some (.map 1), none, none, none, none, some (.slice 2 n cs), some (.int .i64 n), some (.int .i64 s.1), none, none, none, none, none, none, none, none, none, none, none, none, none, none, none, none, none, none, none], [.row 3 n fun j => nmC (f j), .map true ((mk (dd S s.1) s.2.1).map entN) (dd S s.1).length, .own 23 3 n cs (fun j => nmC (lk S j)), .own 23 3 (dd S s.1).length s.2.2 fun j => nmC (lk (dd S s.1) j)]⟩) (fun s => s.1 ≤ n ∧ (dd S s.1).length ≤ s.2.2 ∧ s.2.2 ≤ maxI ∧ ∀ j, j < (dd S s.1).length → 1 ≤ s.2.1 j ∧ s.2.1 j ≤ s.1) (fun s => n - s.1) (0, (fun _ => 0), 0) ⟨Nat.zero_le _, Nat.le_refl _, Nat.zero_le _, fun j hj => by simp [dd] at hj⟩ ?_ ?_
  · refine Le.of [some 0, some 1, some 2, none] (by rfl) (by simp only [dd, rX2, bd, bdL, bdB, bdH, bdT, front, VLe, VLeL, BLe, Phan, TLe, HLe, ro, Blk.owned, CLe, rr, given, mrg, exct, shr, ren, renL, renB, Nat.reduceAdd, Nat.reduceSub, Nat.reduceLT, Nat.reduceLeDiff, Nat.reduceEqDiff, Nat.reduceBEq, Nat.reduceBNe, reduceCtorEq, nmC, nmV, Sf.tmap_41, Sf.tzv_3, kval]) (by simp only [dd, mk, List.range_zero, rX2, bd, bdL, bdB, bdH, bdT, front, VLe, VLeL, BLe, Phan, TLe, HLe, ro, Blk.owned, CLe, rr, given, mrg, exct, shr, ren, renL, renB, Nat.reduceAdd, Nat.reduceSub, Nat.reduceLT, Nat.reduceLeDiff, Nat.reduceEqDiff, Nat.reduceBEq, Nat.reduceBNe, reduceCtorEq, nmC, nmV, Sf.tmap_41, Sf.tzv_3, kval]; exact ELe.closed _ (fun e he => by simp at he)) (by rfl) (by simp only [rX2, bd, bdL, bdB, bdH, bdT, front, VLe, VLeL, BLe, Phan, TLe, HLe, ro, Blk.owned, CLe, rr, given, mrg, exct, shr, ren, renL, renB, Nat.reduceAdd, Nat.reduceSub, Nat.reduceLT, Nat.reduceLeDiff, Nat.reduceEqDiff, Nat.reduceBEq, Nat.reduceBNe, reduceCtorEq, nmC, nmV, Sf.tmap_41, Sf.tzv_3, kval]) ?_
    simp only [rX2, bd, bdL, bdB, bdH, bdT, front, VLe, VLeL, BLe, Phan, TLe, HLe, ro, Blk.owned, CLe, rr, given, mrg, exct, shr, ren, renL, renB, Nat.reduceAdd, Nat.reduceSub, Nat.reduceLT, Nat.reduceLeDiff, Nat.reduceEqDiff, Nat.reduceBEq, Nat.reduceBNe, reduceCtorEq, nmC, nmV, Sf.tmap_41, Sf.tzv_3, kval]
    exact bd_mk _ _ _
  rintro ⟨i, cn, co⟩ ⟨hi, hco, hmax, hcn⟩
  simp only [] at hi hco hmax hcn ⊢
  have hw := wrapS i (by omega)
  simp (implicitDefEqProofs := false) only [rX2, bd, bdL, bdB, bdH, bdT, front, VLe, VLeL, BLe, Phan, TLe, HLe, ro, Blk.owned, CLe, rr, given, mrg, exct, shr, ren, renL, renB, Nat.reduceAdd, Nat.reduceSub, Nat.reduceLT, Nat.reduceLeDiff, Nat.reduceEqDiff, Nat.reduceBEq, Nat.reduceBNe, reduceCtorEq, nmC, nmV, Sf.tmap_41, Sf.tzv_3, kval, rX0, ofVal, ofVals, cellsV, vStore.isTup, eqL, eqV, Blk.deg, oneV, elApp, Nat.reduceAdd, Nat.reduceSub, Nat.reduceMul, Nat.reduceLT, Nat.reduceLeDiff, Nat.reduceEqDiff, Int.reduceToNat, Int.reduceGT, Int.reduceGE, Int.reduceMul, Int.reduceLT, Int.reduceLE, Int.reduceAdd, Int.reduceSub, Int.reduceNeg, reduceCtorEq, Sf.T3, Sf.T4, Sf.T23, Sf.T24, Sf.T41, Sf.T54, nmC, nmV, Sf.tmap_41, Sf.tzv_3, kval]
  refine ⟨fun hlt => ⟨hlt, hlt, hlt, ?_⟩, fun hge => ?_⟩
  · have hol := dd_le S i
    have hm := fun o cc => mapOK23 (lk S i) (mk o cc)
    simp only [nmV, nmC] at hm
    by_cases hx : lk S i ∈ dd S i
    · obtain ⟨q, hq, hf⟩ := find_old' (dd S i) (lk S i) hx
      have hb := fun cc => born_mk (dd S i) cc q hq
      have hbf := fun cc => bfind_mk (dd S i) cc q hq
      have hcq := hcn q hq
      have hwc : IntKind.i64.wrap (cn q + 1) = cn q + 1 := IntWalk.i64_in _ (by omega)
      simp only [nmV, nmC] at hf
      refine wdraw (.take 0 (.take 1 (.two 2 (.take 3 (.one 4 (.take 5 (.one 6 (.done))))) 4 (.take 5 (.one 2 (.take 3 (.one 6 (.done)))))))) [.row 3 n fun j => nmC (f j), .gone, .own 23 3 n cs (fun j => nmC (lk S j)), .own 23 3 (dd S i).length co (fun j => nmC (lk (dd S i) j)), .cells true 23 (nmC (lk S i))] (by kernel_rfl) (by kernel_rfl) (by simp only [rX2, bd, bdL, bdB, bdH, bdT, front, VLe, VLeL, BLe, Phan, TLe, HLe, ro, Blk.owned, CLe, rr, given, mrg, exct, shr, ren, renL, renB, Nat.reduceAdd, Nat.reduceSub, Nat.reduceLT, Nat.reduceLeDiff, Nat.reduceEqDiff, Nat.reduceBEq, Nat.reduceBNe, reduceCtorEq, nmC, nmV, Sf.tmap_41, Sf.tzv_3, kval, m6m, m6n, m6o, m6p, m6r, m6q]) (by simp only [rX2, bd, bdL, bdB, bdH, bdT, front, VLe, VLeL, BLe, Phan, TLe, HLe, ro, Blk.owned, CLe, rr, given, mrg, exct, shr, ren, renL, renB, Nat.reduceAdd, Nat.reduceSub, Nat.reduceLT, Nat.reduceLeDiff, Nat.reduceEqDiff, Nat.reduceBEq, Nat.reduceBNe, reduceCtorEq, nmC, nmV, Sf.tmap_41, Sf.tzv_3, kval]) ?_
      simp (implicitDefEqProofs := false) only [hm, hf, hb, hbf, hwc, mk_put, upC_same, rX2, bd, bdL, bdB, bdH, bdT, front, VLe, VLeL, BLe, Phan, TLe, HLe, ro, Blk.owned, CLe, rr, given, mrg, exct, shr, ren, renL, renB, Nat.reduceAdd, Nat.reduceSub, Nat.reduceLT, Nat.reduceLeDiff, Nat.reduceEqDiff, Nat.reduceBEq, Nat.reduceBNe, reduceCtorEq, nmC, nmV, Sf.tmap_41, Sf.tzv_3, kval, rX0, ofVal, ofVals, cellsV, vStore.isTup, eqL, eqV, Blk.deg, oneV, elApp, Nat.reduceAdd, Nat.reduceSub, Nat.reduceMul, Nat.reduceLT, Nat.reduceLeDiff, Nat.reduceEqDiff, Int.reduceToNat, Int.reduceGT, Int.reduceGE, Int.reduceMul, Int.reduceLT, Int.reduceLE, Int.reduceAdd, Int.reduceSub, Int.reduceNeg, reduceCtorEq, Sf.T3, Sf.T4, Sf.T23, Sf.T24, Sf.T41, Sf.T54, nmC, nmV, Sf.tmap_41, Sf.tzv_3, kval]
      refine both _ ?_
      refine ⟨fun h1 => by omega, fun h1 => ?_⟩
      have e : dd S (i + 1) = dd S i := by rw [dd, if_pos hx]
      refine ⟨(i + 1, upC cn q (cn q + 1), co), ⟨by simp only []; omega, by simp only [e]; exact hco, hmax, fun j hj => ?_⟩, by simp only []; omega, ?_⟩
      · simp only [e] at hj
        have := hcn j hj
        simp only [upC]
        split <;> constructor <;> omega
      · simp only [e, hw]
        refine Le.of [some 0, some 1, some 2, some 3] (by rfl) (by simp only [rX2, bd, bdL, bdB, bdH, bdT, front, VLe, VLeL, BLe, Phan, TLe, HLe, ro, Blk.owned, CLe, rr, given, mrg, exct, shr, ren, renL, renB, Nat.reduceAdd, Nat.reduceSub, Nat.reduceLT, Nat.reduceLeDiff, Nat.reduceEqDiff, Nat.reduceBEq, Nat.reduceBNe, reduceCtorEq, nmC, nmV, Sf.tmap_41, Sf.tzv_3, kval]) (by simp only [rX2, bd, bdL, bdB, bdH, bdT, front, VLe, VLeL, BLe, Phan, TLe, HLe, ro, Blk.owned, CLe, rr, given, mrg, exct, shr, ren, renL, renB, Nat.reduceAdd, Nat.reduceSub, Nat.reduceLT, Nat.reduceLeDiff, Nat.reduceEqDiff, Nat.reduceBEq, Nat.reduceBNe, reduceCtorEq, nmC, nmV, Sf.tmap_41, Sf.tzv_3, kval]; exact closeE _ _ _) (by rfl) (by simp only [rX2, bd, bdL, bdB, bdH, bdT, front, VLe, VLeL, BLe, Phan, TLe, HLe, ro, Blk.owned, CLe, rr, given, mrg, exct, shr, ren, renL, renB, Nat.reduceAdd, Nat.reduceSub, Nat.reduceLT, Nat.reduceLeDiff, Nat.reduceEqDiff, Nat.reduceBEq, Nat.reduceBNe, reduceCtorEq, nmC, nmV, Sf.tmap_41, Sf.tzv_3, kval]) ?_
        simp only [rX2, bd, bdL, bdB, bdH, bdT, front, VLe, VLeL, BLe, Phan, TLe, HLe, ro, Blk.owned, CLe, rr, given, mrg, exct, shr, ren, renL, renB, Nat.reduceAdd, Nat.reduceSub, Nat.reduceLT, Nat.reduceLeDiff, Nat.reduceEqDiff, Nat.reduceBEq, Nat.reduceBNe, reduceCtorEq, nmC, nmV, Sf.tmap_41, Sf.tzv_3, kval]
        exact bd_mk _ _ _
    · have hf := find_push (dd S i) (lk S i) hx
      have hf0 := find_new (dd S i) cn (lk S i) hx
      have hpush := mk_push (dd S i) cn (lk S i)
      have hb := fun cc => born_mk (dd S i ++ [lk S i]) cc (dd S i).length (by simp)
      have hbf := fun cc => bfind_mk (dd S i ++ [lk S i]) cc (dd S i).length (by simp)
      simp only [nmV, nmC] at hf hf0 hpush
      refine wdraw (.take 0 (.take 1 (.two 2 (.take 3 (.one 4 (.take 5 (.one 6 (.done))))) 4 (.take 5 (.one 2 (.take 3 (.one 6 (.done)))))))) [.row 3 n fun j => nmC (f j), .gone, .own 23 3 n cs (fun j => nmC (lk S j)), .own 23 3 (dd S i).length co (fun j => nmC (lk (dd S i) j)), .cells true 23 (nmC (lk S i))] (by kernel_rfl) (by kernel_rfl) (by simp only [rX2, bd, bdL, bdB, bdH, bdT, front, VLe, VLeL, BLe, Phan, TLe, HLe, ro, Blk.owned, CLe, rr, given, mrg, exct, shr, ren, renL, renB, Nat.reduceAdd, Nat.reduceSub, Nat.reduceLT, Nat.reduceLeDiff, Nat.reduceEqDiff, Nat.reduceBEq, Nat.reduceBNe, reduceCtorEq, nmC, nmV, Sf.tmap_41, Sf.tzv_3, kval, m6m, m6n, m6o, m6p, m6r, m6q]) (by simp only [rX2, bd, bdL, bdB, bdH, bdT, front, VLe, VLeL, BLe, Phan, TLe, HLe, ro, Blk.owned, CLe, rr, given, mrg, exct, shr, ren, renL, renB, Nat.reduceAdd, Nat.reduceSub, Nat.reduceLT, Nat.reduceLeDiff, Nat.reduceEqDiff, Nat.reduceBEq, Nat.reduceBNe, reduceCtorEq, nmC, nmV, Sf.tmap_41, Sf.tzv_3, kval]) ?_
      simp (implicitDefEqProofs := false) only [hm, hf, hf0, hpush, hb, hbf, mk_put, upC_same, rX2, bd, bdL, bdB, bdH, bdT, front, VLe, VLeL, BLe, Phan, TLe, HLe, ro, Blk.owned, CLe, rr, given, mrg, exct, shr, ren, renL, renB, Nat.reduceAdd, Nat.reduceSub, Nat.reduceLT, Nat.reduceLeDiff, Nat.reduceEqDiff, Nat.reduceBEq, Nat.reduceBNe, reduceCtorEq, nmC, nmV, Sf.tmap_41, Sf.tzv_3, kval, rX0, ofVal, ofVals, cellsV, vStore.isTup, eqL, eqV, Blk.deg, oneV, elApp, Nat.reduceAdd, Nat.reduceSub, Nat.reduceMul, Nat.reduceLT, Nat.reduceLeDiff, Nat.reduceEqDiff, Int.reduceToNat, Int.reduceGT, Int.reduceGE, Int.reduceMul, Int.reduceLT, Int.reduceLE, Int.reduceAdd, Int.reduceSub, Int.reduceNeg, reduceCtorEq, Sf.T3, Sf.T4, Sf.T23, Sf.T24, Sf.T41, Sf.T54, nmC, nmV, Sf.tmap_41, Sf.tzv_3, kval]
      refine both _ ?_
      have e : dd S (i + 1) = dd S i ++ [lk S i] := by rw [dd, if_neg hx]
      have el : (dd S i ++ [lk S i]).length = (dd S i).length + 1 := by simp
      have key := app_one (dd S i) (lk S i)
      simp only [nmC] at key
      refine ⟨⟨by omega, by simp only [maxI]; omega⟩, fun cp h1 h2 => ⟨(i + 1, upC (upC cn (dd S i).length 0) (dd S i).length 1, cp), ⟨by simp only []; omega, by simp only [e, el]; exact h1, h2, fun j hj => ?_⟩, by simp only []; omega, ?_⟩⟩
      · simp only [e, el] at hj
        simp only [upC]
        by_cases hjl : j = (dd S i).length
        · rw [if_pos hjl]; constructor <;> omega
        · rw [if_neg hjl, if_neg hjl]
          have := hcn j (by omega)
          constructor <;> omega
      · simp only [e, el, hw]
        refine Le.of [some 0, some 1, some 2, some 6] (by rfl) (by simp only [rX2, bd, bdL, bdB, bdH, bdT, front, VLe, VLeL, BLe, Phan, TLe, HLe, ro, Blk.owned, CLe, rr, given, mrg, exct, shr, ren, renL, renB, Nat.reduceAdd, Nat.reduceSub, Nat.reduceLT, Nat.reduceLeDiff, Nat.reduceEqDiff, Nat.reduceBEq, Nat.reduceBNe, reduceCtorEq, nmC, nmV, Sf.tmap_41, Sf.tzv_3, kval]) (by simp only [rX2, bd, bdL, bdB, bdH, bdT, front, VLe, VLeL, BLe, Phan, TLe, HLe, ro, Blk.owned, CLe, rr, given, mrg, exct, shr, ren, renL, renB, Nat.reduceAdd, Nat.reduceSub, Nat.reduceLT, Nat.reduceLeDiff, Nat.reduceEqDiff, Nat.reduceBEq, Nat.reduceBNe, reduceCtorEq, nmC, nmV, Sf.tmap_41, Sf.tzv_3, kval]; exact ⟨closeE _ _ _, fun j hj => by rw [key j hj]; simp only [rX2, bd, bdL, bdB, bdH, bdT, front, VLe, VLeL, BLe, Phan, TLe, HLe, ro, Blk.owned, CLe, rr, given, mrg, exct, shr, ren, renL, renB, Nat.reduceAdd, Nat.reduceSub, Nat.reduceLT, Nat.reduceLeDiff, Nat.reduceEqDiff, Nat.reduceBEq, Nat.reduceBNe, reduceCtorEq, nmC, nmV, Sf.tmap_41, Sf.tzv_3, kval]⟩) (by rfl) (by simp only [rX2, bd, bdL, bdB, bdH, bdT, front, VLe, VLeL, BLe, Phan, TLe, HLe, ro, Blk.owned, CLe, rr, given, mrg, exct, shr, ren, renL, renB, Nat.reduceAdd, Nat.reduceSub, Nat.reduceLT, Nat.reduceLeDiff, Nat.reduceEqDiff, Nat.reduceBEq, Nat.reduceBNe, reduceCtorEq, nmC, nmV, Sf.tmap_41, Sf.tzv_3, kval]) ?_
        simp only [rX2, bd, bdL, bdB, bdH, bdT, front, VLe, VLeL, BLe, Phan, TLe, HLe, ro, Blk.owned, CLe, rr, given, mrg, exct, shr, ren, renL, renB, Nat.reduceAdd, Nat.reduceSub, Nat.reduceLT, Nat.reduceLeDiff, Nat.reduceEqDiff, Nat.reduceBEq, Nat.reduceBNe, reduceCtorEq, nmC, nmV, Sf.tmap_41, Sf.tzv_3, kval]
        exact bd_mk _ _ _
  · have e : i = n := by omega
    subst e
    refine ⟨?_, cs, cn, co, ?_⟩
    · exact bd_mk _ _ _
    · subst hS
      exact ⟨rfl, rfl⟩
end Go.Proofs.Ytjknlacpniehfaa
