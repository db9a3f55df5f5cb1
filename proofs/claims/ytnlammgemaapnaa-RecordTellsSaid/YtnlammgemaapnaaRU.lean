/- Layer 7: bytes that read are the record's; none begins another. In plain Lean. -/
import Derived.Test.YtnlammgemaapnaaRP
set_option linter.unusedSimpArgs false
set_option linter.unusedVariables false
namespace Go.Proofs.Ytnlammgemaapnaa
open Go Go.Sx
theorem ext_getD {A B : List Int} (h : A.length = B.length) (hg : ∀ i, i < B.length → A.getD i 0 = B.getD i 0) : A = B := by
  refine List.ext_getElem h fun i h1 h2 => ?_
  have := hg i h2
  rw [List.getD_eq_getElem?_getD, List.getD_eq_getElem?_getD, List.getElem?_eq_getElem h1, List.getElem?_eq_getElem h2] at this
  exact this
theorem shr8 (x : Int) (h : 0 ≤ x) : shrI .i64 x 8 = x / 256 := by
  unfold shrI
  rw [show (2 : Int) ^ min (Int.toNat 8) IntKind.i64.bits = 256 from by decide]
  exact Int.fdiv_eq_ediv_of_nonneg _ (by omega)
theorem shr16 (x : Int) (h : 0 ≤ x) : shrI .i64 x 16 = x / 65536 := by
  unfold shrI
  rw [show (2 : Int) ^ min (Int.toNat 16) IntKind.i64.bits = 65536 from by decide]
  exact Int.fdiv_eq_ediv_of_nonneg _ (by omega)
theorem b3_of (a b c : Int) (ha : 0 ≤ a ∧ a ≤ 255) (hb : 0 ≤ b ∧ b ≤ 255) (hc : 0 ≤ c ∧ c ≤ 255) : b3 (a + 256 * b + 65536 * c) = [a, b, c] := by
  unfold b3
  rw [shr8 _ (by omega), shr16 _ (by omega), u8_mod, u8_mod, u8_mod]
  simp only [List.cons.injEq, and_true]
  omega
theorem nB_of : ∀ (R : List Int), Bys R → 9 ≤ R.length → ∃ R9, R = nB (nmAt R 0) ++ R9
  | a0 :: a1 :: a2 :: a3 :: a4 :: a5 :: a6 :: a7 :: a8 :: R9, h, _ => by
    refine ⟨R9, ?_⟩
    have e0 := b3_of a0 a1 a2 (h _ (by simp)) (h _ (by simp)) (h _ (by simp))
    have e3 := b3_of a3 a4 a5 (h _ (by simp)) (h _ (by simp)) (h _ (by simp))
    have e6 := b3_of a6 a7 a8 (h _ (by simp)) (h _ (by simp)) (h _ (by simp))
    show _ = (b3 (a0 + 256 * a1 + 65536 * a2) ++ (b3 (a3 + 256 * a4 + 65536 * a5) ++ b3 (a6 + 256 * a7 + 65536 * a8))) ++ R9
    rw [e0, e3, e6]; rfl
  | [], _, h => by simp at h
  | [_], _, h => by simp at h
  | [_, _], _, h => by simp at h
  | [_, _, _], _, h => by simp at h
  | [_, _, _, _], _, h => by simp at h
  | [_, _, _, _, _], _, h => by simp at h
  | [_, _, _, _, _, _], _, h => by simp at h
  | [_, _, _, _, _, _, _], _, h => by simp at h
  | [_, _, _, _, _, _, _, _], _, h => by simp at h
/-- The bytes of writes that were read. -/
theorem ws_of (R : List Int) (hR : Bys R) (K m i : Nat) (hi : i < 9 * m) : (wsB (fun j => wrAt R (K + 9 * j)) m).getD i 0 = R.getD (K + i) 0 := by
  have h := wsB_getD (fun j => wrAt R (K + 9 * j)) (i % 9) (Nat.mod_lt _ (by omega)) m (i / 9) (by omega)
  rw [Nat.div_add_mod] at h
  rw [h]
  have hm : i % 9 < 9 := Nat.mod_lt _ (by omega)
  have hd := Nat.div_add_mod i 9
  rcases Nat.eq_zero_or_pos (i % 9) with c | c
  · rw [c] at hd ⊢
    show u8 (R.getD (K + 9 * (i / 9)) 0) = _
    rw [u8_in _ (hR.getD _)]
    congr 1; omega
  · obtain ⟨q, hq⟩ : ∃ q, i % 9 = q + 1 := ⟨i % 9 - 1, by omega⟩
    rw [hq] at hd ⊢
    show (vL (wrAt R (K + 9 * (i / 9))).v).getD q 0 = _
    rw [vL_getD _ _ (by omega)]
    show R.getD (K + 9 * (i / 9) + 1 + q) 0 = _
    congr 1; omega
/-- What a kind's bytes are: the record that was read has them. -/
def Own (X : Rec → List Int) (G : GetR) : Prop := ∀ (P R : List Int) (kd : Int) (nm : Nm) k' r', Bys (P ++ R) → G (P ++ R) P.length false kd nm k' false r' → (P ++ R).length ≤ k' → X r' = R
theorem own_out : Own (fun r => [fB r.yes]) Gout := by
  rintro P R kd nm k' r' hB ⟨rfl, hb, rfl⟩ hl
  rw [lack_at] at hb
  have hb1 := (Bool.or_eq_false_iff.1 hb.symm)
  have h1 := of_decide_eq_false hb1.1
  have h2 := of_decide_eq_false hb1.2
  rw [List.length_append] at hl
  match R, h1, hl with
  | [], h1, _ => simp at h1
  | [y], _, _ =>
    have hy := hB y (by simp)
    have e : (P ++ [y]).getD P.length 0 = y := getD_app0 P [y]
    rw [e] at h2
    show [fB ((P ++ [y]).getD P.length 0 == 1)] = [y]
    rw [e]
    have : y = 0 ∨ y = 1 := by omega
    rcases this with rfl | rfl <;> rfl
  | _ :: _ :: _, _, hl => simp at hl <;> omega
theorem own_commit : Own (fun r => [u8 r.shards, u8 (IntKind.i64.wrap (r.st + 1)), u8 r.to_]) Gcommit := by
  rintro P R kd nm k' r' hB ⟨rfl, hb, rfl⟩ hl
  rw [lack_at] at hb
  have h1 := of_decide_eq_false hb.symm
  rw [List.length_append] at hl
  match R, h1, hl with
  | [], h1, _ => simp at h1
  | [_], h1, _ => simp at h1
  | [_, _], h1, _ => simp at h1
  | [a, b, c], _, _ =>
    have ha := hB a (by simp)
    have hb := hB b (by simp)
    have hc := hB c (by simp)
    have e0 : (P ++ [a, b, c]).getD P.length 0 = a := getD_app0 P [a, b, c]
    have e1 : (P ++ [a, b, c]).getD (P.length + 1) 0 = b := getD_app P [a, b, c] 1
    have e2 : (P ++ [a, b, c]).getD (P.length + 2) 0 = c := getD_app P [a, b, c] 2
    show [u8 ((P ++ [a, b, c]).getD P.length 0), u8 (IntKind.i64.wrap ((P ++ [a, b, c]).getD (P.length + 1) 0 - 1 + 1)), u8 ((P ++ [a, b, c]).getD (P.length + 2) 0)] = [a, b, c]
    rw [e0, e1, e2, show b - 1 + 1 = b by omega, IntWalk.i64_in _ (by omega), u8_in _ ha, u8_in _ hb, u8_in _ hc]
  | _ :: _ :: _ :: _ :: _, _, hl => simp at hl <;> omega
theorem own_end : Own (fun r => []) Gend := by
  rintro P R kd nm k' r' hB ⟨rfl, hb, rfl⟩ hl
  rw [List.length_append] at hl
  exact (List.eq_nil_of_length_eq_zero (by omega)).symm
theorem own_num : Own (fun r => b3 r.num) Gnum := by
  rintro P R kd nm k' r' hB ⟨rfl, hb, rfl⟩ hl
  rw [lack_at] at hb
  have h1 := of_decide_eq_false hb.symm
  rw [List.length_append] at hl
  match R, h1, hl with
  | [], h1, _ => simp at h1
  | [_], h1, _ => simp at h1
  | [_, _], h1, _ => simp at h1
  | [a, b, c], _, _ =>
    have e := n3_app P [a, b, c] 0
    rw [Nat.add_zero] at e
    show b3 (n3 (P ++ [a, b, c]) P.length) = [a, b, c]
    rw [e]
    exact b3_of a b c (hB a (by simp)) (hB b (by simp)) (hB c (by simp))
  | _ :: _ :: _ :: _ :: _, _, hl => simp at hl <;> omega
theorem reads_all {P R : List Int} {n m : Nat} (h : Reads (P ++ R) false (P.length + 1) n m) (hl : 1 + 9 * m ≤ R.length) : m = n := by
  rcases h.2.1 with e | e
  · exact e
  · rw [Nat.add_assoc, lack_at] at e
    have := of_decide_eq_true e
    omega
theorem own_ws (P R : List Int) (hB : Bys (P ++ R)) (m : Nat) (hm : Reads (P ++ R) false (P.length + 1) ((P ++ R).getD P.length 0).toNat m) (hl : 1 + 9 * m ≤ R.length) (i : Nat) (hi : i < 1 + 9 * m) :
    (u8 m :: wsB (fun j => wrAt (P ++ R) (P.length + 1 + 9 * j)) m).getD i 0 = R.getD i 0 := by
  have hn := reads_all hm hl
  have hr := hB.getD P.length
  have e0 : R.getD 0 0 = m := by rw [← getD_app0 P R]; omega
  rcases i with _ | i
  · rw [e0]
    exact u8_in _ (by rw [← e0, ← getD_app0 P R]; exact hr)
  · rw [List.getD_cons_succ, ws_of _ hB _ _ _ (by omega), Nat.add_assoc, getD_app]
    congr 1; omega
theorem own_local : Own (fun r => u8 r.n :: wsB r.w r.n) Glocal := by
  rintro P R kd nm k' r' hB ⟨m, hm, rfl, hb, rfl⟩ hl
  rw [Nat.add_assoc, lack_at] at hb
  have h1 := of_decide_eq_false hb.symm
  rw [List.length_append] at hl
  show u8 m :: wsB (fun j => wrAt (P ++ R) (P.length + 1 + 9 * j)) m = R
  refine ext_getD (by simp only [List.length_cons, wsB_length]; omega) fun i hi => own_ws P R hB m hm (by omega) i (by omega)
theorem own_prep : Own (fun r => (u8 r.n :: wsB r.w r.n) ++ [u8 r.give, u8 r.take]) Gprep := by
  rintro P R kd nm k' r' hB ⟨m, hm, rfl, hb, rfl⟩ hl
  rw [show P.length + 1 + 9 * m + 2 = P.length + (1 + 9 * m + 2) by omega, lack_at] at hb
  have h1 := of_decide_eq_false hb.symm
  rw [List.length_append] at hl
  show (u8 m :: wsB (fun j => wrAt (P ++ R) (P.length + 1 + 9 * j)) m) ++ [u8 ((P ++ R).getD (P.length + 1 + 9 * m) 0), u8 ((P ++ R).getD (P.length + 1 + 9 * m + 1) 0)] = R
  rw [u8_in _ (hB.getD _), u8_in _ (hB.getD _)]
  have hlen : (u8 m :: wsB (fun j => wrAt (P ++ R) (P.length + 1 + 9 * j)) m).length = 1 + 9 * m := by simp only [List.length_cons, wsB_length]; omega
  refine ext_getD (by rw [List.length_append, hlen]; simp only [List.length_cons, List.length_nil]; omega) fun i hi => ?_
  rcases Nat.lt_or_ge i (1 + 9 * m) with c | c
  · rw [getD_left _ _ _ (by omega)]
    exact own_ws P R hB m hm (by omega) i c
  · have : i = 1 + 9 * m ∨ i = 1 + 9 * m + 1 := by omega
    rcases this with rfl | rfl
    · have := getD_app0 (u8 m :: wsB (fun j => wrAt (P ++ R) (P.length + 1 + 9 * j)) m) [(P ++ R).getD (P.length + 1 + 9 * m) 0, (P ++ R).getD (P.length + 1 + 9 * m + 1) 0]
      rw [hlen] at this
      rw [this]
      show (P ++ R).getD (P.length + 1 + 9 * m) 0 = _
      rw [Nat.add_assoc, getD_app]
    · have := getD_app (u8 m :: wsB (fun j => wrAt (P ++ R) (P.length + 1 + 9 * j)) m) [(P ++ R).getD (P.length + 1 + 9 * m) 0, (P ++ R).getD (P.length + 1 + 9 * m + 1) 0] 1
      rw [hlen] at this
      rw [this]
      show (P ++ R).getD (P.length + 1 + 9 * m + 1) 0 = _
      rw [show P.length + 1 + 9 * m + 1 = P.length + (1 + 9 * m + 1) by omega, getD_app]
theorem own_named {X : Rec → List Int} {G : GetR} (h : Own X G) (R : List Int) (kd : Int) (k' : Nat) (r' : Rec) (hB : Bys R) (hl9 : 9 ≤ R.length) (hg : G R 9 false kd (nmAt R 0) k' false r') (hn : r'.nm = nmAt R 0) (hl : R.length ≤ k') : nB r'.nm ++ X r' = R := by
  obtain ⟨R9, e⟩ := nB_of R hB hl9
  have h9 : (nB (nmAt R 0)).length = 9 := nB_length _
  generalize hq : nmAt R 0 = q at e h9 hg hn
  subst e
  rw [← h9] at hg
  rw [h (nB q) R9 kd q k' r' hB hg hl, hn]
/-- Bytes that read are the record's. -/
theorem Good.own {B : List Int} {r : Rec} (hB : Bys B) (h : Good B r) : rB r = B := by
  have hok := h.ok hB
  obtain ⟨x, R, k', rfl, h1, h2, hg, hl, hM⟩ := h
  have hk := (GetK.ok ⟨h1, h2⟩ hB.tail hg).2.2
  have e1 : rB r = u8 r.k :: bX r := if_pos hM
  rw [e1, hk, u8_in _ (by omega)]
  congr 1
  have hB' : Bys R := hB.tail
  have hc : x = 1 ∨ x = 2 ∨ x = 3 ∨ x = 4 ∨ x = 5 ∨ 6 ≤ x := by omega
  have nine : ∀ k, lack false R (9 + k) = false → 9 ≤ R.length := fun k h => by
    unfold lack at h
    rw [Bool.false_or] at h
    have := of_decide_eq_false h
    omega
  rcases hc with e | e | e | e | e | e
  · rw [getK_1 e] at hg
    rw [bX_1 r (by omega)]
    obtain ⟨m, hm, hk', hb, hr⟩ := id hg
    exact own_named own_local R x k' r hB' (nine (1 + 9 * m) (by rw [← Nat.add_assoc]; exact hb.symm)) hg (by rw [hr]; rfl) hl
  · rw [getK_2 e] at hg
    rw [bX_2 r (by omega)]
    obtain ⟨m, hm, hk', hb, hr⟩ := id hg
    exact own_named own_prep R x k' r hB' (nine (1 + 9 * m + 2) (by rw [show 9 + (1 + 9 * m + 2) = 9 + 1 + 9 * m + 2 by omega]; exact hb.symm)) hg (by rw [hr]; rfl) hl
  · rw [getK_3 e] at hg
    rw [bX_3 r (by omega)]
    obtain ⟨hk', hb, hr⟩ := id hg
    exact own_named own_out R x k' r hB' (nine 1 (Bool.or_eq_false_iff.1 hb.symm).1) hg (by rw [hr]; rfl) hl
  · rw [getK_4 e] at hg
    rw [bX_4 r (by omega)]
    obtain ⟨hk', hb, hr⟩ := id hg
    exact own_named own_commit R x k' r hB' (nine 3 hb.symm) hg (by rw [hr]; rfl) hl
  · rw [getK_5 e] at hg
    rw [bX_5 r (by omega)]
    obtain ⟨hk', hb, hr⟩ := id hg
    exact own_named own_end R x k' r hB' (nine 0 hb.symm) hg (by rw [hr]; rfl) hl
  · rw [getK_6 e] at hg
    have : bX r = b3 r.num := by
      rcases (show x = 6 ∨ x = 7 by omega) with e6 | e7
      · exact bX_6 r (by omega)
      · exact bX_7 r (by omega)
    rw [this]
    exact own_num [] R x ⟨0, 0, 0⟩ k' r hB' hg hl
/-- Whatever reads the bytes of a record, with anything behind, takes just these. -/
theorem getK_back {r : Rec} (hM : MayR r) (T : List Int) {k' : Nat} {bad' : Bool} {r' : Rec} (hg : GetK r.k (bX r ++ T) k' bad' r') : k' = (bX r).length ∧ bad' = false ∧ SameR (flds r) r' := by
  have hs := hM.1
  have hc : r.k = 1 ∨ r.k = 2 ∨ r.k = 3 ∨ r.k = 4 ∨ r.k = 5 ∨ r.k = 6 ∨ r.k = 7 := by
    by_cases c : r.k = 1 ∨ r.k = 2 ∨ r.k = 3 ∨ r.k = 4 ∨ r.k = 5 ∨ r.k = 6 ∨ r.k = 7
    · exact c
    · unfold Such at hs
      rw [if_neg (by omega), if_neg (by omega), if_neg (by omega), if_neg (by omega), if_neg (by omega), if_neg (by omega), if_neg (by omega)] at hs
      exact hs.elim
  rcases hc with e | e | e | e | e | e | e
  · rw [getK_1 e, bX_1 r e] at hg; rw [such_1 r e] at hs; rw [flds_1 r e, bX_1 r e]
    have := back_named back_local [] T r r.k k' bad' r' hs.1 hs.2 hg
    simpa using this
  · rw [getK_2 e, bX_2 r e] at hg; rw [such_2 r e] at hs; rw [flds_2 r e, bX_2 r e]
    have := back_named back_prep [] T r r.k k' bad' r' hs.1 hs.2 hg
    simpa using this
  · rw [getK_3 e, bX_3 r e] at hg; rw [such_3 r e] at hs; rw [flds_3 r e, bX_3 r e]
    have := back_named back_out [] T r r.k k' bad' r' hs.1 hs.2 hg
    simpa using this
  · rw [getK_4 e, bX_4 r e] at hg; rw [such_4 r e] at hs; rw [flds_4 r e, bX_4 r e]
    have := back_named back_commit [] T r r.k k' bad' r' hs.1 hs.2 hg
    simpa using this
  · rw [getK_5 e, bX_5 r e] at hg; rw [such_5 r e] at hs; rw [flds_5 r e, bX_5 r e]
    have := back_named back_end [] T r r.k k' bad' r' hs.1 hs.2 hg
    simpa using this
  · rw [getK_6 (by omega), bX_6 r e] at hg; rw [such_6 r e] at hs; rw [flds_6 r e, bX_6 r e]
    have := back_num [] T r r.k ⟨0, 0, 0⟩ k' bad' r' ⟨hs.1, by omega⟩ hg
    exact ⟨by simpa using this.1, this.2.1, this.2.2⟩
  · rw [getK_6 (by omega), bX_7 r e] at hg; rw [such_7 r e] at hs; rw [flds_7 r e, bX_7 r e]
    have := back_num [] T r r.k ⟨0, 0, 0⟩ k' bad' r' ⟨hs.1, by omega⟩ hg
    exact ⟨by simpa using this.1, this.2.1, this.2.2⟩
/-- No record's bytes go on as another's. -/
theorem Good.alone {B T : List Int} {r s : Rec} (hB : Bys B) (h : Good B r) (g : Good (B ++ T) s) : T = [] := by
  have hown := h.own hB
  obtain ⟨x, R, k', rfl, h1, h2, hg, hl, hM⟩ := h
  have hk := (GetK.ok ⟨h1, h2⟩ hB.tail hg).2.2
  have e1 : rB r = u8 r.k :: bX r := if_pos hM
  rw [e1] at hown
  injection hown with e2 e3
  obtain ⟨y, S, k2, e, _, _, hg2, hl2, _⟩ := g
  injection e with e4 e5
  subst e4; subst e5
  have hl2 : (R ++ T).length ≤ k2 := hl2
  have hg2 : GetK x (R ++ T) k2 false s := hg2
  rw [← e3, ← hk] at hg2
  have := (getK_back hM T hg2).1
  rw [this, e3, List.length_append] at hl2
  exact List.eq_nil_of_length_eq_zero (by omega)
end Go.Proofs.Ytnlammgemaapnaa
