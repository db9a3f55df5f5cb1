/- What comes in: a record, bytes, numbers. -/
import Derived.Test.YtnlammgemaapnaaRW
import Derived.Test.YtnlammgemaapnaaRS
import Derived.OpenShut
set_option linter.unusedSimpArgs false
set_option linter.unusedVariables false
set_option maxRecDepth 100000
namespace Go.Proofs.Ytnlammgemaapnaa
open Go Go.Sx Go.ChangeShapes Go.WideShapes Go.ChangeAt Go.RowKit
section
variable {H : Type} {enc : TypeId × Value → H} {W : World} {base : Nat} {sp : Nat → Bool} {held : Bool}
theorem open_slice {e ts sz fuel b0 : Nat} {r : Reach} {v : Value} {x : DataW H × List MemPlace} (hu : Try.prog.underlying ts = some (.slice e)) (hsz : Try.prog.cellsOf e = sz)
    (hc : Cell.okWide Try.prog W r b0 ts v) (hf : DataW.trod enc Try.prog W base sp held fuel ts [v] = some x) :
    ∃ (p : Option (Nat × Nat)) (n cap : Nat), v = .slice (p.map fun q => ⟨q.1, q.2, none⟩) n cap ∧ n ≤ maxI ∧ (p = none → n = 0) ∧
      ∀ g o, p = some (g, o) → ∀ i, i < n → ∃ (cs : List Value) (fuel' : Nat) (y : DataW H × List MemPlace), cs.length = sz ∧ (∀ q, q < sz → W.cell? ⟨g, o + (i * sz + q), none⟩ = cs[q]?) ∧ DataW.trod enc Try.prog W base sp held fuel' e cs = some y := by
  unfold Cell.okWide at hc
  rw [hu] at hc
  rcases DataW.trod_slice hu hf with ⟨h0, _⟩ | ⟨a, len, cap, elems, rest, n, _, h0, _, hb, hl, hm, hlen, hel, _⟩
  · injection h0 with h0 _
    exact ⟨none, 0, 0, by rw [h0]; rfl, Nat.zero_le _, fun _ => rfl, fun g o h => by cases h⟩
  · injection h0 with h0 _
    subst h0
    simp only [Cell.ok, hu] at hc
    have hsp : a.spot = none := hc.2.2.2.1
    have hadd2 : ∀ m q, (a.add m).add q = ⟨a.block, a.off + (m + q), none⟩ := fun m q => by
      have hadd : ∀ m, a.add m = ⟨a.block, a.off + m, none⟩ := fun m => by
        unfold Addr.add
        split
        · rename_i hm; subst hm; cases a; simp_all
        · rfl
      rw [hadd]
      unfold Addr.add
      split
      · rename_i hq; subst hq; rfl
      · simp [Nat.add_assoc]
    refine ⟨some (a.block, a.off), len, cap, ?_, ?_, (fun h => by cases h), fun g o hgo i hi => ?_⟩
    · cases a; simp_all
    · simp only [maxI]; simp only [maxLen] at hm; omega
    · injection hgo with hgo
      injection hgo with hg ho
      subst hg; subst ho
      have h1 := hel i hi
      obtain ⟨y, hy⟩ : ∃ y, elems[i]? = some y := ⟨elems[i]'(by omega), List.getElem?_eq_getElem _⟩
      rw [hy, Option.bind_eq_some_iff, hsz] at h1
      obtain ⟨cs, hcs, hx⟩ := h1
      obtain ⟨_, h3, h4⟩ := World.cells?_some hcs
      refine ⟨cs, n, y, h3, fun q hq => ?_, hx⟩
      rw [← h4 q hq, hadd2]
theorem u8w {n : Int} (h : (Lit.int .u8 n).wf = true) : 0 ≤ n ∧ n ≤ 255 := by
  simp only [Lit.wf, Bool.and_eq_true, decide_eq_true_eq] at h
  exact h
theorem i8w {n : Int} (h : (Lit.int .i8 n).wf = true) : -128 ≤ n ∧ n ≤ 127 := by
  simp only [Lit.wf, Bool.and_eq_true, decide_eq_true_eq] at h
  exact h
theorem i64w {n : Int} (h : (Lit.int .i64 n).wf = true) : -9223372036854775808 ≤ n ∧ n ≤ 9223372036854775807 := by
  simp only [Lit.wf, Bool.and_eq_true, decide_eq_true_eq] at h
  exact h
theorem uU8 : Try.prog.underlying 5 = some (.int .u8) := by kernel_rfl
theorem uI8 : Try.prog.underlying 24 = some (.int .i8) := by kernel_rfl
theorem uB : Try.prog.underlying 4 = some .bool := by kernel_rfl
theorem uVal : Try.prog.underlying 54 = some (.array 8 5) := by kernel_rfl
theorem uBs : Try.prog.underlying 22 = some (.slice 5) := by kernel_rfl
theorem uWs : Try.prog.underlying 27 = some (.slice 89) := by kernel_rfl
theorem uWr : Try.prog.underlying 89 = some (.struct #[⟨ "Block", 3, 0, false, "", "", 0⟩, ⟨ "Value", 54, 1, false, "", "", 8⟩]) := by kernel_rfl
theorem uCh : Try.prog.underlying 29 = some (.struct #[⟨ "Stripe", 3, 0, false, "", "", 0⟩, ⟨ "To", 3, 1, false, "", "", 8⟩]) := by kernel_rfl
theorem uRec : Try.prog.underlying 31 = some (.struct #[⟨ "Kind", 24, 0, false, "", "", 0⟩, ⟨ "Name", 26, 1, false, "", "", 8⟩, ⟨ "Yes", 4, 4, false, "", "", 32⟩, ⟨ "Writes", 27, 5, false, "", "", 40⟩, ⟨ "Give", 3, 6, false, "", "", 64⟩, ⟨ "Take", 3, 7, false, "", "", 72⟩, ⟨ "Shards", 3, 8, false, "", "", 80⟩, ⟨ "Change", 29, 9, false, "", "", 88⟩, ⟨ "N", 3, 11, false, "", "", 104⟩]) := by kernel_rfl
theorem cU8 : Try.prog.cellsOf 5 = 1 := by kernel_rfl
theorem cI8 : Try.prog.cellsOf 24 = 1 := by kernel_rfl
theorem cB : Try.prog.cellsOf 4 = 1 := by kernel_rfl
theorem cVal : Try.prog.cellsOf 54 = 8 := by kernel_rfl
theorem cWs : Try.prog.cellsOf 27 = 1 := by kernel_rfl
theorem cWr : Try.prog.cellsOf 89 = 9 := by kernel_rfl
theorem cCh : Try.prog.cellsOf 29 = 2 := by kernel_rfl
theorem cRec : Try.prog.cellsOf 31 = 12 := by kernel_rfl
theorem one_int {t fuel : Nat} {k : IntKind} {c : Value} {x : DataW H × List MemPlace} (hu : Try.prog.underlying t = some (.int k)) (h : DataW.trod enc Try.prog W base sp held fuel t [c] = some x) : ∃ n, c = .int k n ∧ (Lit.int k n).wf = true := by
  obtain ⟨n, h1, _, h2⟩ := DataW.trod_int hu h
  injection h1 with h1 _
  exact ⟨n, h1, h2⟩
theorem wr_cells {fuel : Nat} {cs : List Value} {x : DataW H × List MemPlace} (h : DataW.trod enc Try.prog W base sp held fuel 89 cs = some x) :
    ∃ y : Wr, cs = [.int .i64 y.b, .int .u8 (y.v 0), .int .u8 (y.v 1), .int .u8 (y.v 2), .int .u8 (y.v 3), .int .u8 (y.v 4), .int .u8 (y.v 5), .int .u8 (y.v 6), .int .u8 (y.v 7)] ∧ ∀ i, i < 8 → 0 ≤ y.v i ∧ y.v i ≤ 255 := by
  obtain ⟨xs, n, _, _, hl, hxl, hf⟩ := DataW.trod_struct uWr h
  rw [cWr] at hl
  have hxl : xs.length = 2 := hxl
  match cs, hl, xs, hxl with
  | [c0, c1, c2, c3, c4, c5, c6, c7, c8], _, [x0, x1], _ =>
    have e0 := hf 0 _ rfl
    have e1 := hf 1 _ rfl
    have e0 : DataW.trod enc Try.prog W base sp held n 3 (List.take (Try.prog.cellsOf 3) (List.drop 0 [c0, c1, c2, c3, c4, c5, c6, c7, c8])) = some x0 := e0
    have e1 : DataW.trod enc Try.prog W base sp held n 54 (List.take (Try.prog.cellsOf 54) (List.drop 1 [c0, c1, c2, c3, c4, c5, c6, c7, c8])) = some x1 := e1
    rw [Go.Proofs.Ytnlammgemaapnaa.c3] at e0
    rw [cVal] at e1
    obtain ⟨b, rfl, _⟩ := one_int u3 e0
    obtain ⟨ys, m, _, _, _, hyl, hg⟩ := DataW.trod_array uVal e1
    rw [cU8] at hg
    match ys, hyl with
    | [y0, y1, y2, y3, y4, y5, y6, y7], _ =>
      have g0 : DataW.trod enc Try.prog W base sp held m 5 [c1] = some y0 := hg 0 (by omega)
      obtain ⟨n0, rfl, r0⟩ := one_int uU8 g0
      have g1 : DataW.trod enc Try.prog W base sp held m 5 [c2] = some y1 := hg 1 (by omega)
      obtain ⟨n1, rfl, r1⟩ := one_int uU8 g1
      have g2 : DataW.trod enc Try.prog W base sp held m 5 [c3] = some y2 := hg 2 (by omega)
      obtain ⟨n2, rfl, r2⟩ := one_int uU8 g2
      have g3 : DataW.trod enc Try.prog W base sp held m 5 [c4] = some y3 := hg 3 (by omega)
      obtain ⟨n3, rfl, r3⟩ := one_int uU8 g3
      have g4 : DataW.trod enc Try.prog W base sp held m 5 [c5] = some y4 := hg 4 (by omega)
      obtain ⟨n4, rfl, r4⟩ := one_int uU8 g4
      have g5 : DataW.trod enc Try.prog W base sp held m 5 [c6] = some y5 := hg 5 (by omega)
      obtain ⟨n5, rfl, r5⟩ := one_int uU8 g5
      have g6 : DataW.trod enc Try.prog W base sp held m 5 [c7] = some y6 := hg 6 (by omega)
      obtain ⟨n6, rfl, r6⟩ := one_int uU8 g6
      have g7 : DataW.trod enc Try.prog W base sp held m 5 [c8] = some y7 := hg 7 (by omega)
      obtain ⟨n7, rfl, r7⟩ := one_int uU8 g7
      refine ⟨⟨b, fun i => match i with | 0 => n0 | 1 => n1 | 2 => n2 | 3 => n3 | 4 => n4 | 5 => n5 | 6 => n6 | _ => n7⟩, rfl, fun i hi => ?_⟩
      match i, hi with
      | 0, _ => exact u8w r0
      | 1, _ => exact u8w r1
      | 2, _ => exact u8w r2
      | 3, _ => exact u8w r3
      | 4, _ => exact u8w r4
      | 5, _ => exact u8w r5
      | 6, _ => exact u8w r6
      | 7, _ => exact u8w r7
theorem rec_cells {fuel b0 : Nat} {r0 : Reach} {cs : List Value} {x : DataW H × List MemPlace} (h : DataW.trod enc Try.prog W base sp held fuel 31 cs = some x) (hc : ∀ v, cs[5]? = some v → Cell.okWide Try.prog W r0 b0 27 v) :
    ∃ (r : Rec) (cw : Nat) (p : Option (Nat × Nat)), cs = [.int .i8 r.k, .int .i64 r.nm.a, .int .i64 r.nm.b, .int .i64 r.nm.c, .bool r.yes, .slice (p.map fun q => ⟨q.1, q.2, none⟩) r.n cw, .int .i64 r.give, .int .i64 r.take, .int .i64 r.shards, .int .i64 r.st, .int .i64 r.to_, .int .i64 r.num] ∧
      (-128 ≤ r.k ∧ r.k ≤ 127) ∧ RecW r ∧ r.n ≤ maxI ∧ (p = none → r.n = 0) ∧ ∀ g o, p = some (g, o) → ∀ j, j < r.n → ∀ i u, (wrC (r.w j))[i]? = some u → W.cell? ⟨g, o + (j * 9 + i), none⟩ = some (den noV u) := by
  obtain ⟨xs, n, _, _, hl, hxl, hf⟩ := DataW.trod_struct uRec h
  rw [cRec] at hl
  have hxl : xs.length = 9 := hxl
  match cs, hl, xs, hxl with
  | [c0, c1, c2, c3, c4, c5, c6, c7, c8, c9, c10, c11], _, [x0, x1, x2, x3, x4, x5, x6, x7, x8], _ =>
    have e0 : DataW.trod enc Try.prog W base sp held n 24 (List.take (Try.prog.cellsOf 24) (List.drop 0 [c0, c1, c2, c3, c4, c5, c6, c7, c8, c9, c10, c11])) = some x0 := hf 0 _ rfl
    rw [cI8] at e0
    have e1 : DataW.trod enc Try.prog W base sp held n 26 (List.take (Try.prog.cellsOf 26) (List.drop 1 [c0, c1, c2, c3, c4, c5, c6, c7, c8, c9, c10, c11])) = some x1 := hf 1 _ rfl
    rw [cN] at e1
    have e2 : DataW.trod enc Try.prog W base sp held n 4 (List.take (Try.prog.cellsOf 4) (List.drop 4 [c0, c1, c2, c3, c4, c5, c6, c7, c8, c9, c10, c11])) = some x2 := hf 2 _ rfl
    rw [cB] at e2
    have e3 : DataW.trod enc Try.prog W base sp held n 27 (List.take (Try.prog.cellsOf 27) (List.drop 5 [c0, c1, c2, c3, c4, c5, c6, c7, c8, c9, c10, c11])) = some x3 := hf 3 _ rfl
    rw [cWs] at e3
    have e4 : DataW.trod enc Try.prog W base sp held n 3 (List.take (Try.prog.cellsOf 3) (List.drop 6 [c0, c1, c2, c3, c4, c5, c6, c7, c8, c9, c10, c11])) = some x4 := hf 4 _ rfl
    rw [Go.Proofs.Ytnlammgemaapnaa.c3] at e4
    have e5 : DataW.trod enc Try.prog W base sp held n 3 (List.take (Try.prog.cellsOf 3) (List.drop 7 [c0, c1, c2, c3, c4, c5, c6, c7, c8, c9, c10, c11])) = some x5 := hf 5 _ rfl
    rw [Go.Proofs.Ytnlammgemaapnaa.c3] at e5
    have e6 : DataW.trod enc Try.prog W base sp held n 3 (List.take (Try.prog.cellsOf 3) (List.drop 8 [c0, c1, c2, c3, c4, c5, c6, c7, c8, c9, c10, c11])) = some x6 := hf 6 _ rfl
    rw [Go.Proofs.Ytnlammgemaapnaa.c3] at e6
    have e7 : DataW.trod enc Try.prog W base sp held n 29 (List.take (Try.prog.cellsOf 29) (List.drop 9 [c0, c1, c2, c3, c4, c5, c6, c7, c8, c9, c10, c11])) = some x7 := hf 7 _ rfl
    rw [cCh] at e7
    have e8 : DataW.trod enc Try.prog W base sp held n 3 (List.take (Try.prog.cellsOf 3) (List.drop 11 [c0, c1, c2, c3, c4, c5, c6, c7, c8, c9, c10, c11])) = some x8 := hf 8 _ rfl
    rw [Go.Proofs.Ytnlammgemaapnaa.c3] at e8
    obtain ⟨k, rfl, hk⟩ := one_int uI8 e0
    obtain ⟨nm, hnm⟩ := nm_cells e1
    have hnm : [c1, c2, c3] = [Value.int .i64 nm.a, .int .i64 nm.b, .int .i64 nm.c] := hnm
    injection hnm with h1 hnm
    injection hnm with h2 hnm
    injection hnm with h3 _
    subst h1; subst h2; subst h3
    obtain ⟨yes, hyes, _⟩ := DataW.trod_bool uB e2
    have hyes : [c4] = [Value.bool yes] := hyes
    injection hyes with h4 _
    subst h4
    obtain ⟨p, m, cw, rfl, hm, hp, hel⟩ := open_slice uWs cWr (hc c5 rfl) e3
    obtain ⟨give, rfl, _⟩ := one_int u3 e4
    obtain ⟨take, rfl, _⟩ := one_int u3 e5
    obtain ⟨shards, rfl, _⟩ := one_int u3 e6
    obtain ⟨num, rfl, _⟩ := one_int u3 e8
    obtain ⟨zs, m2, _, _, _, hzl, hz⟩ := DataW.trod_struct uCh e7
    have hzl : zs.length = 2 := hzl
    match zs, hzl with
    | [z0, z1], _ =>
      have f0 : DataW.trod enc Try.prog W base sp held m2 3 (List.take (Try.prog.cellsOf 3) (List.drop 0 [c9, c10])) = some z0 := hz 0 _ rfl
      have f1 : DataW.trod enc Try.prog W base sp held m2 3 (List.take (Try.prog.cellsOf 3) (List.drop 1 [c9, c10])) = some z1 := hz 1 _ rfl
      rw [Go.Proofs.Ytnlammgemaapnaa.c3] at f0 f1
      obtain ⟨st, rfl, _⟩ := one_int u3 f0
      obtain ⟨to_, rfl, _⟩ := one_int u3 f1
      have each : ∀ i, i < m → ∃ y : Wr, (∀ i, i < 8 → 0 ≤ y.v i ∧ y.v i ≤ 255) ∧ ∀ g o, p = some (g, o) → ∀ q u, (wrC y)[q]? = some u → W.cell? ⟨g, o + (i * 9 + q), none⟩ = some (den noV u) := fun i hi => by
        match p, hp, hel with
        | none, hp, _ => have := hp rfl; omega
        | some (g, o), _, hel =>
          obtain ⟨cs, f', y, hcl, hcell, hy⟩ := hel g o rfl i hi
          obtain ⟨w, rfl, hw⟩ := wr_cells hy
          refine ⟨w, hw, fun g' o' he q u hu => ?_⟩
          injection he with he
          injection he with hg ho
          subst hg; subst ho
          have hq : q < 9 := (List.getElem?_eq_some_iff.1 hu).1
          rw [hcell q hq]
          match q, hq with
          | 0, _ => injection hu with hu; subst hu; rfl
          | 1, _ => injection hu with hu; subst hu; rfl
          | 2, _ => injection hu with hu; subst hu; rfl
          | 3, _ => injection hu with hu; subst hu; rfl
          | 4, _ => injection hu with hu; subst hu; rfl
          | 5, _ => injection hu with hu; subst hu; rfl
          | 6, _ => injection hu with hu; subst hu; rfl
          | 7, _ => injection hu with hu; subst hu; rfl
          | 8, _ => injection hu with hu; subst hu; rfl
      refine ⟨⟨k, nm, yes, m, fun i => if h : i < m then (each i h).choose else ⟨0, fun _ => 0⟩, give, take, shards, st, to_, num⟩, cw, p, rfl, i8w hk, fun j hj i hi => ?_, hm, hp, fun g o hgo j hj i u hu => ?_⟩
      · have hj : j < m := hj
        simp only [dif_pos hj]
        exact (each j hj).choose_spec.1 i hi
      · have hj : j < m := hj
        simp only [dif_pos hj] at hu
        exact (each j hj).choose_spec.2 g o hgo i u hu
end
end Go.Proofs.Ytnlammgemaapnaa
