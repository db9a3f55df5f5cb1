/- A message that comes in, as a walk's beginning. -/
import Derived.ProofKit
import Derived.OpenShut
import Derived.Test.YtnlammgemaapnaaRows
import Derived.Test.YtnlammgemaapnaaTJ
set_option linter.unusedSimpArgs false
set_option linter.unusedVariables false
set_option maxRecDepth 100000
namespace Go.Proofs.Ytnlammgemaapnaa
open Go Go.Sx Go.ChangeShapes Go.WideShapes Go.ChangeAt Go.RowKit
theorem uN : Try.prog.underlying 26 = some (.struct #[⟨ "Stamp", 3, 0, false, "", "", 0⟩, ⟨ "Inc", 3, 1, false, "", "", 8⟩, ⟨ "Try", 3, 2, false, "", "", 16⟩]) := by kernel_rfl
theorem u3 : Try.prog.underlying 3 = some (.int .i64) := by kernel_rfl
theorem below_of_link {β β' : Val} {h h' : List Blk} {w w' : World} (hno : ∀ b ∈ h, b.owned = false) (l : Link β h w β' h' w') : Go.RowKit.Below w.heap.size w w' :=
  ⟨l.fr.os, l.fr.tape, l.fr.output, l.fr.size, fun k hk => l.fr.keep k hk fun ⟨i, b, hb, ho, _⟩ => by
    rw [hno b (List.mem_of_getElem? hb)] at ho; cases ho⟩
theorem Try.own : ownKnob Try.prog.godebug = none := by kernel_rfl
theorem Try.laidOut : laidOutB Try.prog = true := by kernel_rfl
/-- A valuation that names nothing. -/
def noV : Val := ⟨fun _ => none, fun _ => none⟩
/-- A message's row of writes, that lies there. -/
def LiesM (W : World) (p : Option (Nat × Nat)) (r : Msg) : Prop := r.n ≤ maxI ∧ (p = none → r.n = 0) ∧ ∀ g o, p = some (g, o) → ∀ j, j < r.n → ∀ i u, (wrC (r.w j))[i]? = some u → W.cell? ⟨g, o + (j * 9 + i), none⟩ = some (den noV u)
section
variable {H : Type} {enc : TypeId × Value → H} {W : World} {base : Nat} {sp : Nat → Bool} {held : Bool}
theorem cN : Try.prog.cellsOf 26 = 3 := by kernel_rfl
theorem c3 : Try.prog.cellsOf 3 = 1 := by kernel_rfl
theorem nm_cells {fuel : Nat} {cs : List Value} {x : DataW H × List MemPlace} (h : DataW.trod enc Try.prog W base sp held fuel 26 cs = some x) : ∃ y : Nm, cs = [.int .i64 y.a, .int .i64 y.b, .int .i64 y.c] := by
  obtain ⟨xs, n, _, _, hl, hxl, hf⟩ := DataW.trod_struct uN h
  rw [cN] at hl
  have hxl : xs.length = 3 := hxl
  match cs, hl with
  | [v0, v1, v2], _ =>
    have e0 := hf 0 _ rfl
    have e1 := hf 1 _ rfl
    have e2 := hf 2 _ rfl
    match xs, hxl with
    | [x0, x1, x2], _ =>
      have e0 : DataW.trod enc Try.prog W base sp held n 3 (List.take (Try.prog.cellsOf 3) (List.drop 0 [v0, v1, v2])) = some x0 := e0
      have e1 : DataW.trod enc Try.prog W base sp held n 3 (List.take (Try.prog.cellsOf 3) (List.drop 1 [v0, v1, v2])) = some x1 := e1
      have e2 : DataW.trod enc Try.prog W base sp held n 3 (List.take (Try.prog.cellsOf 3) (List.drop 2 [v0, v1, v2])) = some x2 := e2
      rw [c3] at e0 e1 e2
      obtain ⟨a, ha, _⟩ := DataW.trod_int u3 e0
      obtain ⟨b, hb, _⟩ := DataW.trod_int u3 e1
      obtain ⟨c, hc, _⟩ := DataW.trod_int u3 e2
      simp at ha hb hc
      subst ha; subst hb; subst hc
      exact ⟨⟨a, b, c⟩, rfl⟩
theorem open_slice {e ts sz fuel b0 : Nat} {r : Reach} {v : Value} {x : DataW H × List MemPlace} (hu : Try.prog.underlying ts = some (.slice e)) (hsz : Try.prog.cellsOf e = sz)
    (hc : Cell.okWide Try.prog W r b0 ts v) (hf : DataW.trod enc Try.prog W base sp held fuel ts [v] = some x) :
    ∃ (p : Option (Nat × Nat)) (n cap : Nat), v = .slice (p.map fun q => ⟨q.1, q.2, none⟩) n cap ∧ n ≤ maxI ∧ (p = none → n = 0) ∧
      ∀ g o, p = some (g, o) → ∀ i, i < n → ∃ (cs : List Value) (fuel' : Nat) (y : DataW H × List MemPlace), cs.length = sz ∧ (∀ q, q < sz → W.cell? ⟨g, o + (i * sz + q), none⟩ = cs[q]?) ∧ DataW.trod enc Try.prog W base sp held fuel' e cs = some y := by
  unfold Cell.okWide at hc
  rw [hu] at hc
  rcases DataW.trod_slice hu hf with ⟨h0, _⟩ | ⟨a, len, cap, elems, rest, n, _, h0, _, hb, hl, hm, hlen, hel, _⟩
  · injection h0 with h0 _
    exact ⟨none, 0, 0, by rw [h0]; rfl, Nat.zero_le _, fun _ => rfl, fun g o h => by cases h⟩
  · injection h0 with h0 _
    subst h0
    simp only [Cell.ok, hu] at hc
    have hsp : a.spot = none := hc.2.2.2.1
    have hadd2 : ∀ m q, (a.add m).add q = ⟨a.block, a.off + (m + q), none⟩ := fun m q => by
      have hadd : ∀ m, a.add m = ⟨a.block, a.off + m, none⟩ := fun m => by
        unfold Addr.add
        split
        · rename_i hm; subst hm; cases a; simp_all
        · rfl
      rw [hadd]
      unfold Addr.add
      split
      · rename_i hq; subst hq; rfl
      · simp [Nat.add_assoc]
    refine ⟨some (a.block, a.off), len, cap, ?_, ?_, (fun h => by cases h), fun g o hgo i hi => ?_⟩
    · cases a; simp_all
    · simp only [maxI]; simp only [maxLen] at hm; omega
    · injection hgo with hgo
      injection hgo with hg ho
      subst hg; subst ho
      have h1 := hel i hi
      obtain ⟨y, hy⟩ : ∃ y, elems[i]? = some y := ⟨elems[i]'(by omega), List.getElem?_eq_getElem _⟩
      rw [hy, Option.bind_eq_some_iff, hsz] at h1
      obtain ⟨cs, hcs, hx⟩ := h1
      obtain ⟨_, h3, h4⟩ := World.cells?_some hcs
      refine ⟨cs, n, y, h3, fun q hq => ?_, hx⟩
      rw [← h4 q hq, hadd2]
theorem u8w {n : Int} (h : (Lit.int .u8 n).wf = true) : 0 ≤ n ∧ n ≤ 255 := by
  simp only [Lit.wf, Bool.and_eq_true, decide_eq_true_eq] at h
  exact h
theorem i8w {n : Int} (h : (Lit.int .i8 n).wf = true) : -128 ≤ n ∧ n ≤ 127 := by
  simp only [Lit.wf, Bool.and_eq_true, decide_eq_true_eq] at h
  exact h
theorem i64w {n : Int} (h : (Lit.int .i64 n).wf = true) : -9223372036854775808 ≤ n ∧ n ≤ 9223372036854775807 := by
  simp only [Lit.wf, Bool.and_eq_true, decide_eq_true_eq] at h
  exact h
theorem uU8 : Try.prog.underlying 5 = some (.int .u8) := by kernel_rfl
theorem uI8 : Try.prog.underlying 24 = some (.int .i8) := by kernel_rfl
theorem uB : Try.prog.underlying 4 = some .bool := by kernel_rfl
theorem uVal : Try.prog.underlying 54 = some (.array 8 5) := by kernel_rfl
theorem uBs : Try.prog.underlying 22 = some (.slice 5) := by kernel_rfl
theorem uWs : Try.prog.underlying 27 = some (.slice 89) := by kernel_rfl
theorem uWr : Try.prog.underlying 89 = some (.struct #[⟨ "Block", 3, 0, false, "", "", 0⟩, ⟨ "Value", 54, 1, false, "", "", 8⟩]) := by kernel_rfl
theorem cU8 : Try.prog.cellsOf 5 = 1 := by kernel_rfl
theorem cI8 : Try.prog.cellsOf 24 = 1 := by kernel_rfl
theorem cB : Try.prog.cellsOf 4 = 1 := by kernel_rfl
theorem cVal : Try.prog.cellsOf 54 = 8 := by kernel_rfl
theorem cWs : Try.prog.cellsOf 27 = 1 := by kernel_rfl
theorem cWr : Try.prog.cellsOf 89 = 9 := by kernel_rfl
theorem one_int {t fuel : Nat} {k : IntKind} {c : Value} {x : DataW H × List MemPlace} (hu : Try.prog.underlying t = some (.int k)) (h : DataW.trod enc Try.prog W base sp held fuel t [c] = some x) : ∃ n, c = .int k n ∧ (Lit.int k n).wf = true := by
  obtain ⟨n, h1, _, h2⟩ := DataW.trod_int hu h
  injection h1 with h1 _
  exact ⟨n, h1, h2⟩
theorem wr_cells {fuel : Nat} {cs : List Value} {x : DataW H × List MemPlace} (h : DataW.trod enc Try.prog W base sp held fuel 89 cs = some x) :
    ∃ y : Wr, cs = [.int .i64 y.b, .int .u8 (y.v 0), .int .u8 (y.v 1), .int .u8 (y.v 2), .int .u8 (y.v 3), .int .u8 (y.v 4), .int .u8 (y.v 5), .int .u8 (y.v 6), .int .u8 (y.v 7)] ∧ ∀ i, i < 8 → 0 ≤ y.v i ∧ y.v i ≤ 255 := by
  obtain ⟨xs, n, _, _, hl, hxl, hf⟩ := DataW.trod_struct uWr h
  rw [cWr] at hl
  have hxl : xs.length = 2 := hxl
  match cs, hl, xs, hxl with
  | [c0, c1, c2, c3, c4, c5, c6, c7, c8], _, [x0, x1], _ =>
    have e0 := hf 0 _ rfl
    have e1 := hf 1 _ rfl
    have e0 : DataW.trod enc Try.prog W base sp held n 3 (List.take (Try.prog.cellsOf 3) (List.drop 0 [c0, c1, c2, c3, c4, c5, c6, c7, c8])) = some x0 := e0
    have e1 : DataW.trod enc Try.prog W base sp held n 54 (List.take (Try.prog.cellsOf 54) (List.drop 1 [c0, c1, c2, c3, c4, c5, c6, c7, c8])) = some x1 := e1
    rw [Go.Proofs.Ytnlammgemaapnaa.c3] at e0
    rw [cVal] at e1
    obtain ⟨b, rfl, _⟩ := one_int u3 e0
    obtain ⟨ys, m, _, _, _, hyl, hg⟩ := DataW.trod_array uVal e1
    rw [cU8] at hg
    match ys, hyl with
    | [y0, y1, y2, y3, y4, y5, y6, y7], _ =>
      have g0 : DataW.trod enc Try.prog W base sp held m 5 [c1] = some y0 := hg 0 (by omega)
      obtain ⟨n0, rfl, r0⟩ := one_int uU8 g0
      have g1 : DataW.trod enc Try.prog W base sp held m 5 [c2] = some y1 := hg 1 (by omega)
      obtain ⟨n1, rfl, r1⟩ := one_int uU8 g1
      have g2 : DataW.trod enc Try.prog W base sp held m 5 [c3] = some y2 := hg 2 (by omega)
      obtain ⟨n2, rfl, r2⟩ := one_int uU8 g2
      have g3 : DataW.trod enc Try.prog W base sp held m 5 [c4] = some y3 := hg 3 (by omega)
      obtain ⟨n3, rfl, r3⟩ := one_int uU8 g3
      have g4 : DataW.trod enc Try.prog W base sp held m 5 [c5] = some y4 := hg 4 (by omega)
      obtain ⟨n4, rfl, r4⟩ := one_int uU8 g4
      have g5 : DataW.trod enc Try.prog W base sp held m 5 [c6] = some y5 := hg 5 (by omega)
      obtain ⟨n5, rfl, r5⟩ := one_int uU8 g5
      have g6 : DataW.trod enc Try.prog W base sp held m 5 [c7] = some y6 := hg 6 (by omega)
      obtain ⟨n6, rfl, r6⟩ := one_int uU8 g6
      have g7 : DataW.trod enc Try.prog W base sp held m 5 [c8] = some y7 := hg 7 (by omega)
      obtain ⟨n7, rfl, r7⟩ := one_int uU8 g7
      refine ⟨⟨b, fun i => match i with | 0 => n0 | 1 => n1 | 2 => n2 | 3 => n3 | 4 => n4 | 5 => n5 | 6 => n6 | _ => n7⟩, rfl, fun i hi => ?_⟩
      match i, hi with
      | 0, _ => exact u8w r0
      | 1, _ => exact u8w r1
      | 2, _ => exact u8w r2
      | 3, _ => exact u8w r3
      | 4, _ => exact u8w r4
      | 5, _ => exact u8w r5
      | 6, _ => exact u8w r6
      | 7, _ => exact u8w r7
theorem uErr : Try.prog.underlying 32 = some (.int .i64) := by kernel_rfl
theorem cErr : Try.prog.cellsOf 32 = 1 := by kernel_rfl
theorem uMsg : Try.prog.underlying 56 = some (.struct #[⟨ "Kind", 24, 0, false, "", "", 0⟩, ⟨ "From", 3, 1, false, "", "", 8⟩, ⟨ "To", 3, 2, false, "", "", 16⟩, ⟨ "Inc", 3, 3, false, "", "", 24⟩, ⟨ "Your", 3, 4, false, "", "", 32⟩, ⟨ "Name", 26, 5, false, "", "", 40⟩, ⟨ "N", 3, 8, false, "", "", 64⟩, ⟨ "Op", 24, 9, false, "", "", 72⟩, ⟨ "Block", 3, 10, false, "", "", 80⟩, ⟨ "Value", 54, 11, false, "", "", 88⟩, ⟨ "E", 32, 19, false, "", "", 96⟩, ⟨ "Yes", 4, 20, false, "", "", 104⟩, ⟨ "Give", 3, 21, false, "", "", 112⟩, ⟨ "Take", 3, 22, false, "", "", 120⟩, ⟨ "Writes", 27, 23, false, "", "", 128⟩]) := by kernel_rfl
theorem cMsg : Try.prog.cellsOf 56 = 24 := by kernel_rfl
theorem tyMsg : Try.prog.cellTypes Try.prog.depth 56 = some [24, 3, 3, 3, 3, 3, 3, 3, 3, 24, 3, 5, 5, 5, 5, 5, 5, 5, 5, 32, 4, 3, 3, 27] := by kernel_rfl
theorem val_cells {fuel : Nat} {cs : List Value} {x : DataW H × List MemPlace} (h : DataW.trod enc Try.prog W base sp held fuel 54 cs = some x) :
    ∃ v : Nat → Int, cs = [.int .u8 (v 0), .int .u8 (v 1), .int .u8 (v 2), .int .u8 (v 3), .int .u8 (v 4), .int .u8 (v 5), .int .u8 (v 6), .int .u8 (v 7)] ∧ ∀ i, i < 8 → 0 ≤ v i ∧ v i ≤ 255 := by
  obtain ⟨ys, m, _, _, hl, hyl, hg⟩ := DataW.trod_array uVal h
  rw [cVal] at hl
  rw [cU8] at hg
  match cs, hl, ys, hyl with
  | [c1, c2, c3, c4, c5, c6, c7, c8], _, [y0, y1, y2, y3, y4, y5, y6, y7], _ =>
    have g0 : DataW.trod enc Try.prog W base sp held m 5 [c1] = some y0 := hg 0 (by omega)
    obtain ⟨n0, rfl, r0⟩ := one_int uU8 g0
    have g1 : DataW.trod enc Try.prog W base sp held m 5 [c2] = some y1 := hg 1 (by omega)
    obtain ⟨n1, rfl, r1⟩ := one_int uU8 g1
    have g2 : DataW.trod enc Try.prog W base sp held m 5 [c3] = some y2 := hg 2 (by omega)
    obtain ⟨n2, rfl, r2⟩ := one_int uU8 g2
    have g3 : DataW.trod enc Try.prog W base sp held m 5 [c4] = some y3 := hg 3 (by omega)
    obtain ⟨n3, rfl, r3⟩ := one_int uU8 g3
    have g4 : DataW.trod enc Try.prog W base sp held m 5 [c5] = some y4 := hg 4 (by omega)
    obtain ⟨n4, rfl, r4⟩ := one_int uU8 g4
    have g5 : DataW.trod enc Try.prog W base sp held m 5 [c6] = some y5 := hg 5 (by omega)
    obtain ⟨n5, rfl, r5⟩ := one_int uU8 g5
    have g6 : DataW.trod enc Try.prog W base sp held m 5 [c7] = some y6 := hg 6 (by omega)
    obtain ⟨n6, rfl, r6⟩ := one_int uU8 g6
    have g7 : DataW.trod enc Try.prog W base sp held m 5 [c8] = some y7 := hg 7 (by omega)
    obtain ⟨n7, rfl, r7⟩ := one_int uU8 g7
    refine ⟨fun i => match i with | 0 => n0 | 1 => n1 | 2 => n2 | 3 => n3 | 4 => n4 | 5 => n5 | 6 => n6 | _ => n7, rfl, fun i hi => ?_⟩
    match i, hi with
    | 0, _ => exact u8w r0
    | 1, _ => exact u8w r1
    | 2, _ => exact u8w r2
    | 3, _ => exact u8w r3
    | 4, _ => exact u8w r4
    | 5, _ => exact u8w r5
    | 6, _ => exact u8w r6
    | 7, _ => exact u8w r7
set_option maxHeartbeats 2000000 in
theorem msg_cells {fuel b0 : Nat} {r0 : Reach} {cs : List Value} {x : DataW H × List MemPlace} (h : DataW.trod enc Try.prog W base sp held fuel 56 cs = some x) (hc : ∀ v, cs[23]? = some v → Cell.okWide Try.prog W r0 b0 27 v) :
    ∃ (m : Msg) (cw : Nat) (p : Option (Nat × Nat)), (∀ (β : Val) (id : Nat), β id = p → cs = denL β (msC m (.slice id m.n cw))) ∧
      (-128 ≤ m.k ∧ m.k ≤ 127) ∧ (-128 ≤ m.op ∧ m.op ≤ 127) ∧ MsgW m ∧ LiesM W p m := by
  obtain ⟨xs, n, _, _, hl, hxl, hf⟩ := DataW.trod_struct uMsg h
  rw [cMsg] at hl
  have hxl : xs.length = 15 := hxl
  match cs, hl, xs, hxl with
  | [c0, c1, c2, c3, c4, c5, c6, c7, c8, c9, c10, c11, c12, c13, c14, c15, c16, c17, c18, c19, c20, c21, c22, c23], _, [x0, x1, x2, x3, x4, x5, x6, x7, x8, x9, x10, x11, x12, x13, x14], _ =>
    have e0 : DataW.trod enc Try.prog W base sp held n 24 (List.take (Try.prog.cellsOf 24) (List.drop 0 [c0, c1, c2, c3, c4, c5, c6, c7, c8, c9, c10, c11, c12, c13, c14, c15, c16, c17, c18, c19, c20, c21, c22, c23])) = some x0 := hf 0 _ rfl
    rw [cI8] at e0
    have e1 : DataW.trod enc Try.prog W base sp held n 3 (List.take (Try.prog.cellsOf 3) (List.drop 1 [c0, c1, c2, c3, c4, c5, c6, c7, c8, c9, c10, c11, c12, c13, c14, c15, c16, c17, c18, c19, c20, c21, c22, c23])) = some x1 := hf 1 _ rfl
    rw [Go.Proofs.Ytnlammgemaapnaa.c3] at e1
    have e2 : DataW.trod enc Try.prog W base sp held n 3 (List.take (Try.prog.cellsOf 3) (List.drop 2 [c0, c1, c2, c3, c4, c5, c6, c7, c8, c9, c10, c11, c12, c13, c14, c15, c16, c17, c18, c19, c20, c21, c22, c23])) = some x2 := hf 2 _ rfl
    rw [Go.Proofs.Ytnlammgemaapnaa.c3] at e2
    have e3 : DataW.trod enc Try.prog W base sp held n 3 (List.take (Try.prog.cellsOf 3) (List.drop 3 [c0, c1, c2, c3, c4, c5, c6, c7, c8, c9, c10, c11, c12, c13, c14, c15, c16, c17, c18, c19, c20, c21, c22, c23])) = some x3 := hf 3 _ rfl
    rw [Go.Proofs.Ytnlammgemaapnaa.c3] at e3
    have e4 : DataW.trod enc Try.prog W base sp held n 3 (List.take (Try.prog.cellsOf 3) (List.drop 4 [c0, c1, c2, c3, c4, c5, c6, c7, c8, c9, c10, c11, c12, c13, c14, c15, c16, c17, c18, c19, c20, c21, c22, c23])) = some x4 := hf 4 _ rfl
    rw [Go.Proofs.Ytnlammgemaapnaa.c3] at e4
    have e5 : DataW.trod enc Try.prog W base sp held n 26 (List.take (Try.prog.cellsOf 26) (List.drop 5 [c0, c1, c2, c3, c4, c5, c6, c7, c8, c9, c10, c11, c12, c13, c14, c15, c16, c17, c18, c19, c20, c21, c22, c23])) = some x5 := hf 5 _ rfl
    rw [cN] at e5
    have e6 : DataW.trod enc Try.prog W base sp held n 3 (List.take (Try.prog.cellsOf 3) (List.drop 8 [c0, c1, c2, c3, c4, c5, c6, c7, c8, c9, c10, c11, c12, c13, c14, c15, c16, c17, c18, c19, c20, c21, c22, c23])) = some x6 := hf 6 _ rfl
    rw [Go.Proofs.Ytnlammgemaapnaa.c3] at e6
    have e7 : DataW.trod enc Try.prog W base sp held n 24 (List.take (Try.prog.cellsOf 24) (List.drop 9 [c0, c1, c2, c3, c4, c5, c6, c7, c8, c9, c10, c11, c12, c13, c14, c15, c16, c17, c18, c19, c20, c21, c22, c23])) = some x7 := hf 7 _ rfl
    rw [cI8] at e7
    have e8 : DataW.trod enc Try.prog W base sp held n 3 (List.take (Try.prog.cellsOf 3) (List.drop 10 [c0, c1, c2, c3, c4, c5, c6, c7, c8, c9, c10, c11, c12, c13, c14, c15, c16, c17, c18, c19, c20, c21, c22, c23])) = some x8 := hf 8 _ rfl
    rw [Go.Proofs.Ytnlammgemaapnaa.c3] at e8
    have e9 : DataW.trod enc Try.prog W base sp held n 54 (List.take (Try.prog.cellsOf 54) (List.drop 11 [c0, c1, c2, c3, c4, c5, c6, c7, c8, c9, c10, c11, c12, c13, c14, c15, c16, c17, c18, c19, c20, c21, c22, c23])) = some x9 := hf 9 _ rfl
    rw [cVal] at e9
    have e10 : DataW.trod enc Try.prog W base sp held n 32 (List.take (Try.prog.cellsOf 32) (List.drop 19 [c0, c1, c2, c3, c4, c5, c6, c7, c8, c9, c10, c11, c12, c13, c14, c15, c16, c17, c18, c19, c20, c21, c22, c23])) = some x10 := hf 10 _ rfl
    rw [cErr] at e10
    have e11 : DataW.trod enc Try.prog W base sp held n 4 (List.take (Try.prog.cellsOf 4) (List.drop 20 [c0, c1, c2, c3, c4, c5, c6, c7, c8, c9, c10, c11, c12, c13, c14, c15, c16, c17, c18, c19, c20, c21, c22, c23])) = some x11 := hf 11 _ rfl
    rw [cB] at e11
    have e12 : DataW.trod enc Try.prog W base sp held n 3 (List.take (Try.prog.cellsOf 3) (List.drop 21 [c0, c1, c2, c3, c4, c5, c6, c7, c8, c9, c10, c11, c12, c13, c14, c15, c16, c17, c18, c19, c20, c21, c22, c23])) = some x12 := hf 12 _ rfl
    rw [Go.Proofs.Ytnlammgemaapnaa.c3] at e12
    have e13 : DataW.trod enc Try.prog W base sp held n 3 (List.take (Try.prog.cellsOf 3) (List.drop 22 [c0, c1, c2, c3, c4, c5, c6, c7, c8, c9, c10, c11, c12, c13, c14, c15, c16, c17, c18, c19, c20, c21, c22, c23])) = some x13 := hf 13 _ rfl
    rw [Go.Proofs.Ytnlammgemaapnaa.c3] at e13
    have e14 : DataW.trod enc Try.prog W base sp held n 27 (List.take (Try.prog.cellsOf 27) (List.drop 23 [c0, c1, c2, c3, c4, c5, c6, c7, c8, c9, c10, c11, c12, c13, c14, c15, c16, c17, c18, c19, c20, c21, c22, c23])) = some x14 := hf 14 _ rfl
    rw [cWs] at e14
    obtain ⟨k, rfl, h_k⟩ := one_int uI8 e0
    obtain ⟨fr, rfl, h_fr⟩ := one_int u3 e1
    obtain ⟨to_, rfl, h_to_⟩ := one_int u3 e2
    obtain ⟨inc, rfl, h_inc⟩ := one_int u3 e3
    obtain ⟨your, rfl, h_your⟩ := one_int u3 e4
    obtain ⟨nm, hnm⟩ := nm_cells e5
    have hnm : [c5, c6, c7] = [Value.int .i64 nm.a, .int .i64 nm.b, .int .i64 nm.c] := hnm
    injection hnm with h1 hnm
    injection hnm with h2 hnm
    injection hnm with h3 _
    subst h1; subst h2; subst h3
    obtain ⟨num, rfl, h_num⟩ := one_int u3 e6
    obtain ⟨op, rfl, h_op⟩ := one_int uI8 e7
    obtain ⟨blk, rfl, h_blk⟩ := one_int u3 e8
    obtain ⟨v, hv, hvb⟩ := val_cells e9
    have hv : [c11, c12, c13, c14, c15, c16, c17, c18] = [Value.int .u8 (v 0), Value.int .u8 (v 1), Value.int .u8 (v 2), Value.int .u8 (v 3), Value.int .u8 (v 4), Value.int .u8 (v 5), Value.int .u8 (v 6), Value.int .u8 (v 7)] := hv
    injection hv with q0 hv
    injection hv with q1 hv
    injection hv with q2 hv
    injection hv with q3 hv
    injection hv with q4 hv
    injection hv with q5 hv
    injection hv with q6 hv
    injection hv with q7 hv
    subst q0; subst q1; subst q2; subst q3; subst q4; subst q5; subst q6; subst q7
    obtain ⟨e, rfl, h_e⟩ := one_int uErr e10
    obtain ⟨yes, hyes, _⟩ := DataW.trod_bool uB e11
    have hyes : [c20] = [Value.bool yes] := hyes
    injection hyes with h4 _
    subst h4
    obtain ⟨give, rfl, h_give⟩ := one_int u3 e12
    obtain ⟨take, rfl, h_take⟩ := one_int u3 e13
    obtain ⟨p, m, cw, rfl, hm, hp, hel⟩ := open_slice uWs cWr (hc c23 rfl) e14
    have each : ∀ i, i < m → ∃ y : Wr, (∀ i, i < 8 → 0 ≤ y.v i ∧ y.v i ≤ 255) ∧ ∀ g o, p = some (g, o) → ∀ q u, (wrC y)[q]? = some u → W.cell? ⟨g, o + (i * 9 + q), none⟩ = some (den noV u) := fun i hi => by
      match p, hp, hel with
      | none, hp, _ => have := hp rfl; omega
      | some (g, o), _, hel =>
        obtain ⟨cs, f', y, hcl, hcell, hy⟩ := hel g o rfl i hi
        obtain ⟨w, rfl, hw⟩ := wr_cells hy
        refine ⟨w, hw, fun g' o' he q u hu => ?_⟩
        injection he with he
        injection he with hg ho
        subst hg; subst ho
        have hq : q < 9 := (List.getElem?_eq_some_iff.1 hu).1
        rw [hcell q hq]
        match q, hq with
        | 0, _ => injection hu with hu; subst hu; rfl
        | 1, _ => injection hu with hu; subst hu; rfl
        | 2, _ => injection hu with hu; subst hu; rfl
        | 3, _ => injection hu with hu; subst hu; rfl
        | 4, _ => injection hu with hu; subst hu; rfl
        | 5, _ => injection hu with hu; subst hu; rfl
        | 6, _ => injection hu with hu; subst hu; rfl
        | 7, _ => injection hu with hu; subst hu; rfl
        | 8, _ => injection hu with hu; subst hu; rfl
    refine ⟨⟨k, fr, to_, inc, your, nm, num, op, blk, v, e, yes, give, take, m, fun i => if h : i < m then (each i h).choose else ⟨0, fun _ => 0⟩⟩, cw, p, fun β id hβ => ?_, i8w h_k, i8w h_op, ⟨hvb, fun j hj i hi => ?_⟩, hm, hp, fun g o hgo j hj i u hu => ?_⟩
    · simp only [msC, denL, den, adr, hβ, Nat.add_zero]
    · have hj : j < m := hj
      simp only [dif_pos hj]
      exact (each j hj).choose_spec.1 i hi
    · have hj : j < m := hj
      simp only [dif_pos hj] at hu
      exact (each j hj).choose_spec.2 g o hgo i u hu
theorem open_msg {r0 : Reach} {b0 : Nat} {v : Value} {d : DataW H} {ps : List MemPlace} (hval : Value.okWide Try.prog W r0 b0 56 v) (hd : DataW.Trod enc Try.prog W base sp held 56 v d ps) :
    ∃ (m : Msg) (cw : Nat) (p : Option (Nat × Nat)), (∀ (β : Val) (id : Nat), β id = p → v = den β (.agg (msC m (.slice id m.n cw)))) ∧ (-128 ≤ m.k ∧ m.k ≤ 127) ∧ (-128 ≤ m.op ∧ m.op ≤ 127) ∧ MsgW m ∧ LiesM W p m := by
  unfold Value.okWide at hval
  rw [uMsg] at hval
  obtain ⟨cs, rfl, _, ts, hts, _, hrow⟩ := hval
  obtain ⟨fuel, hf⟩ := hd
  rw [tyMsg] at hts
  injection hts with hts
  subst hts
  obtain ⟨m, cw, p, hcs, hk, ho, hw, hm⟩ := msg_cells hf (fun v hv => by
    have hv : cs[23]? = some v := by
      have := hv
      simpa [Value.cells] using this
    obtain ⟨u, hu, hc⟩ := hrow 23 v hv
    have hu : u = 27 := by
      have : some 27 = some u := hu
      injection this with this
      exact this.symm
    subst hu
    exact hc)
  refine ⟨m, cw, p, fun β id hβ => ?_, hk, ho, hw, hm⟩
  have : cs = (denL β (msC m (.slice id m.n cw))).toArray := Array.ext' (by
    have e : (Value.agg cs).cells.toList = cs.toList := rfl
    rw [← e, hcs β id hβ])
  rw [this]; rfl
end
theorem den0 (β : Val) (u : VV) (h : bd 0 u) : den β u = den noV u := den_congr (n := 0) (fun i hi => by omega) u h
theorem wrC_ok (β : Val) (n : Nat) (x : Wr) : gdL β n (wrC x) := ⟨by simp [wrC, bdL, bd], by simp [wrC, okL, okV]⟩
theorem rep_m (β : Val) (n id : Nat) (W : World) (p : Option (Nat × Nat)) (hβ : β id = p) (r : Msg) (h : LiesM W p r) : BlkRep n β W id (.row 9 r.n fun j => wrC (r.w j)) := by
  obtain ⟨h1, h2, h3⟩ := h
  refine ⟨h1, fun j hj => ⟨rfl, wrC_ok _ _ _, by simp [wrC, oneV]⟩, fun h0 _ => ?_⟩
  match p, hβ, h2, h3 with
  | none, _, h2, _ => have := h2 rfl; omega
  | some (g, o), hβ, _, h3 =>
    refine ⟨g, o, hβ, fun j hj i u hu => ?_⟩
    rw [h3 g o rfl j hj i u hu, den0 β u (gd_mem (wrC_ok β 0 (r.w j)) hu).1]
def valM (p : Option (Nat × Nat)) : Val := ⟨fun i => match i with | 0 => p | _ => none, fun _ => none⟩
theorem repM (W : World) (p : Option (Nat × Nat)) (r : Msg) (h : LiesM W p r) : RepH (valM p) [.row 9 r.n fun j => wrC (r.w j)] W := by
  refine ⟨fun i b hi => ?_, fun i j b c hi hj hij hbo => ?_, (fun k b hb => by cases hb), fun i b hi hbo => ?_⟩
  · match i, hi with
    | 0, hi => injection hi with hi; subst hi; exact rep_m _ _ _ _ _ rfl r h
    | i + 1, hi => simp at hi
  · match i, hi with
    | 0, hi => injection hi with hi; subst hi; cases hbo
    | i + 1, hi => simp at hi
  · match i, hi with
    | 0, hi => injection hi with hi; subst hi; cases hbo
    | i + 1, hi => simp at hi
end Go.Proofs.Ytnlammgemaapnaa
