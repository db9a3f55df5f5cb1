/- Layer 7: the writer. -/
import Derived.Test.YtnlammgemaapnaaRA
set_option linter.unusedSimpArgs false
set_option linter.unusedVariables false
set_option maxRecDepth 100000
namespace Go.Proofs.Ytnlammgemaapnaa
open Go Go.Sx
/-- A block that is written. -/
structure Wr where
  b : Int
  v : Nat → Int
def vC (v : Nat → Int) : List VV := [.int .u8 (v 0), .int .u8 (v 1), .int .u8 (v 2), .int .u8 (v 3), .int .u8 (v 4), .int .u8 (v 5), .int .u8 (v 6), .int .u8 (v 7)]
def vL (v : Nat → Int) : List Int := [v 0, v 1, v 2, v 3, v 4, v 5, v 6, v 7]
def wrC (x : Wr) : List VV := [.int .i64 x.b, .int .u8 (x.v 0), .int .u8 (x.v 1), .int .u8 (x.v 2), .int .u8 (x.v 3), .int .u8 (x.v 4), .int .u8 (x.v 5), .int .u8 (x.v 6), .int .u8 (x.v 7)]
/-- A byte of a row of bytes; a number of a row of numbers. -/
def bE (L : List Int) (j : Nat) : List VV := [.int .u8 (L.getD j 0)]
def u8 (x : Int) : Int := IntKind.u8.wrap x
def u8s (f : Nat → Int) (k : Nat) : List Int := (List.range k).map fun j => u8 (f j)
theorem u8s_length (f : Nat → Int) (k : Nat) : (u8s f k).length = k := by simp [u8s]
theorem u8s_succ (f : Nat → Int) (k : Nat) : u8s f (k + 1) = u8s f k ++ [u8 (f k)] := by simp [u8s, List.range_succ]
theorem bE_app (L M : List Int) (j : Nat) : elApp L.length (bE L) (bE M) j = bE (L ++ M) j := by
  unfold elApp bE
  by_cases h : j < L.length
  · simp [h, List.getElem?_append_left h]
  · have h' : L.length ≤ j := by omega
    simp [h, List.getElem?_append_right h']
theorem bE_one (L : List Int) (x : Int) (j : Nat) (hj : j < L.length + 1) : elApp L.length (bE L) (chunk 1 [.int .u8 x]) j = bE (L ++ [x]) j := by
  rw [← bE_app]
  unfold elApp
  by_cases h : j < L.length
  · simp [h]
  · have : j - L.length = 0 := by omega
    simp [h, this, chunk, seg, bE]
theorem VLeL_bE {r : List (Option Nat)} {L : List Int} {j : Nat} : VLeL r (bE L j) (bE L j) = True := by simp [bE, VLeL, VLe]
theorem bdL_bE {n : Nat} {L : List Int} {j : Nat} : bdL n (bE L j) = True := by simp [bE, bdL, bd]
theorem nth_bE {L : List Int} {j : Nat} : nth (bE L j) 0 = some (.int .u8 (L.getD j 0)) := rfl
theorem length_bE {L : List Int} {j : Nat} : (bE L j).length = 1 := rfl
theorem isByte_bE {L : List Int} {j : Nat} : isByte (bE L j) = true := rfl
theorem renL_bE {ρ : Nat → Nat} {L : List Int} {j : Nat} : renL ρ (bE L j) = bE L j := rfl
theorem one_bE {L : List Int} {j : Nat} : (bE L j).all oneV = true := rfl
theorem rBE : (∀ {r : List (Option Nat)} {L : List Int} {j : Nat}, VLeL r (bE L j) (bE L j) = True) ∧ (∀ {n : Nat} {L : List Int} {j : Nat}, bdL n (bE L j) = True) ∧ (∀ {L : List Int} {j : Nat}, nth (bE L j) 0 = some (.int .u8 (L.getD j 0))) ∧ (∀ {L : List Int} {j : Nat}, (bE L j).length = 1) ∧ (∀ {L : List Int} {j : Nat}, isByte (bE L j) = true) ∧ (∀ {ρ : Nat → Nat} {L : List Int} {j : Nat}, renL ρ (bE L j) = bE L j) ∧ (∀ {L : List Int} {j : Nat}, (bE L j).all oneV = true) := ⟨VLeL_bE, bdL_bE, nth_bE, length_bE, isByte_bE, renL_bE, one_bE⟩
def wr (b n cap : Nat) : Blk := .cells true 139 [.slice b n cap]
def ow (L : List Int) (cap : Nat) : Blk := .own 5 1 L.length cap (bE L)
theorem bytes_ok (L : List Int) (cap k kc : Nat) (f : Nat → Int) (hL : L.length + k ≤ 100000) :
    VCall Try.prog 114 [.ptr 0 0 0 0, .slice 2 k kc] [wr 1 L.length cap, ow L cap, .row 1 k fun j => [.int .i64 (f j)]] fun v h =>
      ∃ cap', v = .tup [] ∧ h = [wr 3 (L ++ u8s f k).length cap', .gone, .row 1 k fun j => [.int .i64 (f j)], ow (L ++ u8s f k) cap'] := by
  unfold wr ow
  refine VCall.trim 4 (Nat.le_of_ble_eq_true rfl) ?_
  refine wbody Try.func114 rfl (by kernel_rfl) ?_
  rw [Try.ntmps114, Try.results114]
  simp (implicitDefEqProofs := false) (maxSteps := 1000000) only [rX1, bd, bdL, bdB, bdH, bdT, front, VLe, VLeL, BLe, Phan, TLe, HLe, ro, Blk.owned, CLe, rr, given, mrg, exct, shr, ren, renL, renB, Nat.reduceBEq, Nat.reduceBNe, rX0, ofVal, ofVals, cellsV, vStore.isTup, eqL, eqV, Blk.deg, oneV, elApp, Nat.reduceAdd, Nat.reduceSub, Nat.reduceMul, Nat.reduceLT, Nat.reduceLeDiff, Nat.reduceEqDiff, Int.reduceToNat, Int.reduceGT, Int.reduceGE, Int.reduceMul, Int.reduceLT, Int.reduceLE, Int.reduceAdd, Int.reduceSub, Int.reduceNeg, reduceCtorEq, Sf.T3, Sf.T4, Sf.T26, Sf.T141, Sf.T5, Sf.T22, Sf.T27, Sf.T89, Sf.T54, Sf.T139, Sf.T162, nmC, nmV, rBE, wr, ow, wrC]
  refine wloop (fun s : Nat × Nat => ⟨[some (.ptr 0 0 0 0), some (.slice 2 k kc), none, none, none, none, some (.slice 2 k kc), some (.int .i64 k), some (.int .i64 s.1), none, none, none, none, none, none, none, none, none, none, none, none, none, none, none], [.cells true 139 [.slice 3 (L ++ u8s f s.1).length s.2], .gone, .row 1 k fun j => [.int .i64 (f j)], .own 5 1 (L ++ u8s f s.1).length s.2 (bE (L ++ u8s f s.1))]⟩) (fun s => s.1 ≤ k) (fun s => k - s.1) (0, cap) (Nat.zero_le _) ?_ ?_
  · simp only [u8s, List.range_zero, List.map_nil, List.append_nil]
    refine Le.off [some 0, some 1, some 2, some 1] (by rfl) (by rfl) (by simp only [rX2, bd, bdL, bdB, bdH, bdT, front, VLe, VLeL, BLe, Phan, TLe, HLe, ro, Blk.owned, CLe, rr, given, mrg, exct, shr, ren, renL, renB, Nat.reduceAdd, Nat.reduceSub, Nat.reduceLT, Nat.reduceLeDiff, Nat.reduceEqDiff, Nat.reduceBEq, Nat.reduceBNe, reduceCtorEq, nmC, nmV, rBE, wr, ow, wrC])
  rintro ⟨i, c⟩ hi
  simp only [] at hi ⊢
  have hw := wrapS i (by omega)
  simp (implicitDefEqProofs := false) (maxSteps := 1000000) only [rX2, bd, bdL, bdB, bdH, bdT, front, VLe, VLeL, BLe, Phan, TLe, HLe, ro, Blk.owned, CLe, rr, given, mrg, exct, shr, ren, renL, renB, Nat.reduceAdd, Nat.reduceSub, Nat.reduceLT, Nat.reduceLeDiff, Nat.reduceEqDiff, Nat.reduceBEq, Nat.reduceBNe, reduceCtorEq, nmC, nmV, rBE, wr, ow, wrC, rX0, ofVal, ofVals, cellsV, vStore.isTup, eqL, eqV, Blk.deg, oneV, elApp, Nat.reduceAdd, Nat.reduceSub, Nat.reduceMul, Nat.reduceLT, Nat.reduceLeDiff, Nat.reduceEqDiff, Int.reduceToNat, Int.reduceGT, Int.reduceGE, Int.reduceMul, Int.reduceLT, Int.reduceLE, Int.reduceAdd, Int.reduceSub, Int.reduceNeg, reduceCtorEq, Sf.T3, Sf.T4, Sf.T26, Sf.T141, Sf.T5, Sf.T22, Sf.T27, Sf.T89, Sf.T54, Sf.T139, Sf.T162, nmC, nmV, rBE, wr, ow, wrC]
  have hlen : (L ++ u8s f i).length = L.length + i := by simp [u8s_length]
  have hsucc : (L ++ u8s f (i + 1)).length = (L ++ u8s f i).length + 1 := by simp [u8s_length]; omega
  have key : ∀ j, j < (L ++ u8s f i).length + 1 → elApp (L ++ u8s f i).length (bE (L ++ u8s f i)) (chunk 1 [.int .u8 (IntKind.u8.wrap (f i))]) j = bE (L ++ u8s f (i + 1)) j := fun j hj => by
    rw [u8s_succ, ← List.append_assoc]; exact bE_one _ _ j hj
  refine ⟨fun hlt => ⟨hlt, hlt, hlt, ⟨by omega, by simp only [maxI]; omega⟩, fun cap' _ _ => ⟨(i + 1, cap'), by omega, by simp only []; omega, ?_⟩⟩, fun hge => ?_⟩
  · simp only [hw, hsucc]
    refine Le.off [some 0, some 1, some 2, some 5] (by rfl) (by rfl) (by simp only [rX2, bd, bdL, bdB, bdH, bdT, front, VLe, VLeL, BLe, Phan, TLe, HLe, ro, Blk.owned, CLe, rr, given, mrg, exct, shr, ren, renL, renB, Nat.reduceAdd, Nat.reduceSub, Nat.reduceLT, Nat.reduceLeDiff, Nat.reduceEqDiff, Nat.reduceBEq, Nat.reduceBNe, reduceCtorEq, nmC, nmV, rBE, wr, ow, wrC]; intro j hj; rw [key j hj]; simp only [rX2, bd, bdL, bdB, bdH, bdT, front, VLe, VLeL, BLe, Phan, TLe, HLe, ro, Blk.owned, CLe, rr, given, mrg, exct, shr, ren, renL, renB, Nat.reduceAdd, Nat.reduceSub, Nat.reduceLT, Nat.reduceLeDiff, Nat.reduceEqDiff, Nat.reduceBEq, Nat.reduceBNe, reduceCtorEq, nmC, nmV, rBE, wr, ow, wrC])
  · have e : k = i := by omega
    subst e
    exact ⟨c, rfl⟩
/-- A number's three bytes. -/
def b3 (n : Int) : List Int := [u8 n, u8 (shrI .i64 n 8), u8 (shrI .i64 n 16)]
theorem b3_eq (n : Int) : u8s (three n (shrI .i64 n 8) (shrI .i64 n 16)) 3 = b3 n := rfl
theorem b3_length (n : Int) : (b3 n).length = 3 := rfl
theorem wthree_ok (L : List Int) (cap : Nat) (n : Int) (hL : L.length + 3 ≤ 100000) :
    VCall Try.prog 98 [.ptr 0 0 0 0, .int .i64 n] [wr 1 L.length cap, ow L cap] fun v h => ∃ cap', v = .tup [] ∧ h = [wr 2 (L ++ b3 n).length cap', .gone, ow (L ++ b3 n) cap'] := by
  unfold wr ow
  refine VC.out ?_
  refine wbody Try.func98 rfl (by kernel_rfl) ?_
  rw [Try.ntmps98, Try.results98]
  simp (implicitDefEqProofs := false) (maxSteps := 1000000) only [rX1, bd, bdL, bdB, bdH, bdT, front, VLe, VLeL, BLe, Phan, TLe, HLe, ro, Blk.owned, CLe, rr, given, mrg, exct, shr, ren, renL, renB, Nat.reduceBEq, Nat.reduceBNe, rX0, ofVal, ofVals, cellsV, vStore.isTup, eqL, eqV, Blk.deg, oneV, elApp, Nat.reduceAdd, Nat.reduceSub, Nat.reduceMul, Nat.reduceLT, Nat.reduceLeDiff, Nat.reduceEqDiff, Int.reduceToNat, Int.reduceGT, Int.reduceGE, Int.reduceMul, Int.reduceLT, Int.reduceLE, Int.reduceAdd, Int.reduceSub, Int.reduceNeg, reduceCtorEq, Sf.T3, Sf.T4, Sf.T26, Sf.T141, Sf.T5, Sf.T22, Sf.T27, Sf.T89, Sf.T54, Sf.T139, Sf.T162, nmC, nmV, rBE, wr, ow, wrC]
  refine vframe (bytes_ok L cap 3 3 (three n (shrI .i64 n 8) (shrI .i64 n 16)) (by omega)) [0, 1, 2] (by rfl) (by simp only [rX2, bd, bdL, bdB, bdH, bdT, front, VLe, VLeL, BLe, Phan, TLe, HLe, ro, Blk.owned, CLe, rr, given, mrg, exct, shr, ren, renL, renB, Nat.reduceAdd, Nat.reduceSub, Nat.reduceLT, Nat.reduceLeDiff, Nat.reduceEqDiff, Nat.reduceBEq, Nat.reduceBNe, reduceCtorEq, nmC, nmV, rBE, wr, ow, wrC]; exact fun j hj => three_chunk _ _ _ j hj) ?_
  rintro v h ⟨c, rfl, rfl⟩ -
  simp (implicitDefEqProofs := false) (maxSteps := 1000000) only [rX2, bd, bdL, bdB, bdH, bdT, front, VLe, VLeL, BLe, Phan, TLe, HLe, ro, Blk.owned, CLe, rr, given, mrg, exct, shr, ren, renL, renB, Nat.reduceAdd, Nat.reduceSub, Nat.reduceLT, Nat.reduceLeDiff, Nat.reduceEqDiff, Nat.reduceBEq, Nat.reduceBNe, reduceCtorEq, nmC, nmV, rBE, wr, ow, wrC, rX0, ofVal, ofVals, cellsV, vStore.isTup, eqL, eqV, Blk.deg, oneV, elApp, Nat.reduceAdd, Nat.reduceSub, Nat.reduceMul, Nat.reduceLT, Nat.reduceLeDiff, Nat.reduceEqDiff, Int.reduceToNat, Int.reduceGT, Int.reduceGE, Int.reduceMul, Int.reduceLT, Int.reduceLE, Int.reduceAdd, Int.reduceSub, Int.reduceNeg, reduceCtorEq, Sf.T3, Sf.T4, Sf.T26, Sf.T141, Sf.T5, Sf.T22, Sf.T27, Sf.T89, Sf.T54, Sf.T139, Sf.T162, nmC, nmV, rBE, wr, ow, wrC]
  simp only [b3_eq]
  exact ⟨_, _, Le.off [some 0, some 1, some 3] (by rfl) (by rfl) (by simp only [rX2, bd, bdL, bdB, bdH, bdT, front, VLe, VLeL, BLe, Phan, TLe, HLe, ro, Blk.owned, CLe, rr, given, mrg, exct, shr, ren, renL, renB, Nat.reduceAdd, Nat.reduceSub, Nat.reduceLT, Nat.reduceLeDiff, Nat.reduceEqDiff, Nat.reduceBEq, Nat.reduceBNe, reduceCtorEq, nmC, nmV, rBE, wr, ow, wrC]), c, rfl, rfl⟩
/-- A name's bytes. -/
def nB (x : Nm) : List Int := b3 x.a ++ (b3 x.b ++ b3 x.c)
theorem nB_length (x : Nm) : (nB x).length = 9 := rfl
theorem wname_ok (L : List Int) (cap : Nat) (x : Nm) (hL : L.length + 9 ≤ 100000) :
    VCall Try.prog 104 [.ptr 0 0 0 0, nmV x] [wr 1 L.length cap, ow L cap] fun v h => ∃ cap', v = .tup [] ∧ h = [wr 2 (L ++ nB x).length cap', .gone, ow (L ++ nB x) cap'] := by
  unfold wr ow
  refine VC.out ?_
  refine wbody Try.func104 rfl (by kernel_rfl) ?_
  rw [Try.ntmps104, Try.results104]
  simp (implicitDefEqProofs := false) (maxSteps := 1000000) only [rX1, bd, bdL, bdB, bdH, bdT, front, VLe, VLeL, BLe, Phan, TLe, HLe, ro, Blk.owned, CLe, rr, given, mrg, exct, shr, ren, renL, renB, Nat.reduceBEq, Nat.reduceBNe, rX0, ofVal, ofVals, cellsV, vStore.isTup, eqL, eqV, Blk.deg, oneV, elApp, Nat.reduceAdd, Nat.reduceSub, Nat.reduceMul, Nat.reduceLT, Nat.reduceLeDiff, Nat.reduceEqDiff, Int.reduceToNat, Int.reduceGT, Int.reduceGE, Int.reduceMul, Int.reduceLT, Int.reduceLE, Int.reduceAdd, Int.reduceSub, Int.reduceNeg, reduceCtorEq, Sf.T3, Sf.T4, Sf.T26, Sf.T141, Sf.T5, Sf.T22, Sf.T27, Sf.T89, Sf.T54, Sf.T139, Sf.T162, nmC, nmV, rBE, wr, ow, wrC]
  refine vrounds 4 ?_
  simp (implicitDefEqProofs := false) (maxSteps := 1000000) only [rX2, bd, bdL, bdB, bdH, bdT, front, VLe, VLeL, BLe, Phan, TLe, HLe, ro, Blk.owned, CLe, rr, given, mrg, exct, shr, ren, renL, renB, Nat.reduceAdd, Nat.reduceSub, Nat.reduceLT, Nat.reduceLeDiff, Nat.reduceEqDiff, Nat.reduceBEq, Nat.reduceBNe, reduceCtorEq, nmC, nmV, rBE, wr, ow, wrC, rX0, ofVal, ofVals, cellsV, vStore.isTup, eqL, eqV, Blk.deg, oneV, elApp, Nat.reduceAdd, Nat.reduceSub, Nat.reduceMul, Nat.reduceLT, Nat.reduceLeDiff, Nat.reduceEqDiff, Int.reduceToNat, Int.reduceGT, Int.reduceGE, Int.reduceMul, Int.reduceLT, Int.reduceLE, Int.reduceAdd, Int.reduceSub, Int.reduceNeg, reduceCtorEq, Sf.T3, Sf.T4, Sf.T26, Sf.T141, Sf.T5, Sf.T22, Sf.T27, Sf.T89, Sf.T54, Sf.T139, Sf.T162, nmC, nmV, rBE, wr, ow, wrC]
  refine vframe (wthree_ok L cap x.a (by omega)) [0, 1] (by rfl) (by simp only [rX2, bd, bdL, bdB, bdH, bdT, front, VLe, VLeL, BLe, Phan, TLe, HLe, ro, Blk.owned, CLe, rr, given, mrg, exct, shr, ren, renL, renB, Nat.reduceAdd, Nat.reduceSub, Nat.reduceLT, Nat.reduceLeDiff, Nat.reduceEqDiff, Nat.reduceBEq, Nat.reduceBNe, reduceCtorEq, nmC, nmV, rBE, wr, ow, wrC]) ?_
  rintro v h ⟨c1, rfl, rfl⟩ -
  simp (implicitDefEqProofs := false) (maxSteps := 1000000) only [rX2, bd, bdL, bdB, bdH, bdT, front, VLe, VLeL, BLe, Phan, TLe, HLe, ro, Blk.owned, CLe, rr, given, mrg, exct, shr, ren, renL, renB, Nat.reduceAdd, Nat.reduceSub, Nat.reduceLT, Nat.reduceLeDiff, Nat.reduceEqDiff, Nat.reduceBEq, Nat.reduceBNe, reduceCtorEq, nmC, nmV, rBE, wr, ow, wrC, rX0, ofVal, ofVals, cellsV, vStore.isTup, eqL, eqV, Blk.deg, oneV, elApp, Nat.reduceAdd, Nat.reduceSub, Nat.reduceMul, Nat.reduceLT, Nat.reduceLeDiff, Nat.reduceEqDiff, Int.reduceToNat, Int.reduceGT, Int.reduceGE, Int.reduceMul, Int.reduceLT, Int.reduceLE, Int.reduceAdd, Int.reduceSub, Int.reduceNeg, reduceCtorEq, Sf.T3, Sf.T4, Sf.T26, Sf.T141, Sf.T5, Sf.T22, Sf.T27, Sf.T89, Sf.T54, Sf.T139, Sf.T162, nmC, nmV, rBE, wr, ow, wrC]
  refine vframe (wthree_ok (L ++ b3 x.a) c1 x.b (by simp [b3_length]; omega)) [0, 3] (by rfl) (by simp only [rX2, bd, bdL, bdB, bdH, bdT, front, VLe, VLeL, BLe, Phan, TLe, HLe, ro, Blk.owned, CLe, rr, given, mrg, exct, shr, ren, renL, renB, Nat.reduceAdd, Nat.reduceSub, Nat.reduceLT, Nat.reduceLeDiff, Nat.reduceEqDiff, Nat.reduceBEq, Nat.reduceBNe, reduceCtorEq, nmC, nmV, rBE, wr, ow, wrC]) ?_
  rintro v h ⟨c2, rfl, rfl⟩ -
  simp (implicitDefEqProofs := false) (maxSteps := 1000000) only [rX2, bd, bdL, bdB, bdH, bdT, front, VLe, VLeL, BLe, Phan, TLe, HLe, ro, Blk.owned, CLe, rr, given, mrg, exct, shr, ren, renL, renB, Nat.reduceAdd, Nat.reduceSub, Nat.reduceLT, Nat.reduceLeDiff, Nat.reduceEqDiff, Nat.reduceBEq, Nat.reduceBNe, reduceCtorEq, nmC, nmV, rBE, wr, ow, wrC, rX0, ofVal, ofVals, cellsV, vStore.isTup, eqL, eqV, Blk.deg, oneV, elApp, Nat.reduceAdd, Nat.reduceSub, Nat.reduceMul, Nat.reduceLT, Nat.reduceLeDiff, Nat.reduceEqDiff, Int.reduceToNat, Int.reduceGT, Int.reduceGE, Int.reduceMul, Int.reduceLT, Int.reduceLE, Int.reduceAdd, Int.reduceSub, Int.reduceNeg, reduceCtorEq, Sf.T3, Sf.T4, Sf.T26, Sf.T141, Sf.T5, Sf.T22, Sf.T27, Sf.T89, Sf.T54, Sf.T139, Sf.T162, nmC, nmV, rBE, wr, ow, wrC]
  refine vframe (wthree_ok (L ++ (b3 x.a ++ b3 x.b)) c2 x.c (by simp [b3_length]; omega)) [0, 4] (by rfl) (by simp only [rX2, bd, bdL, bdB, bdH, bdT, front, VLe, VLeL, BLe, Phan, TLe, HLe, ro, Blk.owned, CLe, rr, given, mrg, exct, shr, ren, renL, renB, Nat.reduceAdd, Nat.reduceSub, Nat.reduceLT, Nat.reduceLeDiff, Nat.reduceEqDiff, Nat.reduceBEq, Nat.reduceBNe, reduceCtorEq, nmC, nmV, rBE, wr, ow, wrC]) ?_
  rintro v h ⟨c3, rfl, rfl⟩ -
  simp (implicitDefEqProofs := false) (maxSteps := 1000000) only [rX2, bd, bdL, bdB, bdH, bdT, front, VLe, VLeL, BLe, Phan, TLe, HLe, ro, Blk.owned, CLe, rr, given, mrg, exct, shr, ren, renL, renB, Nat.reduceAdd, Nat.reduceSub, Nat.reduceLT, Nat.reduceLeDiff, Nat.reduceEqDiff, Nat.reduceBEq, Nat.reduceBNe, reduceCtorEq, nmC, nmV, rBE, wr, ow, wrC, rX0, ofVal, ofVals, cellsV, vStore.isTup, eqL, eqV, Blk.deg, oneV, elApp, Nat.reduceAdd, Nat.reduceSub, Nat.reduceMul, Nat.reduceLT, Nat.reduceLeDiff, Nat.reduceEqDiff, Int.reduceToNat, Int.reduceGT, Int.reduceGE, Int.reduceMul, Int.reduceLT, Int.reduceLE, Int.reduceAdd, Int.reduceSub, Int.reduceNeg, reduceCtorEq, Sf.T3, Sf.T4, Sf.T26, Sf.T141, Sf.T5, Sf.T22, Sf.T27, Sf.T89, Sf.T54, Sf.T139, Sf.T162, nmC, nmV, rBE, wr, ow, wrC]
  rw [show b3 x.a ++ (b3 x.b ++ b3 x.c) = nB x from rfl]
  exact ⟨_, _, Le.off [some 0, some 1, some 5] (by rfl) (by rfl) (by simp only [rX2, bd, bdL, bdB, bdH, bdT, front, VLe, VLeL, BLe, Phan, TLe, HLe, ro, Blk.owned, CLe, rr, given, mrg, exct, shr, ren, renL, renB, Nat.reduceAdd, Nat.reduceSub, Nat.reduceLT, Nat.reduceLeDiff, Nat.reduceEqDiff, Nat.reduceBEq, Nat.reduceBNe, reduceCtorEq, nmC, nmV, rBE, wr, ow, wrC]), c3, rfl, rfl⟩
def fB (b : Bool) : Int := if b then 1 else 0
theorem one_chunk (a : Int) (j : Nat) (hj : j < 1) : chunk 1 [.int .i64 a] j = [.int .i64 a] := by
  match j, hj with
  | 0, _ => rfl
theorem wflag_ok (L : List Int) (cap : Nat) (b : Bool) (hL : L.length + 1 ≤ 100000) :
    VCall Try.prog 119 [.ptr 0 0 0 0, .bool b] [wr 1 L.length cap, ow L cap] fun v h => ∃ cap', v = .tup [] ∧ h = [wr 2 (L ++ [fB b]).length cap', .gone, ow (L ++ [fB b]) cap'] := by
  unfold wr ow
  have e1 : u8s (fun _ => 1) 1 = [fB true] := rfl
  have e0 : u8s (fun _ => 0) 1 = [fB false] := rfl
  cases b
  · refine VC.out ?_
    refine wbody Try.func119 rfl (by kernel_rfl) ?_
    rw [Try.ntmps119, Try.results119]
    simp (implicitDefEqProofs := false) (maxSteps := 1000000) only [rX1, bd, bdL, bdB, bdH, bdT, front, VLe, VLeL, BLe, Phan, TLe, HLe, ro, Blk.owned, CLe, rr, given, mrg, exct, shr, ren, renL, renB, Nat.reduceBEq, Nat.reduceBNe, rX0, ofVal, ofVals, cellsV, vStore.isTup, eqL, eqV, Blk.deg, oneV, elApp, Nat.reduceAdd, Nat.reduceSub, Nat.reduceMul, Nat.reduceLT, Nat.reduceLeDiff, Nat.reduceEqDiff, Int.reduceToNat, Int.reduceGT, Int.reduceGE, Int.reduceMul, Int.reduceLT, Int.reduceLE, Int.reduceAdd, Int.reduceSub, Int.reduceNeg, reduceCtorEq, Sf.T3, Sf.T4, Sf.T26, Sf.T141, Sf.T5, Sf.T22, Sf.T27, Sf.T89, Sf.T54, Sf.T139, Sf.T162, nmC, nmV, rBE, wr, ow, wrC]
    refine vframe (bytes_ok L cap 1 1 (fun _ => 0) (by omega)) [0, 1, 2] (by rfl) (by simp only [rX2, bd, bdL, bdB, bdH, bdT, front, VLe, VLeL, BLe, Phan, TLe, HLe, ro, Blk.owned, CLe, rr, given, mrg, exct, shr, ren, renL, renB, Nat.reduceAdd, Nat.reduceSub, Nat.reduceLT, Nat.reduceLeDiff, Nat.reduceEqDiff, Nat.reduceBEq, Nat.reduceBNe, reduceCtorEq, nmC, nmV, rBE, wr, ow, wrC]; exact fun j hj => one_chunk _ j hj) ?_
    rintro v h ⟨c, rfl, rfl⟩ -
    simp (implicitDefEqProofs := false) (maxSteps := 1000000) only [rX2, bd, bdL, bdB, bdH, bdT, front, VLe, VLeL, BLe, Phan, TLe, HLe, ro, Blk.owned, CLe, rr, given, mrg, exct, shr, ren, renL, renB, Nat.reduceAdd, Nat.reduceSub, Nat.reduceLT, Nat.reduceLeDiff, Nat.reduceEqDiff, Nat.reduceBEq, Nat.reduceBNe, reduceCtorEq, nmC, nmV, rBE, wr, ow, wrC, rX0, ofVal, ofVals, cellsV, vStore.isTup, eqL, eqV, Blk.deg, oneV, elApp, Nat.reduceAdd, Nat.reduceSub, Nat.reduceMul, Nat.reduceLT, Nat.reduceLeDiff, Nat.reduceEqDiff, Int.reduceToNat, Int.reduceGT, Int.reduceGE, Int.reduceMul, Int.reduceLT, Int.reduceLE, Int.reduceAdd, Int.reduceSub, Int.reduceNeg, reduceCtorEq, Sf.T3, Sf.T4, Sf.T26, Sf.T141, Sf.T5, Sf.T22, Sf.T27, Sf.T89, Sf.T54, Sf.T139, Sf.T162, nmC, nmV, rBE, wr, ow, wrC]
    simp only [e0]
    exact ⟨_, _, Le.off [some 0, some 1, some 3] (by rfl) (by rfl) (by simp only [rX2, bd, bdL, bdB, bdH, bdT, front, VLe, VLeL, BLe, Phan, TLe, HLe, ro, Blk.owned, CLe, rr, given, mrg, exct, shr, ren, renL, renB, Nat.reduceAdd, Nat.reduceSub, Nat.reduceLT, Nat.reduceLeDiff, Nat.reduceEqDiff, Nat.reduceBEq, Nat.reduceBNe, reduceCtorEq, nmC, nmV, rBE, wr, ow, wrC]), c, rfl, rfl⟩
  · refine VC.out ?_
    refine wbody Try.func119 rfl (by kernel_rfl) ?_
    rw [Try.ntmps119, Try.results119]
    simp (implicitDefEqProofs := false) (maxSteps := 1000000) only [rX1, bd, bdL, bdB, bdH, bdT, front, VLe, VLeL, BLe, Phan, TLe, HLe, ro, Blk.owned, CLe, rr, given, mrg, exct, shr, ren, renL, renB, Nat.reduceBEq, Nat.reduceBNe, rX0, ofVal, ofVals, cellsV, vStore.isTup, eqL, eqV, Blk.deg, oneV, elApp, Nat.reduceAdd, Nat.reduceSub, Nat.reduceMul, Nat.reduceLT, Nat.reduceLeDiff, Nat.reduceEqDiff, Int.reduceToNat, Int.reduceGT, Int.reduceGE, Int.reduceMul, Int.reduceLT, Int.reduceLE, Int.reduceAdd, Int.reduceSub, Int.reduceNeg, reduceCtorEq, Sf.T3, Sf.T4, Sf.T26, Sf.T141, Sf.T5, Sf.T22, Sf.T27, Sf.T89, Sf.T54, Sf.T139, Sf.T162, nmC, nmV, rBE, wr, ow, wrC]
    refine vframe (bytes_ok L cap 1 1 (fun _ => 1) (by omega)) [0, 1, 2] (by rfl) (by simp only [rX2, bd, bdL, bdB, bdH, bdT, front, VLe, VLeL, BLe, Phan, TLe, HLe, ro, Blk.owned, CLe, rr, given, mrg, exct, shr, ren, renL, renB, Nat.reduceAdd, Nat.reduceSub, Nat.reduceLT, Nat.reduceLeDiff, Nat.reduceEqDiff, Nat.reduceBEq, Nat.reduceBNe, reduceCtorEq, nmC, nmV, rBE, wr, ow, wrC]; exact fun j hj => one_chunk _ j hj) ?_
    rintro v h ⟨c, rfl, rfl⟩ -
    simp (implicitDefEqProofs := false) (maxSteps := 1000000) only [rX2, bd, bdL, bdB, bdH, bdT, front, VLe, VLeL, BLe, Phan, TLe, HLe, ro, Blk.owned, CLe, rr, given, mrg, exct, shr, ren, renL, renB, Nat.reduceAdd, Nat.reduceSub, Nat.reduceLT, Nat.reduceLeDiff, Nat.reduceEqDiff, Nat.reduceBEq, Nat.reduceBNe, reduceCtorEq, nmC, nmV, rBE, wr, ow, wrC, rX0, ofVal, ofVals, cellsV, vStore.isTup, eqL, eqV, Blk.deg, oneV, elApp, Nat.reduceAdd, Nat.reduceSub, Nat.reduceMul, Nat.reduceLT, Nat.reduceLeDiff, Nat.reduceEqDiff, Int.reduceToNat, Int.reduceGT, Int.reduceGE, Int.reduceMul, Int.reduceLT, Int.reduceLE, Int.reduceAdd, Int.reduceSub, Int.reduceNeg, reduceCtorEq, Sf.T3, Sf.T4, Sf.T26, Sf.T141, Sf.T5, Sf.T22, Sf.T27, Sf.T89, Sf.T54, Sf.T139, Sf.T162, nmC, nmV, rBE, wr, ow, wrC]
    simp only [e1]
    exact ⟨_, _, Le.off [some 0, some 1, some 3] (by rfl) (by rfl) (by simp only [rX2, bd, bdL, bdB, bdH, bdT, front, VLe, VLeL, BLe, Phan, TLe, HLe, ro, Blk.owned, CLe, rr, given, mrg, exct, shr, ren, renL, renB, Nat.reduceAdd, Nat.reduceSub, Nat.reduceLT, Nat.reduceLeDiff, Nat.reduceEqDiff, Nat.reduceBEq, Nat.reduceBNe, reduceCtorEq, nmC, nmV, rBE, wr, ow, wrC]), c, rfl, rfl⟩
def wB (x : Wr) : List Int := u8 x.b :: vL x.v
def wsB (w : Nat → Wr) : Nat → List Int
  | 0 => []
  | k + 1 => wsB w k ++ wB (w k)
theorem wsB_length (w : Nat → Wr) : ∀ k, (wsB w k).length = 9 * k
  | 0 => rfl
  | k + 1 => by
    have e : (wB (w k)).length = 9 := rfl
    simp only [wsB, List.length_append, wsB_length w k, e]; omega
def wE (w : Nat → Wr) (j : Nat) : List VV := wrC (w j)
/-- What the array of a block's bytes is as bytes. -/
theorem v_chunk (b : Int) (v : Nat → Int) (j : Nat) (hj : j < 8) : seg [.int .i64 b, .int .u8 (v 0), .int .u8 (v 1), .int .u8 (v 2), .int .u8 (v 3), .int .u8 (v 4), .int .u8 (v 5), .int .u8 (v 6), .int .u8 (v 7)] (1 + j * 1) 1 = bE (vL v) j := by
  match j, hj with
  | 0, _ | 1, _ | 2, _ | 3, _ | 4, _ | 5, _ | 6, _ | 7, _ => rfl
theorem wwrites_ok (L : List Int) (cap n cw : Nat) (w : Nat → Wr) (hn : n ≤ 1000) (hL : L.length ≤ 50000) :
    VCall Try.prog 109 [.ptr 0 0 0 0, .slice 2 n cw] [wr 1 L.length cap, ow L cap, .row 9 n fun j => wrC (w j)] fun v h =>
      ∃ cap', v = .tup [] ∧ h = [wr 3 (L ++ (u8 n :: wsB w n)).length cap', .gone, .row 9 n fun j => wrC (w j), ow (L ++ (u8 n :: wsB w n)) cap'] := by
  unfold wr ow
  have e1 : ∀ x : Int, u8s (fun _ => x) 1 = [u8 x] := fun _ => rfl
  refine VC.out ?_
  refine wbody Try.func109 rfl (by kernel_rfl) ?_
  rw [Try.ntmps109, Try.results109]
  simp (implicitDefEqProofs := false) (maxSteps := 1000000) only [rX1, bd, bdL, bdB, bdH, bdT, front, VLe, VLeL, BLe, Phan, TLe, HLe, ro, Blk.owned, CLe, rr, given, mrg, exct, shr, ren, renL, renB, Nat.reduceBEq, Nat.reduceBNe, rX0, ofVal, ofVals, cellsV, vStore.isTup, eqL, eqV, Blk.deg, oneV, elApp, Nat.reduceAdd, Nat.reduceSub, Nat.reduceMul, Nat.reduceLT, Nat.reduceLeDiff, Nat.reduceEqDiff, Int.reduceToNat, Int.reduceGT, Int.reduceGE, Int.reduceMul, Int.reduceLT, Int.reduceLE, Int.reduceAdd, Int.reduceSub, Int.reduceNeg, reduceCtorEq, Sf.T3, Sf.T4, Sf.T26, Sf.T141, Sf.T5, Sf.T22, Sf.T27, Sf.T89, Sf.T54, Sf.T139, Sf.T162, nmC, nmV, rBE, wr, ow, wrC]
  refine vframe (bytes_ok L cap 1 1 (fun _ => n) (by omega)) [0, 1, 3] (by rfl) (by simp only [rX2, bd, bdL, bdB, bdH, bdT, front, VLe, VLeL, BLe, Phan, TLe, HLe, ro, Blk.owned, CLe, rr, given, mrg, exct, shr, ren, renL, renB, Nat.reduceAdd, Nat.reduceSub, Nat.reduceLT, Nat.reduceLeDiff, Nat.reduceEqDiff, Nat.reduceBEq, Nat.reduceBNe, reduceCtorEq, nmC, nmV, rBE, wr, ow, wrC]; exact fun j hj => one_chunk _ j hj) ?_
  rintro v h ⟨c1, rfl, rfl⟩ -
  simp (implicitDefEqProofs := false) (maxSteps := 1000000) only [rX2, bd, bdL, bdB, bdH, bdT, front, VLe, VLeL, BLe, Phan, TLe, HLe, ro, Blk.owned, CLe, rr, given, mrg, exct, shr, ren, renL, renB, Nat.reduceAdd, Nat.reduceSub, Nat.reduceLT, Nat.reduceLeDiff, Nat.reduceEqDiff, Nat.reduceBEq, Nat.reduceBNe, reduceCtorEq, nmC, nmV, rBE, wr, ow, wrC, rX0, ofVal, ofVals, cellsV, vStore.isTup, eqL, eqV, Blk.deg, oneV, elApp, Nat.reduceAdd, Nat.reduceSub, Nat.reduceMul, Nat.reduceLT, Nat.reduceLeDiff, Nat.reduceEqDiff, Int.reduceToNat, Int.reduceGT, Int.reduceGE, Int.reduceMul, Int.reduceLT, Int.reduceLE, Int.reduceAdd, Int.reduceSub, Int.reduceNeg, reduceCtorEq, Sf.T3, Sf.T4, Sf.T26, Sf.T141, Sf.T5, Sf.T22, Sf.T27, Sf.T89, Sf.T54, Sf.T139, Sf.T162, nmC, nmV, rBE, wr, ow, wrC]
  simp only [e1]
  refine wloop (fun s : Nat × Nat => ⟨[some (.ptr 0 0 0 0), some (.slice 2 n cw), none, none, none, none, none, none, none, none, none, some (.slice 2 n cw), some (.int .i64 n), some (.int .i64 s.1), none, none, none, none, none, none, none, none, none, none, none, none, none, none, none, none, none, none, none], [.cells true 139 [.slice 3 (L ++ (u8 n :: wsB w s.1)).length s.2], .gone, .row 9 n fun j => wrC (w j), .own 5 1 (L ++ (u8 n :: wsB w s.1)).length s.2 (bE (L ++ (u8 n :: wsB w s.1)))]⟩) (fun s => s.1 ≤ n) (fun s => n - s.1) (0, c1) (Nat.zero_le _) ?_ ?_
  · simp only [wsB]
    refine Le.off [some 0, some 1, some 2, some 4] (by rfl) (by rfl) (by simp only [rX2, bd, bdL, bdB, bdH, bdT, front, VLe, VLeL, BLe, Phan, TLe, HLe, ro, Blk.owned, CLe, rr, given, mrg, exct, shr, ren, renL, renB, Nat.reduceAdd, Nat.reduceSub, Nat.reduceLT, Nat.reduceLeDiff, Nat.reduceEqDiff, Nat.reduceBEq, Nat.reduceBNe, reduceCtorEq, nmC, nmV, rBE, wr, ow, wrC])
  rintro ⟨i, c⟩ hi
  simp only [] at hi ⊢
  have hw := wrapS i (by omega)
  have hlen := wsB_length w i
  simp (implicitDefEqProofs := false) (maxSteps := 1000000) only [rX2, bd, bdL, bdB, bdH, bdT, front, VLe, VLeL, BLe, Phan, TLe, HLe, ro, Blk.owned, CLe, rr, given, mrg, exct, shr, ren, renL, renB, Nat.reduceAdd, Nat.reduceSub, Nat.reduceLT, Nat.reduceLeDiff, Nat.reduceEqDiff, Nat.reduceBEq, Nat.reduceBNe, reduceCtorEq, nmC, nmV, rBE, wr, ow, wrC, rX0, ofVal, ofVals, cellsV, vStore.isTup, eqL, eqV, Blk.deg, oneV, elApp, Nat.reduceAdd, Nat.reduceSub, Nat.reduceMul, Nat.reduceLT, Nat.reduceLeDiff, Nat.reduceEqDiff, Int.reduceToNat, Int.reduceGT, Int.reduceGE, Int.reduceMul, Int.reduceLT, Int.reduceLE, Int.reduceAdd, Int.reduceSub, Int.reduceNeg, reduceCtorEq, Sf.T3, Sf.T4, Sf.T26, Sf.T141, Sf.T5, Sf.T22, Sf.T27, Sf.T89, Sf.T54, Sf.T139, Sf.T162, nmC, nmV, rBE, wr, ow, wrC]
  refine ⟨fun hlt => ⟨hlt, hlt, hlt, ?_⟩, fun hge => ?_⟩
  · refine vframe (bytes_ok (L ++ (u8 n :: wsB w i)) c 1 1 (fun _ => (w i).b) (by simp; omega)) [0, 3, 5] (by rfl) (by simp only [rX2, bd, bdL, bdB, bdH, bdT, front, VLe, VLeL, BLe, Phan, TLe, HLe, ro, Blk.owned, CLe, rr, given, mrg, exct, shr, ren, renL, renB, Nat.reduceAdd, Nat.reduceSub, Nat.reduceLT, Nat.reduceLeDiff, Nat.reduceEqDiff, Nat.reduceBEq, Nat.reduceBNe, reduceCtorEq, nmC, nmV, rBE, wr, ow, wrC]; exact fun j hj => one_chunk _ j hj) ?_
    rintro v h ⟨c2, rfl, rfl⟩ -
    simp (implicitDefEqProofs := false) (maxSteps := 1000000) only [rX2, bd, bdL, bdB, bdH, bdT, front, VLe, VLeL, BLe, Phan, TLe, HLe, ro, Blk.owned, CLe, rr, given, mrg, exct, shr, ren, renL, renB, Nat.reduceAdd, Nat.reduceSub, Nat.reduceLT, Nat.reduceLeDiff, Nat.reduceEqDiff, Nat.reduceBEq, Nat.reduceBNe, reduceCtorEq, nmC, nmV, rBE, wr, ow, wrC, rX0, ofVal, ofVals, cellsV, vStore.isTup, eqL, eqV, Blk.deg, oneV, elApp, Nat.reduceAdd, Nat.reduceSub, Nat.reduceMul, Nat.reduceLT, Nat.reduceLeDiff, Nat.reduceEqDiff, Int.reduceToNat, Int.reduceGT, Int.reduceGE, Int.reduceMul, Int.reduceLT, Int.reduceLE, Int.reduceAdd, Int.reduceSub, Int.reduceNeg, reduceCtorEq, Sf.T3, Sf.T4, Sf.T26, Sf.T141, Sf.T5, Sf.T22, Sf.T27, Sf.T89, Sf.T54, Sf.T139, Sf.T162, nmC, nmV, rBE, wr, ow, wrC]
    simp only [e1]
    refine wdraw (.take 0 (.take 1 (.view 5 (.view 6 (.one 2 (.one 3 (.one 4 (.one 7 (.one 8 (.one 9 (.one 10 (.done)))))))))))) [.gone, .gone, .gone, .gone, .cells true 89 (wrC (w i))] (by kernel_rfl) (by kernel_rfl) (by simp only [rX2, bd, bdL, bdB, bdH, bdT, front, VLe, VLeL, BLe, Phan, TLe, HLe, ro, Blk.owned, CLe, rr, given, mrg, exct, shr, ren, renL, renB, Nat.reduceAdd, Nat.reduceSub, Nat.reduceLT, Nat.reduceLeDiff, Nat.reduceEqDiff, Nat.reduceBEq, Nat.reduceBNe, reduceCtorEq, nmC, nmV, rBE, wr, ow, wrC, m7y, m7z, m80, m81, m83, m82]) (by simp only [rX2, bd, bdL, bdB, bdH, bdT, front, VLe, VLeL, BLe, Phan, TLe, HLe, ro, Blk.owned, CLe, rr, given, mrg, exct, shr, ren, renL, renB, Nat.reduceAdd, Nat.reduceSub, Nat.reduceLT, Nat.reduceLeDiff, Nat.reduceEqDiff, Nat.reduceBEq, Nat.reduceBNe, reduceCtorEq, nmC, nmV, rBE, wr, ow, wrC]) ?_
    simp (implicitDefEqProofs := false) (maxSteps := 1000000) only [rX2, bd, bdL, bdB, bdH, bdT, front, VLe, VLeL, BLe, Phan, TLe, HLe, ro, Blk.owned, CLe, rr, given, mrg, exct, shr, ren, renL, renB, Nat.reduceAdd, Nat.reduceSub, Nat.reduceLT, Nat.reduceLeDiff, Nat.reduceEqDiff, Nat.reduceBEq, Nat.reduceBNe, reduceCtorEq, nmC, nmV, rBE, wr, ow, wrC, rX0, ofVal, ofVals, cellsV, vStore.isTup, eqL, eqV, Blk.deg, oneV, elApp, Nat.reduceAdd, Nat.reduceSub, Nat.reduceMul, Nat.reduceLT, Nat.reduceLeDiff, Nat.reduceEqDiff, Int.reduceToNat, Int.reduceGT, Int.reduceGE, Int.reduceMul, Int.reduceLT, Int.reduceLE, Int.reduceAdd, Int.reduceSub, Int.reduceNeg, reduceCtorEq, Sf.T3, Sf.T4, Sf.T26, Sf.T141, Sf.T5, Sf.T22, Sf.T27, Sf.T89, Sf.T54, Sf.T139, Sf.T162, nmC, nmV, rBE, wr, ow, wrC]
    have key : ∀ j, j < (L ++ (u8 n :: (wsB w i ++ [u8 (w i).b]))).length + 8 → elApp (L ++ (u8 n :: (wsB w i ++ [u8 (w i).b]))).length (bE (L ++ (u8 n :: (wsB w i ++ [u8 (w i).b])))) (fun j => seg [.int .i64 (w i).b, .int .u8 ((w i).v 0), .int .u8 ((w i).v 1), .int .u8 ((w i).v 2), .int .u8 ((w i).v 3), .int .u8 ((w i).v 4), .int .u8 ((w i).v 5), .int .u8 ((w i).v 6), .int .u8 ((w i).v 7)] (1 + j) 1) j = bE (L ++ (u8 n :: wsB w (i + 1))) j := fun j hj => by
      have e : L ++ (u8 n :: wsB w (i + 1)) = (L ++ (u8 n :: (wsB w i ++ [u8 (w i).b]))) ++ vL (w i).v := by simp [wsB, wB]
      rw [e, ← bE_app]
      unfold elApp
      by_cases h : j < (L ++ (u8 n :: (wsB w i ++ [u8 (w i).b]))).length
      · simp only [h, if_true]
      · simp only [h, if_false]
        have := v_chunk (w i).b (w i).v (j - (L ++ (u8 n :: (wsB w i ++ [u8 (w i).b]))).length) (by omega)
        rwa [Nat.mul_one] at this
    have hl2 : (L ++ (u8 n :: (wsB w i ++ [u8 (w i).b]))).length = L.length + 9 * i + 2 := by simp [hlen]; omega
    have hl3 : (L ++ (u8 n :: wsB w (i + 1))).length = (L ++ (u8 n :: (wsB w i ++ [u8 (w i).b]))).length + 8 := by rw [hl2]; simp [wsB_length]; omega
    refine ⟨by simp [maxI], ⟨by omega, by simp only [maxI]; omega⟩, fun cap' _ _ => ⟨(i + 1, cap'), by omega, by simp only []; omega, ?_⟩⟩
    simp only [hw, hl3]
    refine Le.off [some 0, some 1, some 2, some 7] (by rfl) (by rfl) (by simp only [rX2, bd, bdL, bdB, bdH, bdT, front, VLe, VLeL, BLe, Phan, TLe, HLe, ro, Blk.owned, CLe, rr, given, mrg, exct, shr, ren, renL, renB, Nat.reduceAdd, Nat.reduceSub, Nat.reduceLT, Nat.reduceLeDiff, Nat.reduceEqDiff, Nat.reduceBEq, Nat.reduceBNe, reduceCtorEq, nmC, nmV, rBE, wr, ow, wrC]; intro j hj; rw [key j hj]; simp only [rX2, bd, bdL, bdB, bdH, bdT, front, VLe, VLeL, BLe, Phan, TLe, HLe, ro, Blk.owned, CLe, rr, given, mrg, exct, shr, ren, renL, renB, Nat.reduceAdd, Nat.reduceSub, Nat.reduceLT, Nat.reduceLeDiff, Nat.reduceEqDiff, Nat.reduceBEq, Nat.reduceBNe, reduceCtorEq, nmC, nmV, rBE, wr, ow, wrC])
  · have e : n = i := by omega
    subst e
    exact ⟨_, _, Le.off [some 0, some 1, some 2, some 3] (by rfl) (by rfl) (by simp only [rX2, bd, bdL, bdB, bdH, bdT, front, VLe, VLeL, BLe, Phan, TLe, HLe, ro, Blk.owned, CLe, rr, given, mrg, exct, shr, ren, renL, renB, Nat.reduceAdd, Nat.reduceSub, Nat.reduceLT, Nat.reduceLeDiff, Nat.reduceEqDiff, Nat.reduceBEq, Nat.reduceBNe, reduceCtorEq, nmC, nmV, rBE, wr, ow, wrC]), c, rfl, rfl⟩
end Go.Proofs.Ytnlammgemaapnaa
