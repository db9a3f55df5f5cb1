/- Layer 15: how messages are written, field by field. -/
import Derived.Test.YtnlammgemaapnaaRE
import Derived.Test.YtnlammgemaapnaaTA
set_option linter.unusedSimpArgs false
set_option linter.unusedVariables false
set_option maxRecDepth 100000
namespace Go.Proofs.Ytnlammgemaapnaa
open Go Go.Sx
def wW (b n cap : Nat) : Blk := .cells true 116 [.slice b n cap]
/-- A number, bytes taken off below. -/
def shk (n : Int) : Nat → Int
  | 0 => n
  | k + 1 => shrI .i64 (shk n k) 8
theorem wnum_ok (L : List Int) (cap many : Nat) (n : Int) (hL : L.length + many ≤ 100000) :
    VCall Try.prog 80 [.ptr 0 0 0 0, .int .i64 n, .int .i64 many] [wW 1 L.length cap, ow L cap] fun v h =>
      ∃ cap', v = .tup [] ∧ h = [wW 2 (L ++ u8s (shk n) many).length cap', .gone, ow (L ++ u8s (shk n) many) cap'] := by
  unfold wW ow
  refine VC.out ?_
  refine wbody Try.func80 rfl (by kernel_rfl) ?_
  rw [Try.ntmps80, Try.results80]
  simp (implicitDefEqProofs := false) (maxSteps := 1000000) only [rX1, bd, bdL, bdB, bdH, bdT, front, VLe, VLeL, BLe, Phan, TLe, HLe, ro, Blk.owned, CLe, rr, given, mrg, exct, shr, ren, renL, renB, Nat.reduceBEq, Nat.reduceBNe, rX0, ofVal, ofVals, cellsV, vStore.isTup, eqL, eqV, Blk.deg, oneV, elApp, Nat.reduceAdd, Nat.reduceSub, Nat.reduceMul, Nat.reduceLT, Nat.reduceLeDiff, Nat.reduceEqDiff, Int.reduceToNat, Int.reduceGT, Int.reduceGE, Int.reduceMul, Int.reduceLT, Int.reduceLE, Int.reduceAdd, Int.reduceSub, Int.reduceNeg, reduceCtorEq, Sf.T3, Sf.T4, Sf.T24, Sf.T5, Sf.T22, Sf.T26, Sf.T27, Sf.T89, Sf.T54, Sf.T32, Sf.T56, Sf.T116, Sf.T159, Sf.T162, nmC, nmV, wrC, rBE, wW, ow]
  refine wloop (fun s : Nat × Nat => ⟨[some (.ptr 0 0 0 0), some (.int .i64 (shk n s.1)), none, none, none, none, some (.int .i64 many), some (.int .i64 s.1), none, none, none, none, none, none, none, none, none, none, none, none, none], [.cells true 116 [.slice 2 (L ++ u8s (shk n) s.1).length s.2], .gone, .own 5 1 (L ++ u8s (shk n) s.1).length s.2 (bE (L ++ u8s (shk n) s.1))]⟩) (fun s => s.1 ≤ many) (fun s => many - s.1) (0, cap) (Nat.zero_le _) ?_ ?_
  · simp only [u8s, List.range_zero, List.map_nil, List.append_nil, shk]
    refine Le.off [some 0, some 1, some 1] (by rfl) (by rfl) (by simp only [rX2, bd, bdL, bdB, bdH, bdT, front, VLe, VLeL, BLe, Phan, TLe, HLe, ro, Blk.owned, CLe, rr, given, mrg, exct, shr, ren, renL, renB, Nat.reduceAdd, Nat.reduceSub, Nat.reduceLT, Nat.reduceLeDiff, Nat.reduceEqDiff, Nat.reduceBEq, Nat.reduceBNe, reduceCtorEq, nmC, nmV, wrC, rBE, wW, ow])
  rintro ⟨i, c⟩ hi
  simp only [] at hi ⊢
  have hw := wrapS i (by omega)
  have hlen : (L ++ u8s (shk n) i).length = L.length + i := by simp [u8s_length]
  have hsucc : (L ++ u8s (shk n) (i + 1)).length = (L ++ u8s (shk n) i).length + 1 := by simp [u8s_length]; omega
  have key : ∀ j, j < (L ++ u8s (shk n) i).length + 1 → elApp (L ++ u8s (shk n) i).length (bE (L ++ u8s (shk n) i)) (chunk 1 [.int .u8 (IntKind.u8.wrap (shk n i))]) j = bE (L ++ u8s (shk n) (i + 1)) j := fun j hj => by
    rw [u8s_succ, ← List.append_assoc]; exact bE_one _ _ j hj
  have hs : shrI .i64 (shk n i) 8 = shk n (i + 1) := rfl
  simp (implicitDefEqProofs := false) (maxSteps := 1000000) only [rX2, bd, bdL, bdB, bdH, bdT, front, VLe, VLeL, BLe, Phan, TLe, HLe, ro, Blk.owned, CLe, rr, given, mrg, exct, shr, ren, renL, renB, Nat.reduceAdd, Nat.reduceSub, Nat.reduceLT, Nat.reduceLeDiff, Nat.reduceEqDiff, Nat.reduceBEq, Nat.reduceBNe, reduceCtorEq, nmC, nmV, wrC, rBE, wW, ow, rX0, ofVal, ofVals, cellsV, vStore.isTup, eqL, eqV, Blk.deg, oneV, elApp, Nat.reduceAdd, Nat.reduceSub, Nat.reduceMul, Nat.reduceLT, Nat.reduceLeDiff, Nat.reduceEqDiff, Int.reduceToNat, Int.reduceGT, Int.reduceGE, Int.reduceMul, Int.reduceLT, Int.reduceLE, Int.reduceAdd, Int.reduceSub, Int.reduceNeg, reduceCtorEq, Sf.T3, Sf.T4, Sf.T24, Sf.T5, Sf.T22, Sf.T26, Sf.T27, Sf.T89, Sf.T54, Sf.T32, Sf.T56, Sf.T116, Sf.T159, Sf.T162, nmC, nmV, wrC, rBE, wW, ow]
  refine ⟨fun hlt => ⟨⟨by omega, by simp only [maxI]; omega⟩, fun cap' _ _ => ⟨(i + 1, cap'), by omega, by simp only []; omega, ?_⟩⟩, fun hge => ?_⟩
  · simp only [hw, hsucc, hs]
    refine Le.off [some 0, some 1, some 4] (by rfl) (by rfl) (by simp only [rX2, bd, bdL, bdB, bdH, bdT, front, VLe, VLeL, BLe, Phan, TLe, HLe, ro, Blk.owned, CLe, rr, given, mrg, exct, shr, ren, renL, renB, Nat.reduceAdd, Nat.reduceSub, Nat.reduceLT, Nat.reduceLeDiff, Nat.reduceEqDiff, Nat.reduceBEq, Nat.reduceBNe, reduceCtorEq, nmC, nmV, wrC, rBE, wW, ow]; intro j hj; rw [key j hj]; simp only [rX2, bd, bdL, bdB, bdH, bdT, front, VLe, VLeL, BLe, Phan, TLe, HLe, ro, Blk.owned, CLe, rr, given, mrg, exct, shr, ren, renL, renB, Nat.reduceAdd, Nat.reduceSub, Nat.reduceLT, Nat.reduceLeDiff, Nat.reduceEqDiff, Nat.reduceBEq, Nat.reduceBNe, reduceCtorEq, nmC, nmV, wrC, rBE, wW, ow])
  · have e : many = i := by omega
    subst e
    exact ⟨_, _, Le.off [some 0, some 1, some 2] (by rfl) (by rfl) (by simp only [rX2, bd, bdL, bdB, bdH, bdT, front, VLe, VLeL, BLe, Phan, TLe, HLe, ro, Blk.owned, CLe, rr, given, mrg, exct, shr, ren, renL, renB, Nat.reduceAdd, Nat.reduceSub, Nat.reduceLT, Nat.reduceLeDiff, Nat.reduceEqDiff, Nat.reduceBEq, Nat.reduceBNe, reduceCtorEq, nmC, nmV, wrC, rBE, wW, ow]), c, rfl, rfl⟩
end Go.Proofs.Ytnlammgemaapnaa
