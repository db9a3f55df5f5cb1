/- Layer 7: the document's bytes of writes. -/
import Derived.Test.YtnlammgemaapnaaSM
set_option linter.unusedSimpArgs false
set_option linter.unusedVariables false
set_option maxRecDepth 100000
namespace Go.Proofs.Ytnlammgemaapnaa
open Go Go.Sx
theorem vtake (v : Nat → Int) (k : Nat) (hk : k < 8) : (vL v).take k ++ [v k] = (vL v).take (k + 1) := by
  match k, hk with
  | 0, _ | 1, _ | 2, _ | 3, _ | 4, _ | 5, _ | 6, _ | 7, _ => rfl
theorem v_nth (b : Int) (v : Nat → Int) (k : Nat) (hk : k < 8) : nth (wrC ⟨b, v⟩) (1 + k) = some (.int .u8 (v k)) := by
  match k, hk with
  | 0, _ | 1, _ | 2, _ | 3, _ | 4, _ | 5, _ | 6, _ | 7, _ => rfl
theorem zwrites_ok (L : List Int) (cap n cw : Nat) (w : Nat → Wr) (hn : n ≤ 1000) (hL : L.length ≤ 50000) :
    VCall Try.prog 58 [.slice 0 L.length cap, .slice 1 n cw] [ow L cap, .row 9 n fun j => wrC (w j)] fun v h =>
      ∃ cap', v = .slice 2 (L ++ (u8 n :: wsB w n)).length cap' ∧ h = [.gone, .row 9 n fun j => wrC (w j), ow (L ++ (u8 n :: wsB w n)) cap'] := by
  have e1 : (L ++ [u8 n]).length = L.length + 1 := by simp
  have k1 : ∀ j, j < L.length + 1 → elApp L.length (bE L) (chunk 1 [.int .u8 (IntKind.u8.wrap n)]) j = bE (L ++ [u8 n]) j := fun j hj => bE_many L [u8 n] j hj
  unfold ow
  refine VC.out ?_
  refine wbody Try.func58 rfl (by kernel_rfl) ?_
  rw [Try.ntmps58, Try.results58]
  simp (implicitDefEqProofs := false) (maxSteps := 1000000) only [rX1, bd, bdL, bdB, bdH, bdT, front, VLe, VLeL, BLe, Phan, TLe, HLe, ro, Blk.owned, CLe, rr, given, mrg, exct, shr, ren, renL, renB, Nat.reduceBEq, Nat.reduceBNe, rX0, ofVal, ofVals, cellsV, vStore.isTup, eqL, eqV, Blk.deg, oneV, elApp, Nat.reduceAdd, Nat.reduceSub, Nat.reduceMul, Nat.reduceLT, Nat.reduceLeDiff, Nat.reduceEqDiff, Int.reduceToNat, Int.reduceGT, Int.reduceGE, Int.reduceMul, Int.reduceLT, Int.reduceLE, Int.reduceAdd, Int.reduceSub, Int.reduceNeg, reduceCtorEq, Sf.T3, Sf.T4, Sf.T5, Sf.T22, Sf.T24, Sf.T26, Sf.T27, Sf.T89, Sf.T54, Sf.T29, Sf.T31, nmC, nmV, rBE, ow, wrC, recC]
  refine ⟨⟨by omega, by simp only [maxI]; omega⟩, fun c0 _ _ => ?_⟩
  refine wloop (fun s : Nat × Nat => ⟨[some (.slice 2 (L ++ (u8 n :: wsB w s.1)).length s.2), some (.slice 1 n cw), none, none, none, some (.int .i64 s.1), none, none, none, none, none, none, none, none, none, none, none, none, none, none, none, none, none, none, none, none, none, none, none, none, none, none, none, none, none, none, none, none, none, none, none, none, none], [.gone, .row 9 n fun j => wrC (w j), .own 5 1 (L ++ (u8 n :: wsB w s.1)).length s.2 (bE (L ++ (u8 n :: wsB w s.1)))]⟩) (fun s => s.1 ≤ n) (fun s => n - s.1) (0, c0) (Nat.zero_le _) ?_ ?_
  · simp only [wsB, e1]
    refine Le.off [some 0, some 1, some 3] (by rfl) (by rfl) (by simp only [rX2, bd, bdL, bdB, bdH, bdT, front, VLe, VLeL, BLe, Phan, TLe, HLe, ro, Blk.owned, CLe, rr, given, mrg, exct, shr, ren, renL, renB, Nat.reduceAdd, Nat.reduceSub, Nat.reduceLT, Nat.reduceLeDiff, Nat.reduceEqDiff, Nat.reduceBEq, Nat.reduceBNe, reduceCtorEq, nmC, nmV, rBE, ow, wrC, recC]; intro j hj; rw [k1 j hj]; simp only [rX2, bd, bdL, bdB, bdH, bdT, front, VLe, VLeL, BLe, Phan, TLe, HLe, ro, Blk.owned, CLe, rr, given, mrg, exct, shr, ren, renL, renB, Nat.reduceAdd, Nat.reduceSub, Nat.reduceLT, Nat.reduceLeDiff, Nat.reduceEqDiff, Nat.reduceBEq, Nat.reduceBNe, reduceCtorEq, nmC, nmV, rBE, ow, wrC, recC])
  rintro ⟨i, c⟩ hi
  simp only [] at hi ⊢
  have hw := wrapS i (by omega)
  have hlen := wsB_length w i
  obtain ⟨M, hM⟩ : ∃ M, L ++ (u8 n :: wsB w i) = M := ⟨_, rfl⟩
  have hMl : M.length = L.length + 1 + 9 * i := by rw [← hM]; simp [hlen]; omega
  have k2 : ∀ j, j < M.length + 1 → elApp M.length (bE M) (chunk 1 [.int .u8 (IntKind.u8.wrap (w i).b)]) j = bE (M ++ [u8 (w i).b]) j := fun j hj => bE_many M [u8 (w i).b] j hj
  have e2 : (M ++ [u8 (w i).b]).length = M.length + 1 := by simp
  rw [hM]
  simp (implicitDefEqProofs := false) (maxSteps := 1000000) only [rX2, bd, bdL, bdB, bdH, bdT, front, VLe, VLeL, BLe, Phan, TLe, HLe, ro, Blk.owned, CLe, rr, given, mrg, exct, shr, ren, renL, renB, Nat.reduceAdd, Nat.reduceSub, Nat.reduceLT, Nat.reduceLeDiff, Nat.reduceEqDiff, Nat.reduceBEq, Nat.reduceBNe, reduceCtorEq, nmC, nmV, rBE, ow, wrC, recC, rX0, ofVal, ofVals, cellsV, vStore.isTup, eqL, eqV, Blk.deg, oneV, elApp, Nat.reduceAdd, Nat.reduceSub, Nat.reduceMul, Nat.reduceLT, Nat.reduceLeDiff, Nat.reduceEqDiff, Int.reduceToNat, Int.reduceGT, Int.reduceGE, Int.reduceMul, Int.reduceLT, Int.reduceLE, Int.reduceAdd, Int.reduceSub, Int.reduceNeg, reduceCtorEq, Sf.T3, Sf.T4, Sf.T5, Sf.T22, Sf.T24, Sf.T26, Sf.T27, Sf.T89, Sf.T54, Sf.T29, Sf.T31, nmC, nmV, rBE, ow, wrC, recC]
  refine ⟨fun hlt => ?_, fun hge => ?_⟩
  · refine ⟨hlt, hlt, hlt, hlt, ⟨by omega, by simp only [maxI]; omega⟩, fun c1 _ _ => ?_⟩
    refine wloop (fun s : Nat × Nat => ⟨[some (.slice 2 (M ++ (u8 (w i).b :: (vL (w i).v).take s.1)).length s.2), some (.slice 1 n cw), none, none, none, some (.int .i64 i), some (.int .i64 s.1), none, none, none, none, none, none, none, none, none, none, none, none, none, none, none, none, none, none, none, none, none, none, none, none, none, none, none, none, none, none, none, none, none, none, none, none], [.gone, .row 9 n fun j => wrC (w j), .own 5 1 (M ++ (u8 (w i).b :: (vL (w i).v).take s.1)).length s.2 (bE (M ++ (u8 (w i).b :: (vL (w i).v).take s.1)))]⟩) (fun s => s.1 ≤ 8) (fun s => 8 - s.1) (0, c1) (Nat.zero_le _) ?_ ?_
    · simp only [List.take_zero, e2]
      refine Le.off [some 0, some 1, some 4] (by rfl) (by rfl) (by simp only [rX2, bd, bdL, bdB, bdH, bdT, front, VLe, VLeL, BLe, Phan, TLe, HLe, ro, Blk.owned, CLe, rr, given, mrg, exct, shr, ren, renL, renB, Nat.reduceAdd, Nat.reduceSub, Nat.reduceLT, Nat.reduceLeDiff, Nat.reduceEqDiff, Nat.reduceBEq, Nat.reduceBNe, reduceCtorEq, nmC, nmV, rBE, ow, wrC, recC]; intro j hj; rw [k2 j hj]; simp only [rX2, bd, bdL, bdB, bdH, bdT, front, VLe, VLeL, BLe, Phan, TLe, HLe, ro, Blk.owned, CLe, rr, given, mrg, exct, shr, ren, renL, renB, Nat.reduceAdd, Nat.reduceSub, Nat.reduceLT, Nat.reduceLeDiff, Nat.reduceEqDiff, Nat.reduceBEq, Nat.reduceBNe, reduceCtorEq, nmC, nmV, rBE, ow, wrC, recC])
    rintro ⟨k, c2⟩ hk
    simp only [] at hk ⊢
    obtain ⟨X, hX⟩ : ∃ X, M ++ (u8 (w i).b :: (vL (w i).v).take k) = X := ⟨_, rfl⟩
    have hXl : X.length = M.length + 1 + k := by
      rw [← hX]; simp [vL]; omega
    rw [hX]
    have hk8 := wrapS k (by omega)
    rcases Nat.lt_or_ge k 8 with c8 | c8
    · have hnth := v_nth (w i).b (w i).v k c8
      simp only [wrC] at hnth
      have hk8' : (k : Int) < 8 := by omega
      have hXk : ∀ j, j < X.length + 1 → elApp X.length (bE X) (chunk 1 [.int .u8 ((w i).v k)]) j = bE (M ++ (u8 (w i).b :: (vL (w i).v).take (k + 1))) j := fun j hj => by
        rw [← vtake (w i).v k c8, ← List.cons_append, ← List.append_assoc, hX]
        exact bE_many X [(w i).v k] j hj
      have hXk2 : (M ++ (u8 (w i).b :: (vL (w i).v).take (k + 1))).length = X.length + 1 := by
        rw [hXl]; simp [vL]; omega
      simp (implicitDefEqProofs := false) (maxSteps := 1000000) only [hnth, rX2, bd, bdL, bdB, bdH, bdT, front, VLe, VLeL, BLe, Phan, TLe, HLe, ro, Blk.owned, CLe, rr, given, mrg, exct, shr, ren, renL, renB, Nat.reduceAdd, Nat.reduceSub, Nat.reduceLT, Nat.reduceLeDiff, Nat.reduceEqDiff, Nat.reduceBEq, Nat.reduceBNe, reduceCtorEq, nmC, nmV, rBE, ow, wrC, recC, rX0, ofVal, ofVals, cellsV, vStore.isTup, eqL, eqV, Blk.deg, oneV, elApp, Nat.reduceAdd, Nat.reduceSub, Nat.reduceMul, Nat.reduceLT, Nat.reduceLeDiff, Nat.reduceEqDiff, Int.reduceToNat, Int.reduceGT, Int.reduceGE, Int.reduceMul, Int.reduceLT, Int.reduceLE, Int.reduceAdd, Int.reduceSub, Int.reduceNeg, reduceCtorEq, Sf.T3, Sf.T4, Sf.T5, Sf.T22, Sf.T24, Sf.T26, Sf.T27, Sf.T89, Sf.T54, Sf.T29, Sf.T31, nmC, nmV, rBE, ow, wrC, recC]
      refine ⟨fun _ => ⟨hlt, hlt, hlt, hk8', hlt, hlt, ⟨by omega, by simp only [maxI]; omega⟩, fun c3 _ _ => ⟨(k + 1, c3), c8, by simp only []; omega, ?_⟩⟩, fun h => absurd hk8' h⟩
      simp only [hk8, hXk2]
      refine Le.off [some 0, some 1, some 4] (by rfl) (by rfl) (by simp only [rX2, bd, bdL, bdB, bdH, bdT, front, VLe, VLeL, BLe, Phan, TLe, HLe, ro, Blk.owned, CLe, rr, given, mrg, exct, shr, ren, renL, renB, Nat.reduceAdd, Nat.reduceSub, Nat.reduceLT, Nat.reduceLeDiff, Nat.reduceEqDiff, Nat.reduceBEq, Nat.reduceBNe, reduceCtorEq, nmC, nmV, rBE, ow, wrC, recC]; intro j hj; rw [hXk j hj]; simp only [rX2, bd, bdL, bdB, bdH, bdT, front, VLe, VLeL, BLe, Phan, TLe, HLe, ro, Blk.owned, CLe, rr, given, mrg, exct, shr, ren, renL, renB, Nat.reduceAdd, Nat.reduceSub, Nat.reduceLT, Nat.reduceLeDiff, Nat.reduceEqDiff, Nat.reduceBEq, Nat.reduceBNe, reduceCtorEq, nmC, nmV, rBE, ow, wrC, recC])
    · have e : k = 8 := by omega
      subst e
      have eX : L ++ (u8 n :: wsB w (i + 1)) = X := by
        rw [← hX, ← hM, show (vL (w i).v).take 8 = vL (w i).v from rfl]
        simp [wsB, wB]
      simp (implicitDefEqProofs := false) (maxSteps := 1000000) only [hw, rX2, bd, bdL, bdB, bdH, bdT, front, VLe, VLeL, BLe, Phan, TLe, HLe, ro, Blk.owned, CLe, rr, given, mrg, exct, shr, ren, renL, renB, Nat.reduceAdd, Nat.reduceSub, Nat.reduceLT, Nat.reduceLeDiff, Nat.reduceEqDiff, Nat.reduceBEq, Nat.reduceBNe, reduceCtorEq, nmC, nmV, rBE, ow, wrC, recC, rX0, ofVal, ofVals, cellsV, vStore.isTup, eqL, eqV, Blk.deg, oneV, elApp, Nat.reduceAdd, Nat.reduceSub, Nat.reduceMul, Nat.reduceLT, Nat.reduceLeDiff, Nat.reduceEqDiff, Int.reduceToNat, Int.reduceGT, Int.reduceGE, Int.reduceMul, Int.reduceLT, Int.reduceLE, Int.reduceAdd, Int.reduceSub, Int.reduceNeg, reduceCtorEq, Sf.T3, Sf.T4, Sf.T5, Sf.T22, Sf.T24, Sf.T26, Sf.T27, Sf.T89, Sf.T54, Sf.T29, Sf.T31, nmC, nmV, rBE, ow, wrC, recC]
      refine ⟨(i + 1, c2), by simp only []; omega, by simp only []; omega, ?_⟩
      simp only [eX]
      refine Le.off [some 0, some 1, some 2] (by rfl) (by rfl) (by simp only [rX2, bd, bdL, bdB, bdH, bdT, front, VLe, VLeL, BLe, Phan, TLe, HLe, ro, Blk.owned, CLe, rr, given, mrg, exct, shr, ren, renL, renB, Nat.reduceAdd, Nat.reduceSub, Nat.reduceLT, Nat.reduceLeDiff, Nat.reduceEqDiff, Nat.reduceBEq, Nat.reduceBNe, reduceCtorEq, nmC, nmV, rBE, ow, wrC, recC])
  · have e : n = i := by omega
    subst e
    rw [hM]
    exact ⟨_, _, Le.off [some 0, some 1, some 2] (by rfl) (by rfl) (by simp only [rX2, bd, bdL, bdB, bdH, bdT, front, VLe, VLeL, BLe, Phan, TLe, HLe, ro, Blk.owned, CLe, rr, given, mrg, exct, shr, ren, renL, renB, Nat.reduceAdd, Nat.reduceSub, Nat.reduceLT, Nat.reduceLeDiff, Nat.reduceEqDiff, Nat.reduceBEq, Nat.reduceBNe, reduceCtorEq, nmC, nmV, rBE, ow, wrC, recC]), c, rfl, rfl⟩
end Go.Proofs.Ytnlammgemaapnaa
