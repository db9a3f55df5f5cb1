/- Layer 15: reading back what was written, field by field. -/
import Derived.Test.YtnlammgemaapnaaRK
import Derived.Test.YtnlammgemaapnaaTG
set_option linter.unusedSimpArgs false
set_option linter.unusedVariables false
set_option maxRecDepth 100000
namespace Go.Proofs.Ytnlammgemaapnaa
open Go Go.Sx
theorem and127' (x : Int) (h : 0 ≤ x ∧ x ≤ 127) : bitsI .and .i64 x 127 = x := by
  obtain ⟨n, rfl⟩ := Int.eq_ofNat_of_zero_le h.1
  have hn : n ≤ 127 := by omega
  have : ∀ n : Fin 128, bitsI .and .i64 ((n.val : Nat) : Int) 127 = (n.val : Nat) := by decide +kernel
  exact this ⟨n, by omega⟩
theorem tk_app (X T : List Int) (n : Nat) (h : X.length = n) : tk (X ++ T) n = X := by
  unfold tk
  rw [if_pos (by simp; omega), ← h, List.take_left]
theorem rst_app (X T : List Int) (n : Nat) (h : X.length = n) : rst (X ++ T) n = T := by
  unfold rst
  rw [if_pos (by simp; omega), ← h, List.drop_left]
theorem sh_app (b : Bool) (X T : List Int) (n : Nat) (h : X.length = n) : sh b (X ++ T) n = b := by
  unfold sh
  rw [decide_eq_false (by simp; omega), Bool.or_false]
theorem n3_b3' (x : Int) (h : 0 ≤ x ∧ x < 16777216) : n3 (b3 x) 0 = x := n3_b3 x h
theorem n1_u8 (x : Int) (h : 0 ≤ x ∧ x ≤ 255) : n1 [u8 x] = x := u8_in x h
/-- A field reads back as it was written. -/
def GBack (f : Nat) (X : Msg → List Int) (ok : Msg → Prop) (upd : Msg → Msg → Msg) : Prop := ∀ (m x : Msg) (T : List Int) (cap : Nat), ok m → Bys (X m ++ T) → (X m ++ T).length ≤ cap →
  VCall Try.prog f [.ptr 0 0 0 0, .ptr 2 0 0 0] [wR 1 (X m ++ T).length cap false, rw (X m ++ T), xm x .nilSlice] fun v h =>
    ∃ cap', T.length ≤ cap' ∧ v = .tup [] ∧ h = [wR 3 T.length cap' false, rw (X m ++ T), xm (upd m x) .nilSlice, rw T]
theorem GBack.of {f : Nat} {g : GM} (h : GetM f g) {X : Msg → List Int} {ok : Msg → Prop} {upd : Msg → Msg → Msg} (hr : ∀ m T, ok m → g.rest (X m ++ T) = T) (hb : ∀ m T, ok m → g.bad false (X m ++ T) = false) (hu : ∀ m x T, ok m → g.upd (X m ++ T) x = upd m x) : GBack f X ok upd := by
  intro m x T cap hok hR hc
  have := h (X m ++ T) cap false x hR hc
  rw [hr m T hok, hb m T hok, hu m x T hok] at this
  exact this
theorem gback_name : GBack 131 (fun m => nB m.nm) (fun m => Named m.nm) fun m x => { x with nm := m.nm } := by
  have e : ∀ (m : Msg) (T : List Int), nB m.nm ++ T = b3 m.nm.a ++ (b3 m.nm.b ++ (b3 m.nm.c ++ T)) := fun m T => by simp [nB]
  refine GBack.of gname_ok (fun m T hok => ?_) (fun m T hok => ?_) (fun m x T hok => ?_)
  · show rst (rst (rst (nB m.nm ++ T) 3) 3) 3 = T
    rw [e, rst_app _ _ 3 rfl, rst_app _ _ 3 rfl, rst_app _ _ 3 rfl]
  · show sh (sh (sh false (nB m.nm ++ T) 3) (rst (nB m.nm ++ T) 3) 3) (rst (rst (nB m.nm ++ T) 3) 3) 3 = false
    rw [e, rst_app _ _ 3 rfl, rst_app _ _ 3 rfl, sh_app _ _ _ 3 rfl, sh_app _ _ _ 3 rfl, sh_app _ _ _ 3 rfl]
  · show { x with nm := ⟨n3 (tk (nB m.nm ++ T) 3) 0, n3 (tk (rst (nB m.nm ++ T) 3) 3) 0, n3 (tk (rst (rst (nB m.nm ++ T) 3) 3) 3) 0⟩ } = _
    obtain ⟨h1, h2, h3⟩ := hok
    rw [e, rst_app _ _ 3 rfl, rst_app _ _ 3 rfl, tk_app _ _ 3 rfl, tk_app _ _ 3 rfl, tk_app _ _ 3 rfl, n3_b3' _ (by omega), n3_b3' _ (by omega), n3_b3' _ (by omega)]
theorem gback_value : GBack 137 (fun m => vL m.v) (fun _ => True) fun m x => { x with v := fun i => (vL m.v).getD i 0 } := by
  refine GBack.of gvalue_ok (fun m T hok => ?_) (fun m T hok => ?_) (fun m x T hok => ?_)
  · exact rst_app (vL m.v) T 8 rfl
  · exact sh_app false (vL m.v) T 8 rfl
  · show { x with v := fun i => (tk (vL m.v ++ T) 8).getD i 0 } = _
    rw [tk_app _ _ 8 rfl]
theorem gback_err : GBack 139 (fun m => [u8 m.e, u8 (shrI .i64 m.e 8)]) (fun m => 0 ≤ m.e ∧ m.e ≤ 65535) fun m x => { x with e := m.e } := by
  refine GBack.of gerr_ok (fun m T hok => ?_) (fun m T hok => ?_) (fun m x T hok => ?_)
  · exact rst_app [u8 m.e, u8 (shrI .i64 m.e 8)] T 2 rfl
  · exact sh_app false [u8 m.e, u8 (shrI .i64 m.e 8)] T 2 rfl
  · show { x with e := n2 (tk ([u8 m.e, u8 (shrI .i64 m.e 8)] ++ T) 2) } = _
    rw [tk_app [u8 m.e, u8 (shrI .i64 m.e 8)] T 2 rfl]
    have e8 : shrI .i64 m.e 8 = m.e / 256 := by
      unfold shrI
      rw [show (2 : Int) ^ min (Int.toNat 8) IntKind.i64.bits = 256 from by decide]
      exact Int.fdiv_eq_ediv_of_nonneg _ (by omega)
    have : n2 [u8 m.e, u8 (shrI .i64 m.e 8)] = m.e := by
      show u8 m.e + 256 * u8 (shrI .i64 m.e 8) = _
      rw [e8, u8_mod, u8_mod]; omega
    rw [this]
theorem gback_yes : GBack 141 (fun m => [fB m.yes]) (fun _ => True) fun m x => { x with yes := m.yes } := by
  have h1 : ∀ b : Bool, n1 [fB b] = fB b := fun _ => rfl
  refine GBack.of gyes_ok (fun m T hok => ?_) (fun m T hok => ?_) (fun m x T hok => ?_)
  · exact rst_app [fB m.yes] T 1 rfl
  · show (sh false ([fB m.yes] ++ T) 1 || decide (n1 (tk ([fB m.yes] ++ T) 1) > 1)) = false
    rw [sh_app _ _ _ 1 rfl, tk_app _ _ 1 rfl, h1]
    cases m.yes <;> rfl
  · show { x with yes := n1 (tk ([fB m.yes] ++ T) 1) == 1 } = _
    rw [tk_app _ _ 1 rfl, h1]
    cases m.yes <;> rfl
theorem gback_op : GBack 135 (fun m => [u8 m.op]) (fun m => 0 ≤ m.op ∧ m.op ≤ 127) fun m x => { x with op := m.op } := by
  refine GBack.of gop_ok (fun m T hok => ?_) (fun m T hok => ?_) (fun m x T hok => ?_)
  · exact rst_app [u8 m.op] T 1 rfl
  · show (sh false ([u8 m.op] ++ T) 1 || decide (n1 (tk ([u8 m.op] ++ T) 1) > 127)) = false
    rw [sh_app _ _ _ 1 rfl, tk_app _ _ 1 rfl, n1_u8 _ (by omega), decide_eq_false (by omega)]; rfl
  · show { x with op := IntKind.i8.wrap (bitsI .and .i64 (n1 (tk ([u8 m.op] ++ T) 1)) 127) } = _
    rw [tk_app _ _ 1 rfl, n1_u8 _ (by omega), and127' _ hok, IntWalk.i8_in _ (by omega)]
theorem aback_accn (m x : Msg) (T : List Int) (cap : Nat) (hok : 0 ≤ m.num ∧ m.num < 16777216) (hR : Bys (b3 m.num ++ T)) (hc : (b3 m.num ++ T).length ≤ cap) :
    VCall Try.prog 129 [.ptr 0 0 0 0, .ptr 2 0 0 0, .ptr 4 0 0 0, .ptr 3 0 0 0] [wR 1 (b3 m.num ++ T).length cap false, rw (b3 m.num ++ T), xm x .nilSlice, .cells false 159 [.func 132 [] []], .cells false 3 [.int .i64 3]] fun v h =>
      ∃ cap', T.length ≤ cap' ∧ v = .tup [] ∧ h = [wR 5 T.length cap' false, rw (b3 m.num ++ T), xm { x with num := m.num } .nilSlice, .cells false 159 [.func 132 [] []], .cells false 3 [.int .i64 3], rw T] := by
  have := mget_accn (b3 m.num ++ T) cap false x hR hc
  rw [rst_app _ _ 3 rfl, sh_app _ _ _ 3 rfl, tk_app _ _ 3 rfl, n3_b3' _ hok] at this
  exact this
theorem aback_accblock (m x : Msg) (T : List Int) (cap : Nat) (hok : 0 ≤ m.blk ∧ m.blk ≤ 255) (hR : Bys ([u8 m.blk] ++ T)) (hc : ([u8 m.blk] ++ T).length ≤ cap) :
    VCall Try.prog 129 [.ptr 0 0 0 0, .ptr 2 0 0 0, .ptr 4 0 0 0, .ptr 3 0 0 0] [wR 1 ([u8 m.blk] ++ T).length cap false, rw ([u8 m.blk] ++ T), xm x .nilSlice, .cells false 159 [.func 133 [] []], .cells false 3 [.int .i64 1]] fun v h =>
      ∃ cap', T.length ≤ cap' ∧ v = .tup [] ∧ h = [wR 5 T.length cap' false, rw ([u8 m.blk] ++ T), xm { x with blk := m.blk } .nilSlice, .cells false 159 [.func 133 [] []], .cells false 3 [.int .i64 1], rw T] := by
  have := mget_accblock ([u8 m.blk] ++ T) cap false x hR hc
  rw [rst_app _ _ 1 rfl, sh_app _ _ _ 1 rfl, tk_app _ _ 1 rfl, n1_u8 _ hok] at this
  exact this
theorem aback_accgive (m x : Msg) (T : List Int) (cap : Nat) (hok : 0 ≤ m.give ∧ m.give ≤ 255) (hR : Bys ([u8 m.give] ++ T)) (hc : ([u8 m.give] ++ T).length ≤ cap) :
    VCall Try.prog 129 [.ptr 0 0 0 0, .ptr 2 0 0 0, .ptr 4 0 0 0, .ptr 3 0 0 0] [wR 1 ([u8 m.give] ++ T).length cap false, rw ([u8 m.give] ++ T), xm x .nilSlice, .cells false 159 [.func 142 [] []], .cells false 3 [.int .i64 1]] fun v h =>
      ∃ cap', T.length ≤ cap' ∧ v = .tup [] ∧ h = [wR 5 T.length cap' false, rw ([u8 m.give] ++ T), xm { x with give := m.give } .nilSlice, .cells false 159 [.func 142 [] []], .cells false 3 [.int .i64 1], rw T] := by
  have := mget_accgive ([u8 m.give] ++ T) cap false x hR hc
  rw [rst_app _ _ 1 rfl, sh_app _ _ _ 1 rfl, tk_app _ _ 1 rfl, n1_u8 _ hok] at this
  exact this
theorem aback_acctake (m x : Msg) (T : List Int) (cap : Nat) (hok : 0 ≤ m.take ∧ m.take ≤ 255) (hR : Bys ([u8 m.take] ++ T)) (hc : ([u8 m.take] ++ T).length ≤ cap) :
    VCall Try.prog 129 [.ptr 0 0 0 0, .ptr 2 0 0 0, .ptr 4 0 0 0, .ptr 3 0 0 0] [wR 1 ([u8 m.take] ++ T).length cap false, rw ([u8 m.take] ++ T), xm x .nilSlice, .cells false 159 [.func 143 [] []], .cells false 3 [.int .i64 1]] fun v h =>
      ∃ cap', T.length ≤ cap' ∧ v = .tup [] ∧ h = [wR 5 T.length cap' false, rw ([u8 m.take] ++ T), xm { x with take := m.take } .nilSlice, .cells false 159 [.func 143 [] []], .cells false 3 [.int .i64 1], rw T] := by
  have := mget_acctake ([u8 m.take] ++ T) cap false x hR hc
  rw [rst_app _ _ 1 rfl, sh_app _ _ _ 1 rfl, tk_app _ _ 1 rfl, n1_u8 _ hok] at this
  exact this
/-- Writes' bytes, the first ones of the rest ahead. -/
theorem wsB_front (w : Nat → Wr) : ∀ n, wsB w (n + 1) = wB (w 0) ++ wsB (fun j => w (j + 1)) n
  | 0 => by simp [wsB]
  | n + 1 => by
    show wsB w (n + 1) ++ wB (w (n + 1)) = wB (w 0) ++ (wsB (fun j => w (j + 1)) n ++ wB (w (n + 1)))
    rw [wsB_front w n, List.append_assoc]
theorem wsRest_step (R : List Int) (w : Nat → Wr) (T : List Int) (n j : Nat) (hR : wsRest R j = wB (w 0) ++ T) : wsRest R (j + 1) = T := by
  show rst (rst (wsRest R j) 1) 8 = T
  rw [hR]
  show rst (rst ([u8 (w 0).b] ++ (vL (w 0).v ++ T)) 1) 8 = T
  rw [rst_app _ _ 1 rfl, rst_app (vL (w 0).v) T 8 rfl]
theorem ws_back (w : Nat → Wr) (hw : ∀ j, 0 ≤ (w j).b ∧ (w j).b ≤ 255) (T : List Int) (R : List Int) (n : Nat) (hR : R = u8 n :: (wsB w n ++ T)) : ∀ j, j ≤ n → wsRest R j = wsB (fun i => w (j + i)) (n - j) ++ T ∧ wsBad false R j = false
  | 0, _ => by
    constructor
    · show rst R 1 = _
      rw [hR, show u8 n :: (wsB w n ++ T) = [u8 n] ++ (wsB w n ++ T) from rfl, rst_app _ _ 1 rfl]
      simp
    · show sh false R 1 = false
      rw [hR, show u8 n :: (wsB w n ++ T) = [u8 n] ++ (wsB w n ++ T) from rfl, sh_app _ _ _ 1 rfl]
  | j + 1, hj => by
    obtain ⟨h1, h2⟩ := ws_back w hw T R n hR j (by omega)
    have e : n - j = (n - (j + 1)) + 1 := by omega
    have h3 : wsRest R j = wB (w j) ++ (wsB (fun i => w (j + 1 + i)) (n - (j + 1)) ++ T) := by
      rw [h1, e, wsB_front, List.append_assoc]
      congr 2
      have : (fun i => w (j + (i + 1))) = fun i => w (j + 1 + i) := by funext i; congr 1; omega
      rw [this]
    constructor
    · exact wsRest_step R (fun i => w (j + i)) _ n j h3
    · show sh (sh (wsBad false R j) (wsRest R j) 1) (rst (wsRest R j) 1) 8 = false
      rw [h2, h3]
      show sh (sh false ([u8 (w j).b] ++ (vL (w j).v ++ (wsB (fun i => w (j + 1 + i)) (n - (j + 1)) ++ T))) 1) (rst ([u8 (w j).b] ++ (vL (w j).v ++ (wsB (fun i => w (j + 1 + i)) (n - (j + 1)) ++ T))) 1) 8 = false
      rw [rst_app _ _ 1 rfl, sh_app _ _ _ 1 rfl, sh_app _ (vL (w j).v) _ 8 rfl]
theorem wsAt_back (w : Nat → Wr) (hw : ∀ j, 0 ≤ (w j).b ∧ (w j).b ≤ 255) (T : List Int) (R : List Int) (n : Nat) (hR : R = u8 n :: (wsB w n ++ T)) (j : Nat) (hj : j < n) : wEq (w j) (wsAt R j) = true := by
  obtain ⟨h1, h2⟩ := ws_back w hw T R n hR j (by omega)
  have e : n - j = (n - (j + 1)) + 1 := by omega
  rw [e, wsB_front, List.append_assoc] at h1
  have h3 : wsRest R j = [u8 (w j).b] ++ (vL (w j).v ++ (wsB (fun i => w (j + (i + 1))) (n - (j + 1)) ++ T)) := h1
  unfold wsAt
  rw [h3, tk_app _ _ 1 rfl, rst_app _ _ 1 rfl, tk_app (vL (w j).v) _ 8 rfl, n1_u8 _ (hw j)]
  rw [wEq_iff]
  refine ⟨rfl, fun i hi => ?_⟩
  match i, hi with
  | 0, _ | 1, _ | 2, _ | 3, _ | 4, _ | 5, _ | 6, _ | 7, _ => rfl
theorem wsEnd_back (w : Nat → Wr) (hw : ∀ j, 0 ≤ (w j).b ∧ (w j).b ≤ 255) (T : List Int) (R : List Int) (n c : Nat) (hR : R = u8 n :: (wsB w n ++ T)) (h : WsEnd false R n c) : c = n := by
  obtain ⟨h1, h2, _⟩ := h
  rcases h2 with h2 | h2
  · exact h2
  · rw [(ws_back w hw T R n hR c h1).2] at h2; cases h2
theorem gback_writes (m x : Msg) (T : List Int) (cap : Nat) (hW : Written m.n m.w) (hR : Bys ((u8 m.n :: wsB m.w m.n) ++ T)) (hc : ((u8 m.n :: wsB m.w m.n) ++ T).length ≤ cap) :
    VCall Try.prog 145 [.ptr 0 0 0 0, .ptr 2 0 0 0] [wR 1 ((u8 m.n :: wsB m.w m.n) ++ T).length cap false, rw ((u8 m.n :: wsB m.w m.n) ++ T), xm x .nilSlice] fun v h => ∃ w' : Nat → Wr, ∃ co cap', SameW m.n m.w m.n w' ∧ T.length ≤ cap' ∧ v = .tup [] ∧
      h = [wR 3 T.length cap' false, rw ((u8 m.n :: wsB m.w m.n) ++ T), xm { x with n := m.n, w := w' } (.slice 4 m.n co), rw T, .own 89 9 m.n co fun j => wrC (w' j)] := by
  have hb := written_b hW
  have h8 := hW.2
  obtain ⟨w, hw⟩ : ∃ w : Nat → Wr, w = fun j => if j < m.n then m.w j else ⟨0, fun _ => 0⟩ := ⟨_, rfl⟩
  have hws : ∀ j, 0 ≤ (w j).b ∧ (w j).b ≤ 255 := fun j => by
    rw [hw]
    by_cases h : j < m.n
    · simp only [h, if_true]; have := hb j h; omega
    · simp only [h, if_false]; omega
  have hwB : ∀ k, k ≤ m.n → wsB w k = wsB m.w k := fun k hk => by
    induction k with
    | zero => rfl
    | succ k ih =>
      show wsB w k ++ wB (w k) = wsB m.w k ++ wB (m.w k)
      rw [ih (by omega), hw]
      simp only [show k < m.n by omega, if_true]
  have hRe : (u8 m.n :: wsB m.w m.n) ++ T = u8 m.n :: (wsB w m.n ++ T) := by rw [hwB _ (Nat.le_refl _)]; rfl
  generalize hRd : (u8 m.n :: wsB m.w m.n) ++ T = R at hR hc hRe ⊢
  refine VCall.mono (gwrites_ok R cap false x hR hc) ?_
  rintro v h ⟨c, co, cap', hend, hc', rfl, rfl⟩
  have hn1 : n1 (tk R 1) = (m.n : Int) := by
    rw [hRe, show u8 m.n :: (wsB w m.n ++ T) = [u8 m.n] ++ (wsB w m.n ++ T) from rfl, tk_app _ _ 1 rfl, n1_u8 _ (by omega)]
  rw [hn1, Int.toNat_natCast] at hend
  obtain rfl := wsEnd_back w hws T R m.n c hRe hend
  obtain ⟨e1, e2⟩ := ws_back w hws T R m.n hRe m.n (Nat.le_refl _)
  rw [Nat.sub_self] at e1
  have e1 : wsRest R m.n = T := e1
  rw [e1] at hc' ⊢
  rw [e2]
  refine ⟨wsAt R, co, cap', ⟨rfl, fun j hj => ?_⟩, hc', rfl, rfl⟩
  have := wsAt_back w hws T R m.n hRe j hj
  rw [hw] at this
  simp only [hj, if_true] at this
  exact this
end Go.Proofs.Ytnlammgemaapnaa
