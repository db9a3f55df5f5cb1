/- Numbers, equality, append, len on virtual values. -/
import Derived.Test.YtnlammgemaapnaaSxE
set_option linter.unusedSimpArgs false
set_option linter.unusedVariables false
namespace Go.Sx
open Go

section
variable {P : Program} {β : Val} {h : List Blk} {w : World} {K : VV → List Blk → Prop}

/-! #### Numbers and equality -/
def bitsI (op : BinOp) (k : IntKind) (x y : Int) : Int :=
  match op with
  | .and => k.wrap (BitVec.ofInt k.bits x &&& BitVec.ofInt k.bits y).toNat
  | .or => k.wrap (BitVec.ofInt k.bits x ||| BitVec.ofInt k.bits y).toNat
  | _ => k.wrap (BitVec.ofInt k.bits x ^^^ BitVec.ofInt k.bits y).toNat
def shlI (k : IntKind) (x y : Int) : Int := k.wrap (x * 2 ^ (min y.toNat k.bits))
def shrI (k : IntKind) (x y : Int) : Int := x.fdiv (2 ^ (min y.toNat k.bits))
def eqV : VV → VV → Bool
  | .int _ a, .int _ b => a == b
  | .bool a, .bool b => a == b
  | _, _ => false
def eqL : List VV → List VV → Bool
  | [], [] => true
  | x :: xs, y :: ys => eqV x y && eqL xs ys
  | _, _ => false
/-- Two aggregates of type t are held against each other cell by cell. -/
def EqOK (P : Program) (t : TypeId) (a b : List VV) : Prop :=
  P.eqGuardType P.depth t = false ∧ ∀ (β : Val) (w : World), (Op.equalIn 10000 t (.agg (denL β a).toArray) (.agg (denL β b).toArray)).run P w = .ok (eqL a b) w
def vBin (P : Program) (op : BinOp) (t : TypeId) (a b : VV) (K : VV → Prop) : Prop :=
  match a, b with
  | .int k x, .int k' y => match op with
    | .add => k = k' ∧ K (.int k (k.wrap (x + y)))
    | .sub => k = k' ∧ K (.int k (k.wrap (x - y)))
    | .mul => k = k' ∧ K (.int k (k.wrap (x * y)))
    | .quo => (k = k' ∧ y ≠ 0) ∧ K (.int k (k.wrap (x.tdiv y)))
    | .rem => (k = k' ∧ y ≠ 0) ∧ K (.int k (x.tmod y))
    | .and => k = k' ∧ K (.int k (bitsI .and k x y))
    | .or => k = k' ∧ K (.int k (bitsI .or k x y))
    | .xor => k = k' ∧ K (.int k (bitsI .xor k x y))
    | .shl => 0 ≤ y ∧ K (.int k (shlI k x y))
    | .shr => 0 ≤ y ∧ K (.int k (shrI k x y))
    | .eql => k = k' ∧ K (.bool (x == y))
    | .neq => k = k' ∧ K (.bool (x != y))
    | .lss => k = k' ∧ K (.bool (decide (x < y)))
    | .leq => k = k' ∧ K (.bool (decide (x ≤ y)))
    | .gtr => k = k' ∧ K (.bool (decide (x > y)))
    | .geq => k = k' ∧ K (.bool (decide (x ≥ y)))
    | _ => False
  | .bool x, .bool y => match op with
    | .eql => P.underlying t = some .bool ∧ K (.bool (x == y))
    | .neq => P.underlying t = some .bool ∧ K (.bool (x != y))
    | _ => False
  | .agg x, .agg y => match op with
    | .eql => EqOK P t x y ∧ K (.bool (eqL x y))
    | .neq => EqOK P t x y ∧ K (.bool (!eqL x y))
    | _ => False
  | .str x, .str y => match op with
    | .eql => K (.bool (x == y))
    | .neq => K (.bool (x != y))
    | _ => False
  | _, _ => False
theorem eqGuard_int (op : BinOp) (t : TypeId) (x y : Operand) (k k' : IntKind) (a b : Int) : (eqGuard op t x y (.int k a) (.int k' b)).run P w = .ok () w := by
  unfold eqGuard; cases op <;> simp
theorem eqGuard_bool (op : BinOp) (t : TypeId) (x y : Operand) (a b : Bool) : (eqGuard op t x y (.bool a) (.bool b)).run P w = .ok () w := by
  unfold eqGuard; cases op <;> simp
theorem eqGuard_str (op : BinOp) (t : TypeId) (x y : Operand) (a b : ByteArray) : (eqGuard op t x y (.string a) (.string b)).run P w = .ok () w := by
  unfold eqGuard; cases op <;> simp
theorem vBin_ok {op : BinOp} {t : TypeId} {a b : VV} {x y : Operand} (hv : vBin P op t a b fun v => K v h) (r : RepH β h w) :
    Here P (do eqGuard op t x y (den β a) (den β b); binOp op t (den β a) (den β b)) β h w K := by
  unfold vBin at hv
  split at hv
  · rename_i k x' k' y'
    have hg := fun op => eqGuard_int (P := P) (w := w) op t x y k k' x' y'
    split at hv
    case h_17 => exact hv.elim
    case h_9 =>
      refine Here.here' r hv.2 ⟨trivial, trivial⟩ ?_
      have := hv.1
      simp only [den, Sem.run_bind, hg, Result.andThen_ok, binOp, Op.shift, Sem.run_ite]
      rw [if_neg (by omega)]
      rfl
    case h_10 =>
      refine Here.here' r hv.2 ⟨trivial, trivial⟩ ?_
      have := hv.1
      simp only [den, Sem.run_bind, hg, Result.andThen_ok, binOp, Op.shift, Sem.run_ite]
      rw [if_neg (by omega)]
      rfl
    case h_4 =>
      obtain ⟨⟨rfl, hy⟩, hK⟩ := hv
      refine Here.here' r hK ⟨trivial, trivial⟩ ?_
      simp only [den, Sem.run_bind, hg, Result.andThen_ok, binOp, ne_eq, not_true_eq_false, if_false, Op.intDiv, hy]
      rfl
    case h_5 =>
      obtain ⟨⟨rfl, hy⟩, hK⟩ := hv
      refine Here.here' r hK ⟨trivial, trivial⟩ ?_
      simp only [den, Sem.run_bind, hg, Result.andThen_ok, binOp, ne_eq, not_true_eq_false, if_false, Op.intDiv, hy]
      rfl
    all_goals
      obtain ⟨rfl, hK⟩ := hv
      refine Here.here' r hK ⟨trivial, trivial⟩ ?_
      simp only [den, Sem.run_bind, hg, Result.andThen_ok, binOp, ne_eq, not_true_eq_false, if_false]
      rfl
  · rename_i x' y'
    have hg := fun op => eqGuard_bool (P := P) (w := w) op t x y x' y'
    split at hv
    case h_3 => exact hv.elim
    all_goals
      obtain ⟨hu, hK⟩ := hv
      refine Here.here' r hK ⟨trivial, trivial⟩ ?_
      have e : (Op.equalIn 10000 t (.bool x') (.bool y')).run P w = .ok (x' == y') w := run_equalIn_bool' w 9999 t x' y' hu
      simp only [den, Sem.run_bind, hg, Result.andThen_ok, binOp, Op.equal, Op.maxDepth, e, Sem.run_pure]
      try rfl
  · rename_i x' y'
    split at hv
    case h_3 => exact hv.elim
    case h_1 =>
      obtain ⟨⟨hgd, hrun⟩, hK⟩ := hv
      refine Here.here' r hK ⟨trivial, trivial⟩ ?_
      simp only [den, Sem.run_bind, run_eqGuard_agg w _ t x y _ _ hgd, Result.andThen_ok, run_eql_struct, hrun]
    case h_2 =>
      obtain ⟨⟨hgd, hrun⟩, hK⟩ := hv
      refine Here.here' r hK ⟨trivial, trivial⟩ ?_
      simp only [den, Sem.run_bind, run_eqGuard_agg w _ t x y _ _ hgd, Result.andThen_ok, run_neq_struct, hrun]
  · rename_i x' y'
    have hg := fun op => eqGuard_str (P := P) (w := w) op t x y x' y'
    split at hv
    case h_3 => exact hv.elim
    all_goals
      refine Here.here' r hv ⟨trivial, trivial⟩ ?_
      simp only [den, Sem.run_bind, hg, Result.andThen_ok, binOp, Op.stringOp, Sem.run_pure, beq_toListBytes, bne]
  · exact hv.elim
def vUn (op : UnOp) (x : VV) (K : VV → Prop) : Prop :=
  match op, x with
  | .not, .bool b => K (.bool (!b))
  | .neg, .int k n => K (.int k (k.wrap (0 - n)))
  | .xor, .int k n => K (.int k (bitsI .xor k (if k.signed then -1 else k.max) n))
  | _, _ => False
theorem vUn_ok {op : UnOp} {x : VV} (hv : vUn op x fun v => K v h) (r : RepH β h w) : Here P (Op.unary op (den β x)) β h w K := by
  unfold vUn at hv
  split at hv
  · exact Here.here' r hv ⟨trivial, trivial⟩ rfl
  · exact Here.here' r hv ⟨trivial, trivial⟩ rfl
  · exact Here.here' r hv ⟨trivial, trivial⟩ rfl
  · exact hv.elim
def vConv (P : Program) (src dst : TypeId) (x : VV) (K : VV → Prop) : Prop :=
  match x, tint P dst with
  | .int _ n, some k => (P.underlying src).isSome = true ∧ K (.int k (k.wrap n))
  | _, _ => False
theorem vConv_ok {src dst : TypeId} {x : VV} (hv : vConv P src dst x fun v => K v h) (r : RepH β h w) : Here P (convert src dst (den β x)) β h w K := by
  unfold vConv at hv
  split at hv
  · rename_i k n k' ht
    unfold tint at ht
    split at ht
    · rename_i k'' hu
      injection ht with ht
      subst ht
      obtain ⟨hs, hK⟩ := hv
      obtain ⟨d, hd⟩ := Option.isSome_iff_exists.1 hs
      refine Here.here' r hK ⟨trivial, trivial⟩ ?_
      simp only [convert, Sem.run_bind, run_underlying hd, run_underlying hu, Result.andThen_ok, den, Conv.intToInt, Sem.run_pure]
    · cases ht
  · exact hv.elim

/-! #### len, append -/
def vLen (P : Program) (t : TypeId) (x : VV) (h : List Blk) (K : VV → List Blk → Prop) : Prop :=
  match x with
  | .slice _ n _ => (tsl P t).isSome = true ∧ K (.int .i64 n) h
  | .nilSlice => (tsl P t).isSome = true ∧ K (.int .i64 0) h
  | .ro _ _ n _ _ => (tsl P t).isSome = true ∧ K (.int .i64 n) h
  | .asl _ _ _ _ _ n _ => (tsl P t).isSome = true ∧ K (.int .i64 n) h
  | .str s => P.underlying t = some .string ∧ K (.int .i64 s.size) h
  | _ => False
theorem tsl_under {t : TypeId} (ht : (tsl P t).isSome = true) : ∃ e, P.underlying t = some (.slice e) := by
  unfold tsl at ht
  split at ht
  · rename_i e he; exact ⟨e, he⟩
  · cases ht
theorem vLen_ok {t ty : TypeId} {x : VV} (hv : vLen P t x h K) (r : RepH β h w) : Here P (Builtin.len_ #[t] ty #[den β x]) β h w K := by
  unfold vLen at hv
  split at hv
  · obtain ⟨e, he⟩ := tsl_under hv.1
    refine Here.here' r hv.2 ⟨trivial, trivial⟩ ?_
    simp [Builtin.len_, run_underlying he, den, goInt]
  · obtain ⟨e, he⟩ := tsl_under hv.1
    refine Here.here' r hv.2 ⟨trivial, trivial⟩ ?_
    simp [Builtin.len_, run_underlying he, den, goInt]
  · obtain ⟨e, he⟩ := tsl_under hv.1
    refine Here.here' r hv.2 ⟨trivial, trivial⟩ ?_
    simp [Builtin.len_, run_underlying he, den, goInt]
  · obtain ⟨e, he⟩ := tsl_under hv.1
    refine Here.here' r hv.2 ⟨trivial, trivial⟩ ?_
    simp [Builtin.len_, run_underlying he, den, goInt]
  · refine Here.here' r hv.2 ⟨trivial, trivial⟩ ?_
    simp [Builtin.len_, run_underlying hv.1, den, goInt]
  · exact hv.elim

/-- What is appended: how many, and which cells each has. -/
def vSrc (x : VV) (h : List Blk) (sz : Nat) (K : Nat → (Nat → List VV) → Prop) : Prop :=
  match x with
  | .nilSlice => K 0 fun _ => []
  | .slice id m _ => match nth h id with
    | some (.row s n el) => (s = sz ∧ n = m) ∧ K m el
    | some (.own _ s n _ el) => (s = sz ∧ n = m) ∧ K m el
    | _ => False
  | .ro _ s n _ el => s = sz ∧ K n el
  | .asl id idx sz0 fo esz n _ => match nth h id with
    | some b => vCont b idx sz0 fun l => (esz = sz ∧ fo + n * esz ≤ l.length ∧ 0 < l.length ∧ n ≤ maxI) ∧ K n fun j => seg l (fo + j * esz) esz
    | none => False
  | _ => False
def flat (m : Nat) (el : Nat → List VV) : List VV := (List.range m).flatMap el
theorem flat_length {β : Val} {n sz m : Nat} {el : Nat → List VV} (he : Els β n sz m el) : (flat m el).length = m * sz := by
  induction m with
  | zero => simp [flat]
  | succ m ih =>
    have := ih (fun j hj => he j (by omega))
    simp only [flat, List.range_succ, List.flatMap_append, List.length_append, List.flatMap_singleton] at *
    rw [this, (he m (by omega)).1, Nat.succ_mul]
theorem flat_get {β : Val} {n sz : Nat} {el : Nat → List VV} : ∀ {m : Nat}, Els β n sz m el → ∀ j, j < m → ∀ i, i < sz → (flat m el)[j * sz + i]? = (el j)[i]?
  | 0, _, j, hj, _, _ => by omega
  | m + 1, he, j, hj, i, hi => by
    have he' : Els β n sz m el := fun j hj => he j (by omega)
    have hl := flat_length he'
    have e : flat (m + 1) el = flat m el ++ el m := by simp [flat, List.range_succ]
    rw [e]
    rcases Nat.lt_or_ge j m with c | c
    · have : j * sz + sz ≤ m * sz := by rw [← Nat.succ_mul]; exact Nat.mul_le_mul_right _ c
      rw [List.getElem?_append_left (by omega)]
      exact flat_get he' j c i hi
    · have : j = m := by omega
      subst this
      rw [List.getElem?_append_right (by omega), hl]
      congr 1; omega
theorem flat_mem {m : Nat} {el : Nat → List VV} {u : VV} (hu : u ∈ flat m el) : ∃ j, j < m ∧ u ∈ el j := by
  simp only [flat, List.mem_flatMap, List.mem_range] at hu
  exact hu
theorem flat_at {β : Val} {n sz m : Nat} {el : Nat → List VV} (he : Els β n sz m el) {k : Nat} {u : VV} (hu : (flat m el)[k]? = some u) : 0 < sz ∧ k / sz < m ∧ (el (k / sz))[k % sz]? = some u ∧ k / sz * sz + k % sz = k := by
  have hk := (List.getElem?_eq_some_iff.1 hu).1
  rw [flat_length he] at hk
  have hs : 0 < sz := by
    rcases Nat.eq_zero_or_pos sz with c | c
    · rw [c, Nat.mul_zero] at hk; omega
    · exact c
  have hq : k / sz < m := by rw [Nat.div_lt_iff_lt_mul hs]; exact hk
  have hr : k % sz < sz := Nat.mod_lt _ hs
  have hd : k / sz * sz + k % sz = k := by rw [Nat.mul_comm]; exact Nat.div_add_mod k sz
  refine ⟨hs, hq, ?_, hd⟩
  rw [← flat_get he _ hq _ hr, hd]; exact hu
/-- Where it lies. -/
theorem vSrc_at {x : VV} {sz : Nat} {K' : Nat → (Nat → List VV) → Prop} (hv : vSrc x h sz K') (r : RepH β h w) (hbx : gd β h.length x) :
    ∃ m el A c, K' m el ∧ Els β h.length sz m el ∧ m ≤ maxI ∧ den β x = .slice (A.map fun q : Nat × Nat => ⟨q.1, q.2, none⟩) m c ∧ (0 < m → 0 < sz → ∃ g o, A = some (g, o) ∧ ∀ j, j < m → ∀ i u, (el j)[i]? = some u → w.cell? ⟨g, o + (j * sz + i), none⟩ = some (den β u)) := by
  have hadr : ∀ id, adr β id 0 = (β id).map fun q => ⟨q.1, q.2, none⟩ := fun id => by simp [adr]
  unfold vSrc at hv
  split at hv
  · exact ⟨0, _, none, 0, hv, fun j hj => by omega, by simp [maxI], rfl, fun h0 => by omega⟩
  · rename_i id m c
    rw [nth_eq] at hv
    split at hv
    · rename_i s n el hb
      obtain ⟨⟨rfl, rfl⟩, hK⟩ := hv
      obtain ⟨h1, h2, h3⟩ := r.blk id _ hb
      exact ⟨n, el, β id, c, hK, h2, h1, by simp only [den, hadr], h3⟩
    · rename_i ty s n cap el hb
      obtain ⟨⟨rfl, rfl⟩, hK⟩ := hv
      have hbb := (r.blk id _ hb).deg
      obtain ⟨h1, h2, h3⟩ := hbb
      exact ⟨n, el, β id, c, hK, h2, h1, by simp only [den, hadr], h3⟩
    · exact hv.elim
  · rename_i p s n cap el
    obtain ⟨rfl, hK⟩ := hv
    obtain ⟨⟨hn, hc, hp⟩, hj⟩ := hbx.2
    refine ⟨n, el, p, cap, hK, fun j hj' => ⟨(hj j hj').1.1, ⟨bdL_mono (Nat.zero_le _) _ (hj j hj').1.2.1, (hj j hj').2⟩, (hj j hj').1.2.2.1⟩, by omega, by simp only [den], fun h0 _ => ?_⟩
    cases p with
    | none => have := hp rfl; omega
    | some q =>
      refine ⟨q.1, q.2, rfl, fun j hj' i u hu => ?_⟩
      rw [(hj j hj').1.2.2.2 q.1 q.2 rfl w r.fz i u hu, den_congr (β := noVal) (β' := β) (n := 0) (fun i hi => by omega) u (bd_mem (hj j hj').1.2.1 hu)]
  · rename_i id idx sz0 fo esz n cap
    rw [nth_eq] at hv
    split at hv
    · rename_i b hb
      obtain ⟨l, ⟨⟨rfl, hle, hl0, hmx⟩, hK⟩, hg, h1, hc⟩ := cont_cells r hb hv
      obtain ⟨g, o, hid, hcell⟩ := hc hl0
      have hin : ∀ j, j < n → fo + j * esz + esz ≤ l.length := fun j hj => by
        have : j * esz + esz ≤ n * esz := by rw [← Nat.succ_mul]; exact Nat.mul_le_mul_right _ hj
        omega
      have he : Els β h.length esz n fun j => seg l (fo + j * esz) esz := fun j hj => by
        have hm : ∀ u ∈ seg l (fo + j * esz) esz, u ∈ l := fun u hu => by
          rw [seg_eq] at hu; exact List.mem_of_mem_drop (List.mem_of_mem_take hu)
        exact ⟨by show (seg l (fo + j * esz) esz).length = esz; rw [seg_eq]; simp; have := hin j hj; omega, (gdL_iff _ _ _).2 fun u hu => (gdL_iff _ _ _).1 hg u (hm u hu), fun u hu => h1 u (hm u hu)⟩
      have e : den β (.asl id idx sz0 fo esz n cap) = .slice ((some (g, o + (idx * sz0 + fo)) : Option (Nat × Nat)).map fun q => ⟨q.1, q.2, none⟩) n cap := by simp [den, adr, hid]
      refine ⟨n, _, _, cap, hK, he, hmx, e, fun _ _ => ⟨_, _, rfl, fun j hj i u hu => ?_⟩⟩
      have hu' : l[fo + j * esz + i]? = some u := by
        have hu : (seg l (fo + j * esz) esz)[i]? = some u := hu
        rw [seg_eq, List.getElem?_take] at hu
        split at hu
        · rwa [List.getElem?_drop] at hu
        · cases hu
      rw [← hcell _ u hu']; congr 2; omega
    · exact hv.elim
  · exact hv.elim

theorem vSrc_ok {x : VV} {sz : Nat} {K' : Nat → (Nat → List VV) → Prop} {tx e' : TypeId} (hv : vSrc x h sz K') (r : RepH β h w) (hbx : gd β h.length x) (hk : P.underlying tx = some (.slice e')) :
    ∃ m el, K' m el ∧ Els β h.length sz m el ∧ m ≤ maxI ∧ Src P sz tx (den β x) m (denL β (flat m el)) w := by
  have build : ∀ (A : Option (Nat × Nat)) (m c : Nat) (el : Nat → List VV), Els β h.length sz m el → (0 < m → 0 < sz → ∃ g o, A = some (g, o) ∧ ∀ j, j < m → ∀ i u, (el j)[i]? = some u → w.cell? ⟨g, o + (j * sz + i), none⟩ = some (den β u)) →
      Src P sz tx (.slice (A.map fun q => ⟨q.1, q.2, none⟩) m c) m (denL β (flat m el)) w := fun A m c el he hc => by
    have hone : ∀ u ∈ denL β (flat m el), u.oneCell' = true := fun u hu => by
      rw [denL_map] at hu
      obtain ⟨x, hx, rfl⟩ := List.mem_map.1 hu
      obtain ⟨j, hj, hxj⟩ := flat_mem hx
      exact den_one β x ((he j hj).2.2 x hxj)
    have hlen : (denL β (flat m el)).length = m * sz := by rw [denL_length, flat_length he]
    cases A with
    | none =>
      have h0 : m = 0 ∨ sz = 0 := by
        rcases Nat.eq_zero_or_pos m with c | c
        · exact .inl c
        · rcases Nat.eq_zero_or_pos sz with c' | c'
          · exact .inr c'
          · obtain ⟨g, o, hg, _⟩ := hc c c'
            cases hg
      have hnil : denL β (flat m el) = [] := List.eq_nil_of_length_eq_zero (by rw [hlen]; rcases h0 with rfl | rfl <;> simp)
      rw [hnil]
      refine ⟨.inl ⟨e', hk⟩, fun _ => rfl, ?_, ?_, ?_, fun _ h => by cases h⟩
      · simp [Builtin.firstCells]
      · simp [Builtin.firstCells]
      · rcases h0 with rfl | rfl <;> simp
    | some p =>
      obtain ⟨g, o⟩ := p
      simp only [Option.map_some]
      refine Src.ofSlice w hk ⟨g, o, none⟩ m c _ hlen (fun k u hu => ?_) hone
      rw [denL_get, Option.map_eq_some_iff] at hu
      obtain ⟨v, hv, rfl⟩ := hu
      obtain ⟨hs, hq, hel, hd⟩ := flat_at he hv
      obtain ⟨g', o', hg, hcell⟩ := hc (Nat.lt_of_le_of_lt (Nat.zero_le _) hq) hs
      injection hg with hg; injection hg with e1 e2; subst e1; subst e2
      rw [add_at, ← hcell _ hq _ _ hel, hd]
  obtain ⟨m, el, A, c, h1, h2, h3, h4, h5⟩ := vSrc_at hv r hbx
  rw [h4]
  exact ⟨m, el, h1, h2, h3, build A m c el h2 h5⟩

/-- The slice type's element: its number, its cells, its bytes. -/
def tapp (P : Program) (t : TypeId) : Option (TypeId × Nat × Nat) :=
  match P.underlying t with
  | some (.slice e) => match P.info? e with
    | some i => match i.zero with
      | some z => if z.cells.size = i.size ∧ 0 < i.size then some (e, i.size, i.bytes) else none
      | none => none
    | none => none
  | _ => none
def elApp (n : Nat) (a b : Nat → List VV) : Nat → List VV := fun j => if j < n then a j else b (j - n)
def vApp (P : Program) (t : TypeId) (s x : VV) (h : List Blk) (K : VV → List Blk → Prop) : Prop :=
  match tapp P t with
  | none => False
  | some (e, sz, bytes) => vSrc x h sz fun m elx =>
    match s with
    | .nilSlice => m * bytes ≤ 140737488355328 ∧ m ≤ maxI ∧ ∀ cap', m ≤ cap' → cap' ≤ maxI → K (.slice h.length m cap') (h ++ [.own e sz m cap' elx])
    | .slice id n cap => match nth h id with
      | some (.own e' sz' n' cap0 el) => (e' = e ∧ sz' = sz ∧ n' = n ∧ cap0 = cap ∧ (n + m) * bytes ≤ 140737488355328 ∧ n + m ≤ maxI) ∧ ∀ cap', n + m ≤ cap' → cap' ≤ maxI → K (.slice h.length (n + m) cap') (lset h id .gone ++ [.own e sz (n + m) cap' (elApp n el elx)])
      | some (.row sz' n' el) => (sz' = sz ∧ n' = n ∧ cap < n + m ∧ (n + m) * bytes ≤ 140737488355328 ∧ n + m ≤ maxI) ∧ ∀ cap', n + m ≤ cap' → cap' ≤ maxI → K (.slice h.length (n + m) cap') (h ++ [.own e sz (n + m) cap' (elApp n el elx)])
      | _ => False
    | .ro p sz0 n cap el => (sz0 = sz ∧ (m = 0 ∨ cap < n + m) ∧ (n + m) * bytes ≤ 140737488355328 ∧ n + m ≤ maxI) ∧ (m = 0 → K (.ro p sz0 n cap el) h) ∧ (cap < n + m → ∀ cap', n + m ≤ cap' → cap' ≤ maxI → K (.slice h.length (n + m) cap') (h ++ [.own e sz (n + m) cap' (elApp n el elx)]))
    | _ => False

theorem tapp_info {t : TypeId} {e : TypeId} {sz bytes : Nat} (ht : tapp P t = some (e, sz, bytes)) :
    ∃ i z, P.underlying t = some (.slice e) ∧ P.info? e = some i ∧ i.zero = some z ∧ z.cells.size = sz ∧ i.size = sz ∧ i.bytes = bytes ∧ 0 < sz := by
  unfold tapp at ht
  split at ht
  · rename_i e' hu
    split at ht
    · rename_i i hi
      split at ht
      · rename_i z hz
        split at ht
        · rename_i hc
          simp only [Option.some.injEq, Prod.mk.injEq] at ht
          obtain ⟨rfl, rfl, rfl⟩ := ht
          exact ⟨i, z, hu, hi, hz, hc.1, rfl, rfl, hc.2⟩
        · cases ht
      · cases ht
    · cases ht
  · cases ht
theorem elApp_els {β : Val} {n sz a b : Nat} {f g : Nat → List VV} (hf : Els β n sz a f) (hg : Els β n sz b g) : Els β n sz (a + b) (elApp a f g) := fun j hj => by
  unfold elApp
  by_cases c : j < a
  · rw [if_pos c]; exact hf j c
  · rw [if_neg c]; exact hg (j - a) (by omega)
/-- The arm that grows: a new row. -/
theorem grow_ok {t ty e : TypeId} {i : TypeInfo} {z : Value} {sz bytes n m cap : Nat} {base : Option Addr} {x : Value} {el elx : Nat → List VV} (ht : P.underlying t = some (.slice e)) (hi : P.info? e = some i) (hz : i.zero = some z)
    (hzs : z.cells.size = sz) (his : i.size = sz) (hib : i.bytes = bytes) (hsz : 0 < sz) (r : RepH β h w) (he : Els β h.length sz n el) (hex : Els β h.length sz m elx)
    (hs : Src P sz t (.slice base n cap) n (denL β (flat n el)) w) (hx : Src P sz t x m (denL β (flat m elx)) w)
    (hg : cap < n + m) (h63 : n + m ≤ maxI) (hb : (n + m) * bytes ≤ 140737488355328)
    (hK : ∀ cap', n + m ≤ cap' → cap' ≤ maxI → K (.slice h.length (n + m) cap') (h ++ [.own e sz (n + m) cap' (elApp n el elx)])) :
    YldV P (Builtin.append_ #[t, t] ty #[.slice base n cap, x]) β h w K := by
  subst his
  subst hib
  have hrun := run_append_grow_src (P := P) w t t ty e i z ht hi hz base n cap _ hs.cellsD x m _ hx hg (by unfold maxI at h63; omega) (growslice_fits hg hb)
  have hge := grownCap_ge w (n + m) cap e
  have hle : grownCap w (n + m) cap e ≤ maxI := grownCap_le_maxLen w (n + m) cap e h63
  have hk : ∀ k, k < w.heap.size → (w.drew.alloc (.cells ((denL β (flat n el) ++ denL β (flat m elx)).toArray ++ Builtin.zeroCells z.cells (grownCap w (n + m) cap e - (n + m))) e)).heap[k]? = w.heap[k]? := fun k hk => heap_alloc_old w.drew _ hk
  have ext : ∀ i, i < h.length → upd β h.length (some (w.heap.size, 0)) i = β i := fun i hi => upd_old _ _ _ _ hi
  have hels := elApp_els he hex
  refine ⟨_, _, _, .slice h.length (n + m) (grownCap w (n + m) cap e), ?_, r.push (b := .own e i.size (n + m) (grownCap w (n + m) cap e) (elApp n el elx)) (Nat.le_refl _) hk ?_, LinkN.push (Nat.le_refl _) rfl rfl rfl (by simp) hk, by simp [gd, bd, okV], hK _ hge hle⟩
  · rw [hrun]; simp only [den, adr, upd_same, Option.map_some]
  · refine ⟨hge, hle, hels.mono (by omega) (FLe.refl _), .inr ⟨w.heap.size, _, upd_same _ _ _, heap_alloc_new w.drew _, ?_, fun j hj q u hu => ?_⟩⟩
    · simp only [Array.size_append, List.size_toArray, List.length_append, denL_length, flat_length he, flat_length hex, size_zeroCells, hzs]
      rw [← Nat.add_mul, ← Nat.add_mul]; congr 1; omega
    · have hq : q < i.size := by have := (List.getElem?_eq_some_iff.1 hu).1; rw [(hels j hj).1] at this; exact this
      rw [den_congr ext u (gd_mem (hels j hj).2.1 hu).1]
      have h1 : j * i.size + q < (denL β (flat n el) ++ denL β (flat m elx)).length := by
        simp only [List.length_append, denL_length, flat_length he, flat_length hex]
        rw [← Nat.add_mul]
        have : j * i.size + i.size ≤ (n + m) * i.size := by rw [← Nat.succ_mul]; exact Nat.mul_le_mul_right _ hj
        omega
      rw [Array.getElem?_append_left (by simpa using h1), List.getElem?_toArray]
      unfold elApp at hu
      by_cases c : j < n
      · rw [if_pos c] at hu
        have : j * i.size + i.size ≤ n * i.size := by rw [← Nat.succ_mul]; exact Nat.mul_le_mul_right _ c
        rw [List.getElem?_append_left (by rw [denL_length, flat_length he]; omega), denL_get, flat_get he j c q hq, hu]; rfl
      · rw [if_neg c] at hu
        have e1 : n * i.size ≤ j * i.size := Nat.mul_le_mul_right _ (by omega)
        rw [List.getElem?_append_right (by rw [denL_length, flat_length he]; omega), denL_get, denL_length, flat_length he]
        have e2 : j * i.size + q - n * i.size = (j - n) * i.size + q := by rw [Nat.sub_mul]; omega
        rw [e2, flat_get hex (j - n) (by omega) q hq, hu]; rfl
/-- The arm that has room: into the row itself. -/
theorem room_ok {t ty e : TypeId} {i : TypeInfo} {sz n m cap id : Nat} {x : Value} {el elx : Nat → List VV} (ht : P.underlying t = some (.slice e)) (hi : P.info? e = some i)
    (his : i.size = sz) (hsz : 0 < sz) (r : RepH β h w) (hb : h[id]? = some (.own e sz n cap el)) (hex : Els β h.length sz m elx)
    (hx : Src P sz t x m (denL β (flat m elx)) w) (hg : n + m ≤ cap) {g : Nat} {cur : Array Value} (hid : β id = some (g, 0)) (hh : w.heap[g]? = some (.cells cur e (0, 0))) (hsize : cur.size = cap * sz)
    (hcell : ∀ j, j < n → ∀ i u, (el j)[i]? = some u → cur[j * sz + i]? = some (den β u))
    (hK : ∀ cap', n + m ≤ cap' → cap' ≤ maxI → K (.slice h.length (n + m) cap') (lset h id .gone ++ [.own e sz (n + m) cap' (elApp n el elx)])) :
    YldV P (Builtin.append_ #[t, t] ty #[.slice (some ⟨g, 0, none⟩) n cap, x]) β h w K := by
  subst his
  obtain ⟨hn, hcap, he, _⟩ := r.blk id _ hb
  have hroomc : n * i.size + (denL β (flat m elx)).length ≤ cur.size := by
    rw [denL_length, flat_length hex, hsize, ← Nat.add_mul]; exact Nat.mul_le_mul_right _ hg
  have hst := run_storeCells_at (P := P) g (n * i.size) e (denL β (flat m elx)) 0 cur w hh (by omega) hx.one
  simp only [Nat.add_zero] at hst
  have e0 : (⟨g, 0, none⟩ : Addr).add (n * i.size) = ⟨g, n * i.size, none⟩ := by rw [add_at, Nat.zero_add]
  have hrun : (Builtin.append_ #[t, t] ty #[.slice (some ⟨g, 0, none⟩) n cap, x]).run P w = .ok (.slice (some ⟨g, 0, none⟩) (n + m) cap)
      (w.setRow g (cur.toList.take (n * i.size) ++ denL β (flat m elx) ++ cur.toList.drop (n * i.size + (denL β (flat m elx)).length)).toArray) := by
    simp [Builtin.append_, run_underlying ht, sizeOf, typeInfo, hi, hx.len, hg, hx.cells, e0, hst]
  have hels := elApp_els he hex
  have hidl := bd_lt hb
  have hkeep : ∀ k, bno β id ≠ some k → (w.setRow g (cur.toList.take (n * i.size) ++ denL β (flat m elx) ++ cur.toList.drop (n * i.size + (denL β (flat m elx)).length)).toArray).heap[k]? = w.heap[k]? := fun k hk =>
    setRow_other w g k _ (fun e => hk (by simp [bno, hid, e]))
  have r1 := r.set (b' := .gone) hb rfl hkeep trivial
  have ext : ∀ i, i < h.length → upd β h.length (some (g, 0)) i = β i := fun i hi => upd_old _ _ _ _ hi
  refine ⟨upd β h.length (some (g, 0)), lset h id .gone ++ [.own e i.size (n + m) cap (elApp n el elx)], w.setRow g (cur.toList.take (n * i.size) ++ denL β (flat m elx) ++ cur.toList.drop (n * i.size + (denL β (flat m elx)).length)).toArray, .slice h.length (n + m) cap, ?_, ?_, ?_, by simp [gd, bd, okV, lset_eq], hK cap hg hcap⟩
  · rw [hrun]; simp only [den, adr, upd_same, Option.map_some, Nat.add_zero]
  · -- the block has a new name
    rw [lset_eq]
    have hnew : BlkRep (h.length + 1) (upd β h.length (some (g, 0))) (w.setRow g (cur.toList.take (n * i.size) ++ denL β (flat m elx) ++ cur.toList.drop (n * i.size + (denL β (flat m elx)).length)).toArray) h.length (.own e i.size (n + m) cap (elApp n el elx)) := by
      refine ⟨hg, hcap, hels.mono (by omega) (FLe.refl _), .inr ⟨g, _, upd_same _ _ _, setRow_heap w g _ _ e _ hh, ?_, fun j hj q u hu => ?_⟩⟩
      · simp only [List.size_toArray, List.length_append, List.length_take, List.length_drop, Array.length_toList]; omega
      · have hq : q < i.size := by have := (List.getElem?_eq_some_iff.1 hu).1; rw [(hels j hj).1] at this; exact this
        rw [den_congr ext u (gd_mem (hels j hj).2.1 hu).1, List.getElem?_toArray]
        unfold elApp at hu
        by_cases c : j < n
        · rw [if_pos c] at hu
          have : j * i.size + i.size ≤ n * i.size := by rw [← Nat.succ_mul]; exact Nat.mul_le_mul_right _ c
          rw [List.append_assoc, List.getElem?_append_left (by simp; omega), List.getElem?_take, if_pos (by omega)]
          have := hcell j c q u hu
          simpa using this
        · rw [if_neg c] at hu
          have e1 : n * i.size ≤ j * i.size := Nat.mul_le_mul_right _ (by omega)
          have e2 : j * i.size + i.size ≤ (n + m) * i.size := by rw [← Nat.succ_mul]; exact Nat.mul_le_mul_right _ hj
          have e3 : (List.take (n * i.size) cur.toList).length = n * i.size := by simp; omega
          have e4 : (n + m) * i.size = n * i.size + m * i.size := Nat.add_mul _ _ _
          rw [List.append_assoc, List.getElem?_append_right (by rw [e3]; omega), e3, List.getElem?_append_left (by rw [denL_length, flat_length hex]; omega), denL_get]
          have e5 : j * i.size + q - n * i.size = (j - n) * i.size + q := by rw [Nat.sub_mul]; omega
          rw [e5, flat_get hex (j - n) (by omega) q hq, hu]; rfl
    have hlen : (h.set id .gone).length = h.length := List.length_set ..
    constructor
    · intro k c hc
      rw [List.length_append, hlen, List.length_singleton]
      rcases Nat.lt_or_ge k h.length with hk | hk
      · rw [List.getElem?_append_left (by rw [hlen]; exact hk)] at hc
        have := r1.blk k c hc
        rw [hlen] at this
        exact BlkRep.move (by omega) hk ext (FLe.refl _) (fun _ _ => rfl) this
      · rw [List.getElem?_append_right (by rw [hlen]; exact hk), hlen] at hc
        have hk0 : k - h.length = 0 := by
          have := (List.getElem?_eq_some_iff.1 hc).1
          simp at this; omega
        have : k = h.length := by omega
        subst this
        rw [hk0] at hc
        obtain rfl := by simpa using hc
        exact hnew
    · intro k l c d hc hd hkl hco hdl q hkq hlq
      have old : ∀ k c, (h.set id .gone ++ [Blk.own e i.size (n + m) cap (elApp n el elx)])[k]? = some c → k < h.length → c.held → k ≠ id ∧ h[k]? = some c := fun k c hc hk hh => by
        rw [List.getElem?_append_left (by rw [hlen]; exact hk)] at hc
        have hne : k ≠ id := fun e => by
          subst e
          rw [List.getElem?_set_self hk] at hc
          injection hc with hc; subst hc
          rcases hh with hh | hh
          · simp [Blk.owned] at hh
          · exact hh.elim
        exact ⟨hne, by rwa [List.getElem?_set_ne (Ne.symm hne)] at hc⟩
      have last : ∀ k c, (h.set id .gone ++ [Blk.own e i.size (n + m) cap (elApp n el elx)])[k]? = some c → ¬ k < h.length → k = h.length := fun k c hc hk => by
        have := (List.getElem?_eq_some_iff.1 hc).1
        simp at this; omega
      have hbnew : bno (upd β h.length (some (g, 0))) h.length = some g := by simp [bno, upd]
      have hbid : bno β id = some g := by simp [bno, hid]
      by_cases hk : k < h.length <;> by_cases hl : l < h.length
      · obtain ⟨_, hc'⟩ := old k c hc hk (.inl hco)
        obtain ⟨_, hd'⟩ := old l d hd hl hdl
        simp only [bno, ext k hk] at hkq
        simp only [bno, ext l hl] at hlq
        exact r.sep k l c d hc' hd' hkl hco hdl q hkq hlq
      · obtain ⟨hne, hc'⟩ := old k c hc hk (.inl hco)
        have := last l d hd hl
        subst this
        simp only [bno, ext k hk] at hkq
        rw [hbnew] at hlq
        injection hlq with hlq
        exact r.sep k id c _ hc' hb hne hco (.inl rfl) q hkq (by rw [hbid, hlq])
      · obtain ⟨hne, hd'⟩ := old l d hd hl hdl
        have := last k c hc hk
        subst this
        simp only [bno, ext l hl] at hlq
        rw [hbnew] at hkq
        injection hkq with hkq
        exact r.sep id l _ d hb hd' (Ne.symm hne) rfl hdl q (by rw [hbid, hkq]) hlq
      · have := last k c hc hk
        have := last l d hd hl
        omega
    · exact r1.fz
    · intro k c hc ho q hq
      rcases Nat.lt_or_ge k h.length with hk | hk
      · rw [List.getElem?_append_left (by rw [hlen]; exact hk)] at hc
        exact r1.fsep k c hc ho q (by rw [← hq]; simp only [bno, ext k hk])
      · have : k = h.length := by
          have := (List.getElem?_eq_some_iff.1 hc).1
          simp at this; omega
        subst this
        exact r.fsep id _ hb rfl q (by rw [← hq]; simp [bno, upd, hid])
  · rw [lset_eq]
    have l1 : LinkN β h w β (h.set id .gone) (w.setRow g (cur.toList.take (n * i.size) ++ denL β (flat m elx) ++ cur.toList.drop (n * i.size + (denL β (flat m elx)).length)).toArray) :=
      LinkN.set hb rfl rfl rfl rfl (by simp [World.setRow]) (fun k hk _ => hkeep k hk)
    have hlen : (h.set id .gone).length = h.length := List.length_set ..
    refine ⟨⟨by simp, ext, l1.fz, l1.fzn, l1.fr, fun k c hc ho q hq => ?_, fun k c hc ho q hq => ?_⟩, rfl⟩
    · rcases Nat.lt_or_ge k h.length with hk | hk
      · rw [List.getElem?_append_left (by rw [hlen]; exact hk)] at hc
        exact l1.fresh k c hc ho q (by rw [← hq]; simp only [bno, ext k hk])
      · have : k = h.length := by
          have := (List.getElem?_eq_some_iff.1 hc).1
          simp at this; omega
        subst this
        exact .inl ⟨id, _, hb, rfl, by rw [← hq]; simp [bno, upd, hid]⟩
    · rcases Nat.lt_or_ge k h.length with hk | hk
      · rw [List.getElem?_append_left (by rw [hlen]; exact hk)] at hc
        exact l1.views k c hc ho q (by rw [← hq]; simp only [bno, ext k hk])
      · have : k = h.length := by
          have := (List.getElem?_eq_some_iff.1 hc).1
          simp at this; omega
        subst this
        exact .inl ⟨id, _, hb, .inl rfl, by rw [← hq]; simp [bno, upd, hid]⟩
/-- A block is forgotten. -/
theorem YldV.forget {s : Sem Value} {id : Nat} (hv : YldV P s β h w fun v h' => K v (lset h' id .gone)) : YldV P s β h w K := by
  obtain ⟨β', h', w', v, hr, r', l', hb, hK⟩ := hv
  rw [lset_eq] at hK
  rcases Nat.lt_or_ge id h'.length with c | c
  · have hg := List.getElem?_eq_getElem c
    exact ⟨β', _, w', v, hr, r'.weaken (b' := .gone) hg rfl (fun e => (gone_held e).elim) trivial, l'.trans (LinkN.weaken (id := id) (b' := .gone) hg rfl (fun e => (gone_held e).elim)), by simpa using hb, hK⟩
  · rw [List.set_eq_of_length_le c] at hK
    exact ⟨β', h', w', v, hr, r', l', hb, hK⟩
theorem nil_ok {t ty e : TypeId} {i : TypeInfo} {z : Value} {sz bytes m : Nat} {x : Value} {elx : Nat → List VV} (ht : P.underlying t = some (.slice e)) (hi : P.info? e = some i) (hz : i.zero = some z)
    (hzs : z.cells.size = sz) (his : i.size = sz) (hib : i.bytes = bytes) (hsz : 0 < sz) (r : RepH β h w) (hex : Els β h.length sz m elx)
    (hx : Src P sz t x m (denL β (flat m elx)) w) (h63 : m ≤ maxI) (hb : m * bytes ≤ 140737488355328)
    (hK : ∀ cap', m ≤ cap' → cap' ≤ maxI → K (.slice h.length m cap') (h ++ [.own e sz m cap' elx])) :
    YldV P (Builtin.append_ #[t, t] ty #[.slice none 0 0, x]) β h w K := by
  rcases Nat.eq_zero_or_pos m with h0 | h0
  · subst h0
    have hrun : (Builtin.append_ #[t, t] ty #[.slice none 0 0, x]).run P w = .ok (.slice none 0 0) w := by
      have h1 := hx.cells
      have h2 : denL β (flat 0 elx) = [] := rfl
      rw [h2] at h1
      simp [Builtin.append_, run_underlying ht, sizeOf, typeInfo, hi, his, hx.len, h1]
    refine ⟨_, _, w, .slice h.length 0 0, ?_, r.nilOwn e sz elx, LinkN.nilOwn e sz elx, by simp [gd, bd, okV], hK 0 (Nat.le_refl _) (by simp [maxI])⟩
    rw [hrun]; simp only [den, adr, upd_same, Option.map_none]
  · have hs : Src P sz t (.slice none 0 0) 0 (denL β (flat 0 fun _ => [])) w := Src.ofNil w ht 0
    refine grow_ok (P := P) (ty := ty) (K := K) ht hi hz hzs his hib hsz r (n := 0) (el := fun _ => []) (fun j hj => by omega) hex hs hx (by omega) (by omega) (by simpa using hb) (fun cap' h1 h2 => ?_)
    have := hK cap' (by omega) h2
    have e1 : elApp 0 (fun _ => []) elx = elx := by funext j; simp [elApp]
    rw [e1, Nat.zero_add]; exact this
theorem lset_app {α : Type} (l : List α) (b y : α) (id : Nat) (h : id < l.length) : lset (l ++ [b]) id y = lset l id y ++ [b] := by
  rw [lset_eq, lset_eq, List.set_append_left _ _ h]
theorem vApp_ok {t ty : TypeId} {s x : VV} (hv : vApp P t s x h K) (r : RepH β h w) (hbs : gd β h.length s) (hbx : gd β h.length x) : YldV P (Builtin.append_ #[t, t] ty #[den β s, den β x]) β h w K := by
  unfold vApp at hv
  split at hv
  · exact hv.elim
  · rename_i e sz bytes ht
    obtain ⟨i, z, hu, hi, hz, hzs, his, hib, hsz⟩ := tapp_info ht
    obtain ⟨m, elx, hv', hex, hmx, hx⟩ := vSrc_ok (P := P) (tx := t) hv r hbx hu
    clear hv
    split at hv'
    · obtain ⟨hb, hm, hK⟩ := hv'
      exact nil_ok hu hi hz hzs his hib hsz r hex hx hm hb hK
    · rename_i id n cap
      rw [nth_eq] at hv'
      split at hv'
      · rename_i e' sz' n' cap0 el hb
        obtain ⟨⟨rfl, rfl, rfl, rfl, hby, h63⟩, hK⟩ := hv'
        obtain ⟨hn, hcap, he, hcase⟩ := r.blk id _ hb
        have hidl := bd_lt hb
        rcases hcase with ⟨hid, hc0⟩ | ⟨g, cur, hid, hh, hsize, hcell⟩
        · -- nil
          subst hc0
          have hn0 : n' = 0 := by omega
          subst hn0
          have hden : den β (.slice id 0 0) = .slice none 0 0 := by simp only [den, adr, hid, Option.map_none]
          rw [hden]
          refine YldV.forget (id := id) (nil_ok hu hi hz hzs his hib hsz r hex hx hmx (by simpa using hby) (fun cap' h1 h2 => ?_))
          rw [lset_app _ _ _ _ hidl]
          have := hK cap' (by omega) h2
          have e1 : elApp 0 el elx = elx := by funext j; simp [elApp]
          rw [e1, Nat.zero_add] at this; exact this
        · have hden : den β (.slice id n' cap0) = .slice (some ⟨g, 0, none⟩) n' cap0 := by simp only [den, adr, hid, Option.map_some, Nat.add_zero]
          rw [hden]
          rcases Nat.lt_or_ge cap0 (n' + m) with hgr | hgr
          · have hs := vSrc_ok (P := P) (tx := t) (x := .slice id n' cap0) (sz := sz') (K' := fun a b => a = n' ∧ b = el) (by simp [vSrc, nth_eq, hb]) r hbs hu
            obtain ⟨_, _, ⟨rfl, rfl⟩, _, _, hs⟩ := hs
            rw [hden] at hs
            refine YldV.forget (id := id) (grow_ok (P := P) (ty := ty) hu hi hz hzs his hib hsz r he hex hs hx hgr h63 hby (fun cap' h1 h2 => ?_))
            rw [lset_app _ _ _ _ hidl]
            exact hK cap' h1 h2
          · exact room_ok hu hi his hsz r hb hex hx hgr hid hh hsize hcell hK
      · rename_i sz' n' el hb
        obtain ⟨⟨rfl, rfl, hgr, hby, h63⟩, hK⟩ := hv'
        have hs := vSrc_ok (P := P) (tx := t) (x := .slice id n' cap) (sz := sz') (K' := fun a b => a = n' ∧ b = el) (by simp [vSrc, nth_eq, hb]) r hbs hu
        obtain ⟨_, _, ⟨rfl, rfl⟩, he, _, hs⟩ := hs
        exact grow_ok (P := P) (ty := ty) (K := K) hu hi hz hzs his hib hsz r he hex hs hx hgr h63 hby hK
      · exact hv'.elim
    · rename_i p sz0 n cap el
      obtain ⟨⟨rfl, hgr, hby, h63⟩, hK0, hK⟩ := hv'
      have hs := vSrc_ok (P := P) (tx := t) (x := .ro p sz0 n cap el) (sz := sz0) (K' := fun a b => a = n ∧ b = el) (by simp [vSrc]) r hbs hu
      obtain ⟨n', el', ⟨q1, q2⟩, he, _, hs⟩ := hs
      rw [q1, q2] at hs
      rw [q1, q2] at he
      by_cases hgr' : cap < n + m
      · simp only [den] at hs ⊢
        exact grow_ok (P := P) (ty := ty) (K := K) hu hi hz hzs his hib hsz r he hex hs hx hgr' h63 hby (hK hgr')
      · have hm0 : m = 0 := hgr.resolve_right hgr'
        subst hm0
        refine YldV.here r ?_ hbs (hK0 rfl)
        have h1 := hx.cells
        have h2 : denL β (flat 0 elx) = [] := rfl
        rw [h2] at h1
        have hle : n ≤ cap := by omega
        simp only [den]
        cases p with
        | none => simp [Builtin.append_, run_underlying hu, sizeOf, typeInfo, hi, his, hx.len, h1, hle]
        | some q => simp [Builtin.append_, run_underlying hu, sizeOf, typeInfo, hi, his, hx.len, h1, hle, storeCells]
    · exact hv'.elim
/-- Types of an append's arguments: the same slice type, or another slice type behind. -/
def appT (P : Program) (t t' : TypeId) : Prop := t = t' ∨ (tsl P t').isSome = true
theorem append_ty {t t' ty e : TypeId} {s x : Value} {i : TypeInfo} (hi : P.info? e = some i) (hu : P.underlying t = some (.slice e)) (ht : appT P t t') : (Builtin.append_ #[t, t'] ty #[s, x]).run P w = (Builtin.append_ #[t, t] ty #[s, x]).run P w := by
  rcases ht with rfl | ht
  · rfl
  · obtain ⟨e', hu'⟩ := tsl_under ht
    cases s with
    | slice b n c => simp [Builtin.append_, run_underlying hu, run_underlying hu', sizeOf, typeInfo, hi]
    | _ => simp [Builtin.append_, run_underlying hu, run_underlying hu']
theorem vApp_ok2 {t t' ty : TypeId} {s x : VV} (ht : appT P t t') (hv : vApp P t s x h K) (r : RepH β h w) (hbs : gd β h.length s) (hbx : gd β h.length x) : YldV P (Builtin.append_ #[t, t'] ty #[den β s, den β x]) β h w K := by
  obtain ⟨e, i, hu, hi⟩ : ∃ e i, P.underlying t = some (.slice e) ∧ P.info? e = some i := by
    unfold vApp at hv
    split at hv
    · exact hv.elim
    · rename_i e sz bytes ht
      obtain ⟨i, z, hu, hi, _⟩ := tapp_info ht
      exact ⟨e, i, hu, hi⟩
  obtain ⟨β', h', w', v, hr, rest⟩ := vApp_ok (ty := ty) hv r hbs hbx
  exact ⟨β', h', w', v, (append_ty hi hu ht).trans hr, rest⟩
end
end Go.Sx
