/- Pointers held against nil, bytes as a string, copy, make, equality of structs and arrays. -/
import Derived.Test.YtnlammgemaapnaaSxFm
import Derived.Laws.BytesString
import Derived.Laws.MakeOwn
import Derived.Laws.StructEq
set_option linter.unusedSimpArgs false
set_option linter.unusedVariables false
namespace Go.Sx
open Go

section
variable {P : Program} {β : Val} {h : List Blk} {w : World} {K : VV → List Blk → Prop}

/-! #### Pointers and functions held against nil -/
def tptr (P : Program) (t : TypeId) : Bool := match P.underlying t with | some (.pointer _) => true | _ => false
def tfun (P : Program) (t : TypeId) : Bool := match P.underlying t with | some (.func ..) => true | _ => false
def vNe (op : BinOp) (b : Bool) (K : VV → Prop) : Prop :=
  match op with
  | .eql => K (.bool b)
  | .neq => K (.bool (!b))
  | _ => False
def vBinH (P : Program) (op : BinOp) (t : TypeId) (a b : VV) (h : List Blk) (K : VV → List Blk → Prop) : Prop :=
  match a, b with
  | .ptr id idx sz _, .nilPtr => (tptr P t = true ∧ vAt id idx sz h) ∧ vNe op false fun v => K v h
  | .nilPtr, .ptr id idx sz _ => (tptr P t = true ∧ vAt id idx sz h) ∧ vNe op false fun v => K v h
  | .rp .., .nilPtr => tptr P t = true ∧ vNe op false fun v => K v h
  | .nilPtr, .nilPtr => tptr P t = true ∧ vNe op true fun v => K v h
  | .func .., .nilFunc => tfun P t = true ∧ vNe op false fun v => K v h
  | .nilFunc, .nilFunc => tfun P t = true ∧ vNe op true fun v => K v h
  | a, b => vBin P op t a b fun v => K v h
theorem vNe_here {op : BinOp} {b : Bool} {t : TypeId} {x y : Operand} {u v : Value} (hv : vNe op b fun v => K v h) (r : RepH β h w) (hg : ∀ op, (eqGuard op t x y u v).run P w = .ok () w)
    (he : (Op.equalIn 10000 t u v).run P w = .ok b w) (h1 : binOp .eql t u v = (do pure (.bool (← Op.equal t u v)))) (h2 : binOp .neq t u v = (do pure (.bool (!(← Op.equal t u v))))) :
    Here P (do eqGuard op t x y u v; binOp op t u v) β h w K := by
  unfold vNe at hv
  split at hv
  · refine Here.here' r hv ⟨trivial, trivial⟩ ?_
    simp only [den, Sem.run_bind, hg, Result.andThen_ok, h1, Op.equal, Op.maxDepth, he, Sem.run_pure]
  · refine Here.here' r hv ⟨trivial, trivial⟩ ?_
    simp only [den, Sem.run_bind, hg, Result.andThen_ok, h2, Op.equal, Op.maxDepth, he, Sem.run_pure]
  · exact hv.elim
theorem eqGuard_ptr (op : BinOp) (t : TypeId) (x y : Operand) (a b : Option Addr) : (eqGuard op t x y (.pointer a) (.pointer b)).run P w = .ok () w := by
  unfold eqGuard; cases op <;> simp
theorem eqPtrNil (d : Nat) {t e : TypeId} (hu : P.underlying t = some (.pointer e)) (a : Option Addr) : (Op.equalIn (d + 1) t (.pointer a) (.pointer none)).run P w = .ok a.isNone w := by
  cases a <;> simp [Op.equalIn, run_underlying hu]
theorem eqNilPtr (d : Nat) {t e : TypeId} (hu : P.underlying t = some (.pointer e)) (a : Option Addr) : (Op.equalIn (d + 1) t (.pointer none) (.pointer a)).run P w = .ok a.isNone w := by
  cases a <;> simp [Op.equalIn, run_underlying hu]
theorem eqFuncNil (d : Nat) {t : TypeId} (hu : tfun P t = true) (f : Fn) (a b : Array Value) : (Op.equalIn (d + 1) t (.func f a b) .nilFunc).run P w = .ok false w := by
  unfold tfun at hu
  split at hu
  · rename_i hu'; simp [Op.equalIn, run_underlying hu']
  · cases hu
theorem eqNilNil (d : Nat) {t : TypeId} (hu : tfun P t = true) : (Op.equalIn (d + 1) t .nilFunc .nilFunc).run P w = .ok true w := by
  unfold tfun at hu
  split at hu
  · rename_i hu'; simp [Op.equalIn, run_underlying hu']
  · cases hu
theorem tptr_under {t : TypeId} (ht : tptr P t = true) : ∃ e, P.underlying t = some (.pointer e) := by
  unfold tptr at ht
  split at ht
  · rename_i e he; exact ⟨e, he⟩
  · cases ht
theorem vBinH_ok {op : BinOp} {t : TypeId} {a b : VV} {x y : Operand} (hv : vBinH P op t a b h K) (r : RepH β h w) (hba : gd β h.length a) :
    Here P (do eqGuard op t x y (den β a) (den β b); binOp op t (den β a) (den β b)) β h w K := by
  unfold vBinH at hv
  split at hv
  · obtain ⟨⟨ht, ha⟩, hv⟩ := hv
    obtain ⟨e, hu⟩ := tptr_under ht
    obtain ⟨p, hp⟩ := vAt_ok ha r
    simp only [den, adr, hp, Option.map_some]
    exact vNe_here hv r (fun op => eqGuard_ptr op t x y _ _) (eqPtrNil 9999 hu _) rfl rfl
  · obtain ⟨⟨ht, ha⟩, hv⟩ := hv
    obtain ⟨e, hu⟩ := tptr_under ht
    obtain ⟨p, hp⟩ := vAt_ok ha r
    simp only [den, adr, hp, Option.map_some]
    exact vNe_here hv r (fun op => eqGuard_ptr op t x y _ _) (eqNilPtr 9999 hu _) rfl rfl
  · obtain ⟨ht, hv⟩ := hv
    obtain ⟨e, hu⟩ := tptr_under ht
    simp only [den]
    exact vNe_here hv r (fun op => eqGuard_ptr op t x y _ _) (eqPtrNil 9999 hu _) rfl rfl
  · obtain ⟨ht, hv⟩ := hv
    obtain ⟨e, hu⟩ := tptr_under ht
    simp only [den]
    exact vNe_here hv r (fun op => eqGuard_ptr op t x y _ _) (eqPtrNil 9999 hu _) rfl rfl
  · obtain ⟨ht, hv⟩ := hv
    simp only [den]
    exact vNe_here hv r (fun op => by unfold eqGuard; cases op <;> simp) (eqFuncNil 9999 ht _ _ _) rfl rfl
  · obtain ⟨ht, hv⟩ := hv
    simp only [den]
    exact vNe_here hv r (fun op => by unfold eqGuard; cases op <;> simp) (eqNilNil 9999 ht) rfl rfl
  · exact vBin_ok hv r

/-! #### Bytes as a string -/
def isByte : List VV → Bool
  | [.int .u8 _] => true
  | _ => false
def byteOf : List VV → Int
  | [.int _ v] => v
  | _ => 0
def bytesOf (n : Nat) (el : Nat → List VV) : ByteArray := ((List.range n).map fun j => byteOf (el j)).foldl (fun r v => r.push (UInt8.ofNat v.toNat)) ByteArray.empty
def tbytes (P : Program) (t : TypeId) : Bool := match P.underlying t with
  | some (.slice e) => (match P.underlying e with | some (.int .u8) => true | _ => false)
  | _ => false
def tstr (P : Program) (t : TypeId) : Bool := match P.underlying t with | some .string => true | _ => false
def vStr (P : Program) (src dst : TypeId) (x : VV) (h : List Blk) (K : VV → List Blk → Prop) : Prop :=
  (tstr P dst = true ∧ tbytes P src = true) ∧ vSrc x h 1 fun n el => (∀ j, j < n → isByte (el j) = true) ∧ K (.str (bytesOf n el)) h
def vConvH (P : Program) (src dst : TypeId) (x : VV) (h : List Blk) (K : VV → List Blk → Prop) : Prop :=
  match x with
  | .slice .. => vStr P src dst x h K
  | .nilSlice => vStr P src dst x h K
  | .ro .. => vStr P src dst x h K
  | x => vConv P src dst x fun v => K v h
theorem isByte_get {l : List VV} (h : isByte l = true) : l = [.int .u8 (byteOf l)] := by
  unfold isByte at h
  split at h
  · rfl
  · cases h
theorem flat_bytes (β : Val) : ∀ (n : Nat) (el : Nat → List VV), (∀ j, j < n → isByte (el j) = true) → denL β (flat n el) = ((List.range n).map fun j => byteOf (el j)).map (Value.int .u8)
  | 0, _, _ => rfl
  | n + 1, el, hb => by
    have ih := flat_bytes β n el (fun j hj => hb j (by omega))
    have e : flat (n + 1) el = flat n el ++ el n := by simp [flat, List.range_succ]
    rw [e, denL_append, ih, isByte_get (hb n (by omega)), List.range_succ]
    simp [denL, den, byteOf]
theorem vStr_ok {src dst : TypeId} {x : VV} (hv : vStr P src dst x h K) (r : RepH β h w) (hbx : gd β h.length x) (hx : (∃ a b c, x = .slice a b c) ∨ x = .nilSlice ∨ ∃ p s n c el, x = .ro p s n c el) : Here P (convert src dst (den β x)) β h w K := by
  obtain ⟨⟨hd, hs⟩, hv⟩ := hv
  unfold tbytes at hs
  split at hs
  · rename_i e hu
    split at hs
    · rename_i hu8
      unfold tstr at hd
      split at hd
      · rename_i hdu
        obtain ⟨n, el, ⟨hbt, hK⟩, he, hn, hsrc⟩ := vSrc_ok (P := P) (tx := src) hv r hbx hu
        refine Here.here' r hK ⟨trivial, trivial⟩ ?_
        have hlen := hsrc.len w
        have hcells := hsrc.cells
        rw [flat_bytes β n el hbt] at hcells
        have key : ∀ (A : Option Addr) (m c : Nat), den β x = .slice A m c → (convert src dst (.slice A m c)).run P w = (Conv.bytesToString (.slice A m c)).run P w := fun A m c _ => by
          simp only [convert, Sem.run_bind, run_underlying hu, run_underlying hdu, run_underlying hu8, Result.andThen_ok]
        have fin : ∀ (A : Option Addr) (m c : Nat), den β x = .slice A m c → (convert src dst (den β x)).run P w = .ok (den β (.str (bytesOf n el))) w := fun A m c hA => by
          rw [hA, key A m c hA]
          rw [hA] at hlen hcells
          have hm : m = n := by simpa [Builtin.lenOf] using hlen
          subst hm
          cases A with
          | none =>
            have hnil : ((List.range m).map fun j => byteOf (el j)) = [] := by
              have e1 := hcells
              simp only [Builtin.firstCells, Sem.run_pure, Result.ok.injEq] at e1
              have e2 := congrArg Array.toList e1.1
              simpa using e2.symm
            simp only [Conv.bytesToString, Sem.run_pure, den, bytesOf, hnil, List.foldl_nil]
          | some a =>
            simp only [Builtin.firstCells, Nat.mul_one] at hcells
            rw [run_bytesToString w a m c _ hcells]; rfl
        rcases hx with ⟨a, b, c, rfl⟩ | rfl | ⟨p, s, n', c, el', rfl⟩
        · exact fin _ _ _ rfl
        · exact fin _ _ _ rfl
        · exact fin _ _ _ rfl
      · cases hd
    · cases hs
  · cases hs
theorem vConvH_ok {src dst : TypeId} {x : VV} (hv : vConvH P src dst x h K) (r : RepH β h w) (hbx : gd β h.length x) : Here P (convert src dst (den β x)) β h w K := by
  unfold vConvH at hv
  split at hv
  · exact vStr_ok hv r hbx (.inl ⟨_, _, _, rfl⟩)
  · exact vStr_ok hv r hbx (.inr (.inl rfl))
  · exact vStr_ok hv r hbx (.inr (.inr ⟨_, _, _, _, _, rfl⟩))
  · exact vConv_ok hv r

/-! #### make -/
def vMake (P : Program) (t : TypeId) (l c : VV) (h : List Blk) (K : VV → List Blk → Prop) : Prop :=
  match l, c with
  | .int _ l, .int _ c => match tapp P t, tsl P t with
    | some (e, sz, bytes), some _ => match tzero P e with
      | some z => (0 ≤ l ∧ l ≤ c ∧ c.toNat * bytes ≤ 281474976710656 ∧ c.toNat ≤ maxI ∧ z.length = sz ∧ z.all oneV = true) ∧ K (.slice h.length l.toNat c.toNat) (h ++ [.own e sz l.toNat c.toNat fun _ => z])
      | none => False
    | _, _ => False
  | _, _ => False
theorem vMake_ok {t : TypeId} {l c : VV} (hv : vMake P t l c h K) (r : RepH β h w) : YldV P (Instr.makeSlice t (den β l) (den β c)) β h w K := by
  unfold vMake at hv
  split at hv
  · rename_i kl l kc c
    split at hv
    · rename_i e sz bytes _ ht _
      split at hv
      · rename_i z hz
        obtain ⟨⟨h0, hlc, hby, hmx, hzl, hone⟩, hK⟩ := hv
        rw [List.all_eq_true] at hone
        obtain ⟨i, zv, hu, hi, hzz, hzs, his, hib, hsz⟩ := tapp_info ht
        obtain ⟨zv', hzr, hzc, hzb⟩ := zero_run (P := P) (β := β) (w := w) hz
        have hzz' : zv' = zv := by
          have : (zeroValue e).run P w = .ok zv w := by simp [zeroValue, typeInfo, hi, hzz]
          rw [this] at hzr
          injection hzr with q _; exact q.symm
        subst hzz'
        have hby' : (i.bytes : Int) * c ≤ 281474976710656 := by
          have h1 : ((c.toNat * bytes : Nat) : Int) ≤ 281474976710656 := by omega
          have hc : ((c.toNat : Nat) : Int) = c := by omega
          rw [Int.natCast_mul, hc, Int.mul_comm] at h1
          rw [hib]; exact h1
        have hrun := run_make (P := P) w t e i zv' hu hi hzz kl kc l c h0 hlc hby' (by unfold maxI at hmx; omega)
        have hk : ∀ k, k < w.heap.size → (w.alloc (.cells (madeCells zv'.cells (c.toNat * i.size)) e)).heap[k]? = w.heap[k]? := fun k hk => heap_alloc_old w _ hk
        refine ⟨_, _, _, .slice h.length l.toNat c.toNat, ?_, r.push (b := .own e sz l.toNat c.toNat fun _ => z) (Nat.le_refl _) hk ?_, LinkN.push (Nat.le_refl _) rfl rfl rfl (by simp) hk, by simp [gd, bd, okV], hK⟩
        · simp only [den]
          rw [hrun]; simp only [den, adr, upd_same, Option.map_some]
        · have ext : ∀ i, i < h.length → upd β h.length (some (w.heap.size, 0)) i = β i := fun i hi => upd_old _ _ _ _ hi
          refine ⟨by omega, hmx, fun j hj => ⟨hzl, gdL_mono (Nat.zero_le _) (FLe.refl _) hzb, hone⟩, .inr ⟨w.heap.size, _, upd_same _ _ _, heap_alloc_new w _, by rw [his]; simp [madeCells], fun j hj q u hu' => ?_⟩⟩
          have hq : q < sz := by have := (List.getElem?_eq_some_iff.1 hu').1; rw [hzl] at this; exact this
          rw [den_congr ext u (gd_mem (gdL_mono (Nat.zero_le h.length) (FLe.refl β.fz) hzb) hu').1]
          have hin : j * sz + q < c.toNat * i.size := by
            rw [his]
            have : j * sz + sz ≤ c.toNat * sz := by rw [← Nat.succ_mul]; exact Nat.mul_le_mul_right _ (by omega)
            omega
          unfold madeCells
          rw [Array.getElem?_map, Array.getElem?_range, if_pos hin, Option.map_some]
          have hmod : (j * sz + q) % zv'.cells.size = q := by rw [hzs, Nat.mul_comm, Nat.mul_add_mod, Nat.mod_eq_of_lt hq]
          rw [hmod]
          have hlz : q < (denL β z).length := by rw [denL_length, hzl]; exact hq
          have e2 : (denL β z)[q]? = some (den β u) := by rw [denL_get, hu']; rfl
          congr 1
          rw [hzc, List.getElem!_toArray]
          rw [getElem!_pos (denL β z) _ hlz]
          have := List.getElem?_eq_getElem hlz
          rw [this] at e2
          injection e2
      · exact hv.elim
    · exact hv.elim
  · exact hv.elim
end
end Go.Sx
