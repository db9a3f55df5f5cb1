/- Closed facts on the types of this program, each reckoned by the kernel. -/
import Derived.Test.YtnlammgemaapnaaSxN
import Derived.Test.YtnlammgemaapnaaProg
set_option maxRecDepth 100000
set_option linter.defProp false
namespace Go.Proofs.Ytnlammgemaapnaa.Sf
open Go Go.Sx
theorem tsz_150 : tsz Try.prog 150 = some 1 := by kernel_rfl
theorem tzero_150 : tzero Try.prog 150 = some [.int .u32 0] := by kernel_rfl
theorem tzv_150 : tzv Try.prog 150 = some (.int .u32 0) := by kernel_rfl
theorem tagg_150 : tagg Try.prog 150 = some false := by kernel_rfl
theorem us_150 : (Try.prog.underlying 150).isSome = true := by kernel_rfl
theorem tint_150 : tint Try.prog 150 = some .u32 := by kernel_rfl
theorem tsz_172 : tsz Try.prog 172 = some 16 := by kernel_rfl
theorem tzero_172 : tzero Try.prog 172 = some [.int .u32 0, .int .u32 0, .int .u32 0, .int .u32 0, .int .u32 0, .int .u32 0, .int .u32 0, .int .u32 0, .int .u32 0, .int .u32 0, .int .u32 0, .int .u32 0, .int .u32 0, .int .u32 0, .int .u32 0, .int .u32 0] := by kernel_rfl
theorem tzv_172 : tzv Try.prog 172 = some (.agg [.int .u32 0, .int .u32 0, .int .u32 0, .int .u32 0, .int .u32 0, .int .u32 0, .int .u32 0, .int .u32 0, .int .u32 0, .int .u32 0, .int .u32 0, .int .u32 0, .int .u32 0, .int .u32 0, .int .u32 0, .int .u32 0]) := by kernel_rfl
theorem tagg_172 : tagg Try.prog 172 = some true := by kernel_rfl
theorem us_172 : (Try.prog.underlying 172).isSome = true := by kernel_rfl
theorem tarr_172 : tarr Try.prog 172 = some (16, 150, 1) := by kernel_rfl
theorem tpl_172 : tplaces Try.prog 172 = none := by kernel_rfl
theorem tsn_172 : tsl Try.prog 172 = none := by kernel_rfl
theorem eqok_172 {x y : List VV} (hx : fitsK [some .u32, some .u32, some .u32, some .u32, some .u32, some .u32, some .u32, some .u32, some .u32, some .u32, some .u32, some .u32, some .u32, some .u32, some .u32, some .u32] x = true) (hy : fitsK [some .u32, some .u32, some .u32, some .u32, some .u32, some .u32, some .u32, some .u32, some .u32, some .u32, some .u32, some .u32, some .u32, some .u32, some .u32, some .u32] y = true) : EqOK Try.prog 172 x y = True := eq_true (EqOK.of (t := 172) (by kernel_rfl) (by kernel_rfl) (by kernel_rfl) hx hy)
def T150 := And.intro (And.intro (@tsz_150) (And.intro (@tzero_150) (@tzv_150))) (And.intro (@tagg_150) (And.intro (@us_150) (@tint_150)))
def T172 := And.intro (And.intro (And.intro (@tsz_172) (@tzero_172)) (And.intro (@tzv_172) (@tagg_172))) (And.intro (And.intro (@us_172) (@tarr_172)) (And.intro (@tpl_172) (And.intro (@tsn_172) (@eqok_172))))
end Go.Proofs.Ytnlammgemaapnaa.Sf
