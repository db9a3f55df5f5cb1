/- Closed facts on the types of this program, each reckoned by the kernel. -/
import Derived.Test.YtnlammgemaapnaaSxN
import Derived.Test.YtnlammgemaapnaaProg
set_option maxRecDepth 100000
set_option linter.defProp false
namespace Go.Proofs.Ytnlammgemaapnaa.Sf
open Go Go.Sx
theorem tsz_3 : tsz Try.prog 3 = some 1 := by kernel_rfl
theorem tzero_3 : tzero Try.prog 3 = some [.int .i64 0] := by kernel_rfl
theorem tzv_3 : tzv Try.prog 3 = some (.int .i64 0) := by kernel_rfl
theorem tagg_3 : tagg Try.prog 3 = some false := by kernel_rfl
theorem us_3 : (Try.prog.underlying 3).isSome = true := by kernel_rfl
theorem tint_3 : tint Try.prog 3 = some .i64 := by kernel_rfl
theorem tsz_4 : tsz Try.prog 4 = some 1 := by kernel_rfl
theorem tzero_4 : tzero Try.prog 4 = some [.bool false] := by kernel_rfl
theorem tzv_4 : tzv Try.prog 4 = some (.bool false) := by kernel_rfl
theorem tagg_4 : tagg Try.prog 4 = some false := by kernel_rfl
theorem us_4 : (Try.prog.underlying 4).isSome = true := by kernel_rfl
theorem ub_4 : Try.prog.underlying 4 = some .bool := by kernel_rfl
theorem tsz_5 : tsz Try.prog 5 = some 1 := by kernel_rfl
theorem tzero_5 : tzero Try.prog 5 = some [.int .u8 0] := by kernel_rfl
theorem tzv_5 : tzv Try.prog 5 = some (.int .u8 0) := by kernel_rfl
theorem tagg_5 : tagg Try.prog 5 = some false := by kernel_rfl
theorem us_5 : (Try.prog.underlying 5).isSome = true := by kernel_rfl
theorem tint_5 : tint Try.prog 5 = some .u8 := by kernel_rfl
theorem tsz_9 : tsz Try.prog 9 = some 1 := by kernel_rfl
theorem tagg_9 : tagg Try.prog 9 = some false := by kernel_rfl
theorem us_9 : (Try.prog.underlying 9).isSome = true := by kernel_rfl
theorem tstr_9 : tstr Try.prog 9 = true := by kernel_rfl
theorem ust_9 : Try.prog.underlying 9 = some .string := by kernel_rfl
theorem tsz_22 : tsz Try.prog 22 = some 1 := by kernel_rfl
theorem tzero_22 : tzero Try.prog 22 = some [.nilSlice] := by kernel_rfl
theorem tzv_22 : tzv Try.prog 22 = some (.nilSlice) := by kernel_rfl
theorem tagg_22 : tagg Try.prog 22 = some false := by kernel_rfl
theorem us_22 : (Try.prog.underlying 22).isSome = true := by kernel_rfl
theorem tsl_22 : tsl Try.prog 22 = some (5, 1) := by kernel_rfl
theorem tapp_22 : tapp Try.prog 22 = some (5, 1, 1) := by kernel_rfl
theorem tbytes_22 : tbytes Try.prog 22 = true := by kernel_rfl
theorem tsz_24 : tsz Try.prog 24 = some 1 := by kernel_rfl
theorem tzero_24 : tzero Try.prog 24 = some [.int .i8 0] := by kernel_rfl
theorem tzv_24 : tzv Try.prog 24 = some (.int .i8 0) := by kernel_rfl
theorem tagg_24 : tagg Try.prog 24 = some false := by kernel_rfl
theorem us_24 : (Try.prog.underlying 24).isSome = true := by kernel_rfl
theorem tint_24 : tint Try.prog 24 = some .i8 := by kernel_rfl
theorem tsz_26 : tsz Try.prog 26 = some 3 := by kernel_rfl
theorem tzero_26 : tzero Try.prog 26 = some [.int .i64 0, .int .i64 0, .int .i64 0] := by kernel_rfl
theorem tzv_26 : tzv Try.prog 26 = some (.agg [.int .i64 0, .int .i64 0, .int .i64 0]) := by kernel_rfl
theorem tagg_26 : tagg Try.prog 26 = some true := by kernel_rfl
theorem us_26 : (Try.prog.underlying 26).isSome = true := by kernel_rfl
theorem tfld_26_0 : tfld Try.prog 26 0 = some (0, 3, 1) := by kernel_rfl
theorem tfld_26_1 : tfld Try.prog 26 1 = some (1, 3, 1) := by kernel_rfl
theorem tfld_26_2 : tfld Try.prog 26 2 = some (2, 3, 1) := by kernel_rfl
theorem tpl_26 : tplaces Try.prog 26 = some [(0, 1), (1, 1), (2, 1)] := by kernel_rfl
theorem eqok_26 {x y : List VV} (hx : fitsK [some .i64, some .i64, some .i64] x = true) (hy : fitsK [some .i64, some .i64, some .i64] y = true) : EqOK Try.prog 26 x y = True := eq_true (EqOK.of (t := 26) (by kernel_rfl) (by kernel_rfl) (by kernel_rfl) hx hy)
theorem tsz_27 : tsz Try.prog 27 = some 1 := by kernel_rfl
theorem tzero_27 : tzero Try.prog 27 = some [.nilSlice] := by kernel_rfl
theorem tzv_27 : tzv Try.prog 27 = some (.nilSlice) := by kernel_rfl
theorem tagg_27 : tagg Try.prog 27 = some false := by kernel_rfl
theorem us_27 : (Try.prog.underlying 27).isSome = true := by kernel_rfl
theorem tsl_27 : tsl Try.prog 27 = some (89, 9) := by kernel_rfl
theorem tapp_27 : tapp Try.prog 27 = some (89, 9, 16) := by kernel_rfl
theorem tsz_29 : tsz Try.prog 29 = some 2 := by kernel_rfl
theorem tzero_29 : tzero Try.prog 29 = some [.int .i64 0, .int .i64 0] := by kernel_rfl
theorem tzv_29 : tzv Try.prog 29 = some (.agg [.int .i64 0, .int .i64 0]) := by kernel_rfl
theorem tagg_29 : tagg Try.prog 29 = some true := by kernel_rfl
theorem us_29 : (Try.prog.underlying 29).isSome = true := by kernel_rfl
theorem tfld_29_0 : tfld Try.prog 29 0 = some (0, 3, 1) := by kernel_rfl
theorem tfld_29_1 : tfld Try.prog 29 1 = some (1, 3, 1) := by kernel_rfl
theorem tpl_29 : tplaces Try.prog 29 = some [(0, 1), (1, 1)] := by kernel_rfl
theorem eqok_29 {x y : List VV} (hx : fitsK [some .i64, some .i64] x = true) (hy : fitsK [some .i64, some .i64] y = true) : EqOK Try.prog 29 x y = True := eq_true (EqOK.of (t := 29) (by kernel_rfl) (by kernel_rfl) (by kernel_rfl) hx hy)
theorem tsz_31 : tsz Try.prog 31 = some 12 := by kernel_rfl
theorem tzero_31 : tzero Try.prog 31 = some [.int .i8 0, .int .i64 0, .int .i64 0, .int .i64 0, .bool false, .nilSlice, .int .i64 0, .int .i64 0, .int .i64 0, .int .i64 0, .int .i64 0, .int .i64 0] := by kernel_rfl
theorem tzv_31 : tzv Try.prog 31 = some (.agg [.int .i8 0, .int .i64 0, .int .i64 0, .int .i64 0, .bool false, .nilSlice, .int .i64 0, .int .i64 0, .int .i64 0, .int .i64 0, .int .i64 0, .int .i64 0]) := by kernel_rfl
theorem tagg_31 : tagg Try.prog 31 = some true := by kernel_rfl
theorem us_31 : (Try.prog.underlying 31).isSome = true := by kernel_rfl
theorem tfld_31_0 : tfld Try.prog 31 0 = some (0, 24, 1) := by kernel_rfl
theorem tfld_31_1 : tfld Try.prog 31 1 = some (1, 26, 3) := by kernel_rfl
theorem tfld_31_2 : tfld Try.prog 31 2 = some (4, 4, 1) := by kernel_rfl
theorem tfld_31_3 : tfld Try.prog 31 3 = some (5, 27, 1) := by kernel_rfl
theorem tfld_31_4 : tfld Try.prog 31 4 = some (6, 3, 1) := by kernel_rfl
theorem tfld_31_5 : tfld Try.prog 31 5 = some (7, 3, 1) := by kernel_rfl
theorem tfld_31_6 : tfld Try.prog 31 6 = some (8, 3, 1) := by kernel_rfl
theorem tfld_31_7 : tfld Try.prog 31 7 = some (9, 29, 2) := by kernel_rfl
theorem tfld_31_8 : tfld Try.prog 31 8 = some (11, 3, 1) := by kernel_rfl
theorem tpl_31 : tplaces Try.prog 31 = some [(0, 1), (1, 3), (4, 1), (5, 1), (6, 1), (7, 1), (8, 1), (9, 2), (11, 1)] := by kernel_rfl
theorem tsz_32 : tsz Try.prog 32 = some 1 := by kernel_rfl
theorem tzero_32 : tzero Try.prog 32 = some [.int .i64 0] := by kernel_rfl
theorem tzv_32 : tzv Try.prog 32 = some (.int .i64 0) := by kernel_rfl
theorem tagg_32 : tagg Try.prog 32 = some false := by kernel_rfl
theorem us_32 : (Try.prog.underlying 32).isSome = true := by kernel_rfl
theorem tint_32 : tint Try.prog 32 = some .i64 := by kernel_rfl
theorem tsz_54 : tsz Try.prog 54 = some 8 := by kernel_rfl
theorem tzero_54 : tzero Try.prog 54 = some [.int .u8 0, .int .u8 0, .int .u8 0, .int .u8 0, .int .u8 0, .int .u8 0, .int .u8 0, .int .u8 0] := by kernel_rfl
theorem tzv_54 : tzv Try.prog 54 = some (.agg [.int .u8 0, .int .u8 0, .int .u8 0, .int .u8 0, .int .u8 0, .int .u8 0, .int .u8 0, .int .u8 0]) := by kernel_rfl
theorem tagg_54 : tagg Try.prog 54 = some true := by kernel_rfl
theorem us_54 : (Try.prog.underlying 54).isSome = true := by kernel_rfl
theorem tarr_54 : tarr Try.prog 54 = some (8, 5, 1) := by kernel_rfl
theorem tpl_54 : tplaces Try.prog 54 = none := by kernel_rfl
theorem tsn_54 : tsl Try.prog 54 = none := by kernel_rfl
theorem eqok_54 {x y : List VV} (hx : fitsK [some .u8, some .u8, some .u8, some .u8, some .u8, some .u8, some .u8, some .u8] x = true) (hy : fitsK [some .u8, some .u8, some .u8, some .u8, some .u8, some .u8, some .u8, some .u8] y = true) : EqOK Try.prog 54 x y = True := eq_true (EqOK.of (t := 54) (by kernel_rfl) (by kernel_rfl) (by kernel_rfl) hx hy)
theorem tsz_70 : tsz Try.prog 70 = some 1 := by kernel_rfl
theorem tzero_70 : tzero Try.prog 70 = some [.nilPtr] := by kernel_rfl
theorem tzv_70 : tzv Try.prog 70 = some (.nilPtr) := by kernel_rfl
theorem tagg_70 : tagg Try.prog 70 = some false := by kernel_rfl
theorem us_70 : (Try.prog.underlying 70).isSome = true := by kernel_rfl
theorem tptr_70 : tptr Try.prog 70 = true := by kernel_rfl
theorem tsz_74 : tsz Try.prog 74 = some 2 := by kernel_rfl
theorem tzero_74 : tzero Try.prog 74 = some [.nilSlice, .bool false] := by kernel_rfl
theorem tzv_74 : tzv Try.prog 74 = some (.agg [.nilSlice, .bool false]) := by kernel_rfl
theorem tagg_74 : tagg Try.prog 74 = some true := by kernel_rfl
theorem us_74 : (Try.prog.underlying 74).isSome = true := by kernel_rfl
theorem tfld_74_0 : tfld Try.prog 74 0 = some (0, 22, 1) := by kernel_rfl
theorem tfld_74_1 : tfld Try.prog 74 1 = some (1, 4, 1) := by kernel_rfl
theorem tpl_74 : tplaces Try.prog 74 = some [(0, 1), (1, 1)] := by kernel_rfl
theorem tfun_75 : tfun Try.prog 75 = true := by kernel_rfl
theorem tsz_75 : tsz Try.prog 75 = some 1 := by kernel_rfl
theorem tzero_75 : tzero Try.prog 75 = some [.nilFunc] := by kernel_rfl
theorem tzv_75 : tzv Try.prog 75 = some (.nilFunc) := by kernel_rfl
theorem tagg_75 : tagg Try.prog 75 = some false := by kernel_rfl
theorem us_75 : (Try.prog.underlying 75).isSome = true := by kernel_rfl
theorem tfun_76 : tfun Try.prog 76 = true := by kernel_rfl
theorem tsz_76 : tsz Try.prog 76 = some 1 := by kernel_rfl
theorem tzero_76 : tzero Try.prog 76 = some [.nilFunc] := by kernel_rfl
theorem tzv_76 : tzv Try.prog 76 = some (.nilFunc) := by kernel_rfl
theorem tagg_76 : tagg Try.prog 76 = some false := by kernel_rfl
theorem us_76 : (Try.prog.underlying 76).isSome = true := by kernel_rfl
theorem tfun_77 : tfun Try.prog 77 = true := by kernel_rfl
theorem tsz_77 : tsz Try.prog 77 = some 1 := by kernel_rfl
theorem tzero_77 : tzero Try.prog 77 = some [.nilFunc] := by kernel_rfl
theorem tzv_77 : tzv Try.prog 77 = some (.nilFunc) := by kernel_rfl
theorem tagg_77 : tagg Try.prog 77 = some false := by kernel_rfl
theorem us_77 : (Try.prog.underlying 77).isSome = true := by kernel_rfl
theorem tsz_79 : tsz Try.prog 79 = some 3 := by kernel_rfl
theorem tzero_79 : tzero Try.prog 79 = some [.nilFunc, .nilFunc, .nilFunc] := by kernel_rfl
theorem tzv_79 : tzv Try.prog 79 = some (.agg [.nilFunc, .nilFunc, .nilFunc]) := by kernel_rfl
theorem tagg_79 : tagg Try.prog 79 = some true := by kernel_rfl
theorem us_79 : (Try.prog.underlying 79).isSome = true := by kernel_rfl
theorem tfld_79_0 : tfld Try.prog 79 0 = some (0, 75, 1) := by kernel_rfl
theorem tfld_79_1 : tfld Try.prog 79 1 = some (1, 76, 1) := by kernel_rfl
theorem tfld_79_2 : tfld Try.prog 79 2 = some (2, 77, 1) := by kernel_rfl
theorem tpl_79 : tplaces Try.prog 79 = some [(0, 1), (1, 1), (2, 1)] := by kernel_rfl
theorem tsz_83 : tsz Try.prog 83 = some 3 := by kernel_rfl
theorem tzero_83 : tzero Try.prog 83 = some [.nilSlice, .int .i64 0, .bool false] := by kernel_rfl
theorem tzv_83 : tzv Try.prog 83 = some (.agg [.nilSlice, .int .i64 0, .bool false]) := by kernel_rfl
theorem tagg_83 : tagg Try.prog 83 = some true := by kernel_rfl
theorem us_83 : (Try.prog.underlying 83).isSome = true := by kernel_rfl
theorem tfld_83_0 : tfld Try.prog 83 0 = some (0, 22, 1) := by kernel_rfl
theorem tfld_83_1 : tfld Try.prog 83 1 = some (1, 3, 1) := by kernel_rfl
theorem tfld_83_2 : tfld Try.prog 83 2 = some (2, 4, 1) := by kernel_rfl
theorem tpl_83 : tplaces Try.prog 83 = some [(0, 1), (1, 1), (2, 1)] := by kernel_rfl
theorem tsz_89 : tsz Try.prog 89 = some 9 := by kernel_rfl
theorem tzero_89 : tzero Try.prog 89 = some [.int .i64 0, .int .u8 0, .int .u8 0, .int .u8 0, .int .u8 0, .int .u8 0, .int .u8 0, .int .u8 0, .int .u8 0] := by kernel_rfl
theorem tzv_89 : tzv Try.prog 89 = some (.agg [.int .i64 0, .int .u8 0, .int .u8 0, .int .u8 0, .int .u8 0, .int .u8 0, .int .u8 0, .int .u8 0, .int .u8 0]) := by kernel_rfl
theorem tagg_89 : tagg Try.prog 89 = some true := by kernel_rfl
theorem us_89 : (Try.prog.underlying 89).isSome = true := by kernel_rfl
theorem tfld_89_0 : tfld Try.prog 89 0 = some (0, 3, 1) := by kernel_rfl
theorem tfld_89_1 : tfld Try.prog 89 1 = some (1, 54, 8) := by kernel_rfl
theorem tpl_89 : tplaces Try.prog 89 = some [(0, 1), (1, 8)] := by kernel_rfl
theorem eqok_89 {x y : List VV} (hx : fitsK [some .i64, some .u8, some .u8, some .u8, some .u8, some .u8, some .u8, some .u8, some .u8] x = true) (hy : fitsK [some .i64, some .u8, some .u8, some .u8, some .u8, some .u8, some .u8, some .u8, some .u8] y = true) : EqOK Try.prog 89 x y = True := eq_true (EqOK.of (t := 89) (by kernel_rfl) (by kernel_rfl) (by kernel_rfl) hx hy)
theorem tsz_136 : tsz Try.prog 136 = some 24 := by kernel_rfl
theorem tzero_136 : tzero Try.prog 136 = some [.nilFunc, .nilFunc, .nilFunc, .nilFunc, .nilFunc, .nilFunc, .nilFunc, .nilFunc, .nilFunc, .nilFunc, .nilFunc, .nilFunc, .nilFunc, .nilFunc, .nilFunc, .nilFunc, .nilFunc, .nilFunc, .nilFunc, .nilFunc, .nilFunc, .nilFunc, .nilFunc, .nilFunc] := by kernel_rfl
theorem tagg_136 : tagg Try.prog 136 = some true := by kernel_rfl
theorem us_136 : (Try.prog.underlying 136).isSome = true := by kernel_rfl
theorem tarr_136 : tarr Try.prog 136 = some (8, 79, 3) := by kernel_rfl
theorem tpl_136 : tplaces Try.prog 136 = none := by kernel_rfl
theorem tsn_136 : tsl Try.prog 136 = none := by kernel_rfl
theorem tsz_139 : tsz Try.prog 139 = some 1 := by kernel_rfl
theorem tzero_139 : tzero Try.prog 139 = some [.nilSlice] := by kernel_rfl
theorem tzv_139 : tzv Try.prog 139 = some (.agg [.nilSlice]) := by kernel_rfl
theorem tagg_139 : tagg Try.prog 139 = some true := by kernel_rfl
theorem us_139 : (Try.prog.underlying 139).isSome = true := by kernel_rfl
theorem tfld_139_0 : tfld Try.prog 139 0 = some (0, 22, 1) := by kernel_rfl
theorem tpl_139 : tplaces Try.prog 139 = some [(0, 1)] := by kernel_rfl
theorem tsz_141 : tsz Try.prog 141 = some 1 := by kernel_rfl
theorem tzero_141 : tzero Try.prog 141 = some [.nilSlice] := by kernel_rfl
theorem tzv_141 : tzv Try.prog 141 = some (.nilSlice) := by kernel_rfl
theorem tagg_141 : tagg Try.prog 141 = some false := by kernel_rfl
theorem us_141 : (Try.prog.underlying 141).isSome = true := by kernel_rfl
theorem tsl_141 : tsl Try.prog 141 = some (3, 1) := by kernel_rfl
theorem tapp_141 : tapp Try.prog 141 = some (3, 1, 8) := by kernel_rfl
theorem tsz_160 : tsz Try.prog 160 = some 1 := by kernel_rfl
theorem tzero_160 : tzero Try.prog 160 = some [.nilPtr] := by kernel_rfl
theorem tzv_160 : tzv Try.prog 160 = some (.nilPtr) := by kernel_rfl
theorem tagg_160 : tagg Try.prog 160 = some false := by kernel_rfl
theorem us_160 : (Try.prog.underlying 160).isSome = true := by kernel_rfl
theorem tptr_160 : tptr Try.prog 160 = true := by kernel_rfl
theorem tsz_162 : tsz Try.prog 162 = some 3 := by kernel_rfl
theorem tzero_162 : tzero Try.prog 162 = some [.int .i64 0, .int .i64 0, .int .i64 0] := by kernel_rfl
theorem tzv_162 : tzv Try.prog 162 = some (.agg [.int .i64 0, .int .i64 0, .int .i64 0]) := by kernel_rfl
theorem tagg_162 : tagg Try.prog 162 = some true := by kernel_rfl
theorem us_162 : (Try.prog.underlying 162).isSome = true := by kernel_rfl
theorem tarr_162 : tarr Try.prog 162 = some (3, 3, 1) := by kernel_rfl
theorem tpl_162 : tplaces Try.prog 162 = none := by kernel_rfl
theorem tsn_162 : tsl Try.prog 162 = none := by kernel_rfl
theorem eqok_162 {x y : List VV} (hx : fitsK [some .i64, some .i64, some .i64] x = true) (hy : fitsK [some .i64, some .i64, some .i64] y = true) : EqOK Try.prog 162 x y = True := eq_true (EqOK.of (t := 162) (by kernel_rfl) (by kernel_rfl) (by kernel_rfl) hx hy)
theorem tsz_163 : tsz Try.prog 163 = some 3 := by kernel_rfl
theorem tzero_163 : tzero Try.prog 163 = some [.nilPtr, .nilPtr, .nilPtr] := by kernel_rfl
theorem tzv_163 : tzv Try.prog 163 = some (.agg [.nilPtr, .nilPtr, .nilPtr]) := by kernel_rfl
theorem tagg_163 : tagg Try.prog 163 = some true := by kernel_rfl
theorem us_163 : (Try.prog.underlying 163).isSome = true := by kernel_rfl
theorem tarr_163 : tarr Try.prog 163 = some (3, 160, 1) := by kernel_rfl
theorem tpl_163 : tplaces Try.prog 163 = none := by kernel_rfl
theorem tsn_163 : tsl Try.prog 163 = none := by kernel_rfl
def T3 := And.intro (And.intro (@tsz_3) (And.intro (@tzero_3) (@tzv_3))) (And.intro (@tagg_3) (And.intro (@us_3) (@tint_3)))
def T4 := And.intro (And.intro (@tsz_4) (And.intro (@tzero_4) (@tzv_4))) (And.intro (@tagg_4) (And.intro (@us_4) (@ub_4)))
def T5 := And.intro (And.intro (@tsz_5) (And.intro (@tzero_5) (@tzv_5))) (And.intro (@tagg_5) (And.intro (@us_5) (@tint_5)))
def T9 := And.intro (And.intro (@tsz_9) (@tagg_9)) (And.intro (@us_9) (And.intro (@tstr_9) (@ust_9)))
def T22 := And.intro (And.intro (And.intro (@tsz_22) (@tzero_22)) (And.intro (@tzv_22) (@tagg_22))) (And.intro (And.intro (@us_22) (@tsl_22)) (And.intro (@tapp_22) (@tbytes_22)))
def T24 := And.intro (And.intro (@tsz_24) (And.intro (@tzero_24) (@tzv_24))) (And.intro (@tagg_24) (And.intro (@us_24) (@tint_24)))
def T26 := And.intro (And.intro (And.intro (@tsz_26) (@tzero_26)) (And.intro (@tzv_26) (And.intro (@tagg_26) (@us_26)))) (And.intro (And.intro (@tfld_26_0) (@tfld_26_1)) (And.intro (@tfld_26_2) (And.intro (@tpl_26) (@eqok_26))))
def T27 := And.intro (And.intro (@tsz_27) (And.intro (@tzero_27) (@tzv_27))) (And.intro (And.intro (@tagg_27) (@us_27)) (And.intro (@tsl_27) (@tapp_27)))
def T29 := And.intro (And.intro (And.intro (@tsz_29) (@tzero_29)) (And.intro (@tzv_29) (@tagg_29))) (And.intro (And.intro (@us_29) (@tfld_29_0)) (And.intro (@tfld_29_1) (And.intro (@tpl_29) (@eqok_29))))
def T31 := And.intro (And.intro (And.intro (@tsz_31) (And.intro (@tzero_31) (@tzv_31))) (And.intro (And.intro (@tagg_31) (@us_31)) (And.intro (@tfld_31_0) (@tfld_31_1)))) (And.intro (And.intro (And.intro (@tfld_31_2) (@tfld_31_3)) (And.intro (@tfld_31_4) (@tfld_31_5))) (And.intro (And.intro (@tfld_31_6) (@tfld_31_7)) (And.intro (@tfld_31_8) (@tpl_31))))
def T32 := And.intro (And.intro (@tsz_32) (And.intro (@tzero_32) (@tzv_32))) (And.intro (@tagg_32) (And.intro (@us_32) (@tint_32)))
def T54 := And.intro (And.intro (And.intro (@tsz_54) (@tzero_54)) (And.intro (@tzv_54) (@tagg_54))) (And.intro (And.intro (@us_54) (@tarr_54)) (And.intro (@tpl_54) (And.intro (@tsn_54) (@eqok_54))))
def T70 := And.intro (And.intro (@tsz_70) (And.intro (@tzero_70) (@tzv_70))) (And.intro (@tagg_70) (And.intro (@us_70) (@tptr_70)))
def T74 := And.intro (And.intro (And.intro (@tsz_74) (@tzero_74)) (And.intro (@tzv_74) (@tagg_74))) (And.intro (And.intro (@us_74) (@tfld_74_0)) (And.intro (@tfld_74_1) (@tpl_74)))
def T75 := And.intro (And.intro (@tfun_75) (And.intro (@tsz_75) (@tzero_75))) (And.intro (@tzv_75) (And.intro (@tagg_75) (@us_75)))
def T76 := And.intro (And.intro (@tfun_76) (And.intro (@tsz_76) (@tzero_76))) (And.intro (@tzv_76) (And.intro (@tagg_76) (@us_76)))
def T77 := And.intro (And.intro (@tfun_77) (And.intro (@tsz_77) (@tzero_77))) (And.intro (@tzv_77) (And.intro (@tagg_77) (@us_77)))
def T79 := And.intro (And.intro (And.intro (@tsz_79) (@tzero_79)) (And.intro (@tzv_79) (@tagg_79))) (And.intro (And.intro (@us_79) (@tfld_79_0)) (And.intro (@tfld_79_1) (And.intro (@tfld_79_2) (@tpl_79))))
def T83 := And.intro (And.intro (And.intro (@tsz_83) (@tzero_83)) (And.intro (@tzv_83) (@tagg_83))) (And.intro (And.intro (@us_83) (@tfld_83_0)) (And.intro (@tfld_83_1) (And.intro (@tfld_83_2) (@tpl_83))))
def T89 := And.intro (And.intro (And.intro (@tsz_89) (@tzero_89)) (And.intro (@tzv_89) (@tagg_89))) (And.intro (And.intro (@us_89) (@tfld_89_0)) (And.intro (@tfld_89_1) (And.intro (@tpl_89) (@eqok_89))))
def T136 := And.intro (And.intro (@tsz_136) (And.intro (@tzero_136) (@tagg_136))) (And.intro (And.intro (@us_136) (@tarr_136)) (And.intro (@tpl_136) (@tsn_136)))
def T139 := And.intro (And.intro (@tsz_139) (And.intro (@tzero_139) (@tzv_139))) (And.intro (And.intro (@tagg_139) (@us_139)) (And.intro (@tfld_139_0) (@tpl_139)))
def T141 := And.intro (And.intro (@tsz_141) (And.intro (@tzero_141) (@tzv_141))) (And.intro (And.intro (@tagg_141) (@us_141)) (And.intro (@tsl_141) (@tapp_141)))
def T160 := And.intro (And.intro (@tsz_160) (And.intro (@tzero_160) (@tzv_160))) (And.intro (@tagg_160) (And.intro (@us_160) (@tptr_160)))
def T162 := And.intro (And.intro (And.intro (@tsz_162) (@tzero_162)) (And.intro (@tzv_162) (@tagg_162))) (And.intro (And.intro (@us_162) (@tarr_162)) (And.intro (@tpl_162) (And.intro (@tsn_162) (@eqok_162))))
def T163 := And.intro (And.intro (And.intro (@tsz_163) (@tzero_163)) (And.intro (@tzv_163) (@tagg_163))) (And.intro (And.intro (@us_163) (@tarr_163)) (And.intro (@tpl_163) (@tsn_163)))
end Go.Proofs.Ytnlammgemaapnaa.Sf
