/- Closed facts on the types of this program, each reckoned by the kernel. -/
import Derived.Test.YtnlammgemaapnaaSxN
import Derived.Test.YtnlammgemaapnaaProg
set_option maxRecDepth 100000
set_option linter.defProp false
namespace Go.Proofs.Ytnlammgemaapnaa.Sf
open Go Go.Sx
theorem tsz_56 : tsz Try.prog 56 = some 24 := by kernel_rfl
theorem tzero_56 : tzero Try.prog 56 = some [.int .i8 0, .int .i64 0, .int .i64 0, .int .i64 0, .int .i64 0, .int .i64 0, .int .i64 0, .int .i64 0, .int .i64 0, .int .i8 0, .int .i64 0, .int .u8 0, .int .u8 0, .int .u8 0, .int .u8 0, .int .u8 0, .int .u8 0, .int .u8 0, .int .u8 0, .int .i64 0, .bool false, .int .i64 0, .int .i64 0, .nilSlice] := by kernel_rfl
theorem tagg_56 : tagg Try.prog 56 = some true := by kernel_rfl
theorem us_56 : (Try.prog.underlying 56).isSome = true := by kernel_rfl
theorem tfld_56_0 : tfld Try.prog 56 0 = some (0, 24, 1) := by kernel_rfl
theorem tfld_56_1 : tfld Try.prog 56 1 = some (1, 3, 1) := by kernel_rfl
theorem tfld_56_2 : tfld Try.prog 56 2 = some (2, 3, 1) := by kernel_rfl
theorem tfld_56_3 : tfld Try.prog 56 3 = some (3, 3, 1) := by kernel_rfl
theorem tfld_56_4 : tfld Try.prog 56 4 = some (4, 3, 1) := by kernel_rfl
theorem tfld_56_5 : tfld Try.prog 56 5 = some (5, 26, 3) := by kernel_rfl
theorem tfld_56_6 : tfld Try.prog 56 6 = some (8, 3, 1) := by kernel_rfl
theorem tfld_56_7 : tfld Try.prog 56 7 = some (9, 24, 1) := by kernel_rfl
theorem tfld_56_8 : tfld Try.prog 56 8 = some (10, 3, 1) := by kernel_rfl
theorem tfld_56_9 : tfld Try.prog 56 9 = some (11, 54, 8) := by kernel_rfl
theorem tfld_56_10 : tfld Try.prog 56 10 = some (19, 32, 1) := by kernel_rfl
theorem tfld_56_11 : tfld Try.prog 56 11 = some (20, 4, 1) := by kernel_rfl
theorem tfld_56_12 : tfld Try.prog 56 12 = some (21, 3, 1) := by kernel_rfl
theorem tfld_56_13 : tfld Try.prog 56 13 = some (22, 3, 1) := by kernel_rfl
theorem tfld_56_14 : tfld Try.prog 56 14 = some (23, 27, 1) := by kernel_rfl
theorem tpl_56 : tplaces Try.prog 56 = some [(0, 1), (1, 1), (2, 1), (3, 1), (4, 1), (5, 3), (8, 1), (9, 1), (10, 1), (11, 8), (19, 1), (20, 1), (21, 1), (22, 1), (23, 1)] := by kernel_rfl
theorem tsz_110 : tsz Try.prog 110 = some 1 := by kernel_rfl
theorem tzero_110 : tzero Try.prog 110 = some [.nilSlice] := by kernel_rfl
theorem tzv_110 : tzv Try.prog 110 = some (.nilSlice) := by kernel_rfl
theorem tagg_110 : tagg Try.prog 110 = some false := by kernel_rfl
theorem us_110 : (Try.prog.underlying 110).isSome = true := by kernel_rfl
theorem tsl_110 : tsl Try.prog 110 = some (124, 2) := by kernel_rfl
theorem tapp_110 : tapp Try.prog 110 = some (124, 2, 16) := by kernel_rfl
theorem tfun_111 : tfun Try.prog 111 = true := by kernel_rfl
theorem tsz_111 : tsz Try.prog 111 = some 1 := by kernel_rfl
theorem tzero_111 : tzero Try.prog 111 = some [.nilFunc] := by kernel_rfl
theorem tzv_111 : tzv Try.prog 111 = some (.nilFunc) := by kernel_rfl
theorem tagg_111 : tagg Try.prog 111 = some false := by kernel_rfl
theorem us_111 : (Try.prog.underlying 111).isSome = true := by kernel_rfl
theorem tsz_113 : tsz Try.prog 113 = some 3 := by kernel_rfl
theorem tzero_113 : tzero Try.prog 113 = some [.bool false, .nilSlice, .nilFunc] := by kernel_rfl
theorem tzv_113 : tzv Try.prog 113 = some (.agg [.bool false, .nilSlice, .nilFunc]) := by kernel_rfl
theorem tagg_113 : tagg Try.prog 113 = some true := by kernel_rfl
theorem us_113 : (Try.prog.underlying 113).isSome = true := by kernel_rfl
theorem tfld_113_0 : tfld Try.prog 113 0 = some (0, 4, 1) := by kernel_rfl
theorem tfld_113_1 : tfld Try.prog 113 1 = some (1, 110, 1) := by kernel_rfl
theorem tfld_113_2 : tfld Try.prog 113 2 = some (2, 111, 1) := by kernel_rfl
theorem tpl_113 : tplaces Try.prog 113 = some [(0, 1), (1, 1), (2, 1)] := by kernel_rfl
theorem tsz_116 : tsz Try.prog 116 = some 1 := by kernel_rfl
theorem tzero_116 : tzero Try.prog 116 = some [.nilSlice] := by kernel_rfl
theorem tzv_116 : tzv Try.prog 116 = some (.nilSlice) := by kernel_rfl
theorem tagg_116 : tagg Try.prog 116 = some false := by kernel_rfl
theorem us_116 : (Try.prog.underlying 116).isSome = true := by kernel_rfl
theorem tsl_116 : tsl Try.prog 116 = some (5, 1) := by kernel_rfl
theorem tapp_116 : tapp Try.prog 116 = some (5, 1, 1) := by kernel_rfl
theorem tbytes_116 : tbytes Try.prog 116 = true := by kernel_rfl
theorem tsz_120 : tsz Try.prog 120 = some 2 := by kernel_rfl
theorem tzero_120 : tzero Try.prog 120 = some [.nilSlice, .bool false] := by kernel_rfl
theorem tzv_120 : tzv Try.prog 120 = some (.agg [.nilSlice, .bool false]) := by kernel_rfl
theorem tagg_120 : tagg Try.prog 120 = some true := by kernel_rfl
theorem us_120 : (Try.prog.underlying 120).isSome = true := by kernel_rfl
theorem tfld_120_0 : tfld Try.prog 120 0 = some (0, 22, 1) := by kernel_rfl
theorem tfld_120_1 : tfld Try.prog 120 1 = some (1, 4, 1) := by kernel_rfl
theorem tpl_120 : tplaces Try.prog 120 = some [(0, 1), (1, 1)] := by kernel_rfl
theorem tfun_121 : tfun Try.prog 121 = true := by kernel_rfl
theorem tsz_121 : tsz Try.prog 121 = some 1 := by kernel_rfl
theorem tzero_121 : tzero Try.prog 121 = some [.nilFunc] := by kernel_rfl
theorem tzv_121 : tzv Try.prog 121 = some (.nilFunc) := by kernel_rfl
theorem tagg_121 : tagg Try.prog 121 = some false := by kernel_rfl
theorem us_121 : (Try.prog.underlying 121).isSome = true := by kernel_rfl
theorem tfun_122 : tfun Try.prog 122 = true := by kernel_rfl
theorem tsz_122 : tsz Try.prog 122 = some 1 := by kernel_rfl
theorem tzero_122 : tzero Try.prog 122 = some [.nilFunc] := by kernel_rfl
theorem tzv_122 : tzv Try.prog 122 = some (.nilFunc) := by kernel_rfl
theorem tagg_122 : tagg Try.prog 122 = some false := by kernel_rfl
theorem us_122 : (Try.prog.underlying 122).isSome = true := by kernel_rfl
theorem tsz_124 : tsz Try.prog 124 = some 2 := by kernel_rfl
theorem tzero_124 : tzero Try.prog 124 = some [.nilFunc, .nilFunc] := by kernel_rfl
theorem tzv_124 : tzv Try.prog 124 = some (.agg [.nilFunc, .nilFunc]) := by kernel_rfl
theorem tagg_124 : tagg Try.prog 124 = some true := by kernel_rfl
theorem us_124 : (Try.prog.underlying 124).isSome = true := by kernel_rfl
theorem tfld_124_0 : tfld Try.prog 124 0 = some (0, 121, 1) := by kernel_rfl
theorem tfld_124_1 : tfld Try.prog 124 1 = some (1, 122, 1) := by kernel_rfl
theorem tpl_124 : tplaces Try.prog 124 = some [(0, 1), (1, 1)] := by kernel_rfl
theorem tsz_143 : tsz Try.prog 143 = some 20 := by kernel_rfl
theorem tzero_143 : tzero Try.prog 143 = some [.nilFunc, .nilFunc, .nilFunc, .nilFunc, .nilFunc, .nilFunc, .nilFunc, .nilFunc, .nilFunc, .nilFunc, .nilFunc, .nilFunc, .nilFunc, .nilFunc, .nilFunc, .nilFunc, .nilFunc, .nilFunc, .nilFunc, .nilFunc] := by kernel_rfl
theorem tagg_143 : tagg Try.prog 143 = some true := by kernel_rfl
theorem us_143 : (Try.prog.underlying 143).isSome = true := by kernel_rfl
theorem tfld_143_0 : tfld Try.prog 143 0 = some (0, 124, 2) := by kernel_rfl
theorem tfld_143_1 : tfld Try.prog 143 1 = some (2, 124, 2) := by kernel_rfl
theorem tfld_143_2 : tfld Try.prog 143 2 = some (4, 124, 2) := by kernel_rfl
theorem tfld_143_3 : tfld Try.prog 143 3 = some (6, 124, 2) := by kernel_rfl
theorem tfld_143_4 : tfld Try.prog 143 4 = some (8, 124, 2) := by kernel_rfl
theorem tfld_143_5 : tfld Try.prog 143 5 = some (10, 124, 2) := by kernel_rfl
theorem tfld_143_6 : tfld Try.prog 143 6 = some (12, 124, 2) := by kernel_rfl
theorem tfld_143_7 : tfld Try.prog 143 7 = some (14, 124, 2) := by kernel_rfl
theorem tfld_143_8 : tfld Try.prog 143 8 = some (16, 124, 2) := by kernel_rfl
theorem tfld_143_9 : tfld Try.prog 143 9 = some (18, 124, 2) := by kernel_rfl
theorem tpl_143 : tplaces Try.prog 143 = some [(0, 2), (2, 2), (4, 2), (6, 2), (8, 2), (10, 2), (12, 2), (14, 2), (16, 2), (18, 2)] := by kernel_rfl
theorem tsz_145 : tsz Try.prog 145 = some 1 := by kernel_rfl
theorem tzero_145 : tzero Try.prog 145 = some [.nilSlice] := by kernel_rfl
theorem tzv_145 : tzv Try.prog 145 = some (.nilSlice) := by kernel_rfl
theorem tagg_145 : tagg Try.prog 145 = some false := by kernel_rfl
theorem us_145 : (Try.prog.underlying 145).isSome = true := by kernel_rfl
theorem tsl_145 : tsl Try.prog 145 = some (32, 1) := by kernel_rfl
theorem tapp_145 : tapp Try.prog 145 = some (32, 1, 8) := by kernel_rfl
theorem tfun_147 : tfun Try.prog 147 = true := by kernel_rfl
theorem tsz_147 : tsz Try.prog 147 = some 1 := by kernel_rfl
theorem tzero_147 : tzero Try.prog 147 = some [.nilFunc] := by kernel_rfl
theorem tzv_147 : tzv Try.prog 147 = some (.nilFunc) := by kernel_rfl
theorem tagg_147 : tagg Try.prog 147 = some false := by kernel_rfl
theorem us_147 : (Try.prog.underlying 147).isSome = true := by kernel_rfl
theorem tfun_159 : tfun Try.prog 159 = true := by kernel_rfl
theorem tsz_159 : tsz Try.prog 159 = some 1 := by kernel_rfl
theorem tzero_159 : tzero Try.prog 159 = some [.nilFunc] := by kernel_rfl
theorem tzv_159 : tzv Try.prog 159 = some (.nilFunc) := by kernel_rfl
theorem tagg_159 : tagg Try.prog 159 = some false := by kernel_rfl
theorem us_159 : (Try.prog.underlying 159).isSome = true := by kernel_rfl
theorem tfun_161 : tfun Try.prog 161 = true := by kernel_rfl
theorem tsz_161 : tsz Try.prog 161 = some 1 := by kernel_rfl
theorem tzero_161 : tzero Try.prog 161 = some [.nilFunc] := by kernel_rfl
theorem tzv_161 : tzv Try.prog 161 = some (.nilFunc) := by kernel_rfl
theorem tagg_161 : tagg Try.prog 161 = some false := by kernel_rfl
theorem us_161 : (Try.prog.underlying 161).isSome = true := by kernel_rfl
def T56 := And.intro (And.intro (And.intro (And.intro (@tsz_56) (@tzero_56)) (And.intro (@tagg_56) (And.intro (@us_56) (@tfld_56_0)))) (And.intro (And.intro (@tfld_56_1) (@tfld_56_2)) (And.intro (@tfld_56_3) (And.intro (@tfld_56_4) (@tfld_56_5))))) (And.intro (And.intro (And.intro (@tfld_56_6) (@tfld_56_7)) (And.intro (@tfld_56_8) (And.intro (@tfld_56_9) (@tfld_56_10)))) (And.intro (And.intro (@tfld_56_11) (@tfld_56_12)) (And.intro (@tfld_56_13) (And.intro (@tfld_56_14) (@tpl_56)))))
def T110 := And.intro (And.intro (@tsz_110) (And.intro (@tzero_110) (@tzv_110))) (And.intro (And.intro (@tagg_110) (@us_110)) (And.intro (@tsl_110) (@tapp_110)))
def T111 := And.intro (And.intro (@tfun_111) (And.intro (@tsz_111) (@tzero_111))) (And.intro (@tzv_111) (And.intro (@tagg_111) (@us_111)))
def T113 := And.intro (And.intro (And.intro (@tsz_113) (@tzero_113)) (And.intro (@tzv_113) (@tagg_113))) (And.intro (And.intro (@us_113) (@tfld_113_0)) (And.intro (@tfld_113_1) (And.intro (@tfld_113_2) (@tpl_113))))
def T116 := And.intro (And.intro (And.intro (@tsz_116) (@tzero_116)) (And.intro (@tzv_116) (@tagg_116))) (And.intro (And.intro (@us_116) (@tsl_116)) (And.intro (@tapp_116) (@tbytes_116)))
def T120 := And.intro (And.intro (And.intro (@tsz_120) (@tzero_120)) (And.intro (@tzv_120) (@tagg_120))) (And.intro (And.intro (@us_120) (@tfld_120_0)) (And.intro (@tfld_120_1) (@tpl_120)))
def T121 := And.intro (And.intro (@tfun_121) (And.intro (@tsz_121) (@tzero_121))) (And.intro (@tzv_121) (And.intro (@tagg_121) (@us_121)))
def T122 := And.intro (And.intro (@tfun_122) (And.intro (@tsz_122) (@tzero_122))) (And.intro (@tzv_122) (And.intro (@tagg_122) (@us_122)))
def T124 := And.intro (And.intro (And.intro (@tsz_124) (@tzero_124)) (And.intro (@tzv_124) (@tagg_124))) (And.intro (And.intro (@us_124) (@tfld_124_0)) (And.intro (@tfld_124_1) (@tpl_124)))
def T143 := And.intro (And.intro (And.intro (@tsz_143) (And.intro (@tzero_143) (@tagg_143))) (And.intro (And.intro (@us_143) (@tfld_143_0)) (And.intro (@tfld_143_1) (@tfld_143_2)))) (And.intro (And.intro (And.intro (@tfld_143_3) (@tfld_143_4)) (And.intro (@tfld_143_5) (@tfld_143_6))) (And.intro (And.intro (@tfld_143_7) (@tfld_143_8)) (And.intro (@tfld_143_9) (@tpl_143))))
def T145 := And.intro (And.intro (@tsz_145) (And.intro (@tzero_145) (@tzv_145))) (And.intro (And.intro (@tagg_145) (@us_145)) (And.intro (@tsl_145) (@tapp_145)))
def T147 := And.intro (And.intro (@tfun_147) (And.intro (@tsz_147) (@tzero_147))) (And.intro (@tzv_147) (And.intro (@tagg_147) (@us_147)))
def T159 := And.intro (And.intro (@tfun_159) (And.intro (@tsz_159) (@tzero_159))) (And.intro (@tzv_159) (And.intro (@tagg_159) (@us_159)))
def T161 := And.intro (And.intro (@tfun_161) (And.intro (@tsz_161) (@tzero_161))) (And.intro (@tzv_161) (And.intro (@tagg_161) (@us_161)))
end Go.Proofs.Ytnlammgemaapnaa.Sf
