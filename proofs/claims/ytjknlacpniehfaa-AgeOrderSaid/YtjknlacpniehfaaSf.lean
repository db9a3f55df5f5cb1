/- Closed facts on the types of this program, each reckoned by the kernel. -/
import Derived.Test.YtjknlacpniehfaaSxJ
import Derived.Test.YtjknlacpniehfaaProg
set_option maxRecDepth 100000
set_option linter.defProp false
namespace Go.Proofs.Ytjknlacpniehfaa.Sf
open Go Go.Sx
theorem tsz_2 : tsz Try.prog 2 = some 1 := by kernel_rfl
theorem tzero_2 : tzero Try.prog 2 = some [.int .i64 0] := by kernel_rfl
theorem tzv_2 : tzv Try.prog 2 = some (.int .i64 0) := by kernel_rfl
theorem tagg_2 : tagg Try.prog 2 = some false := by kernel_rfl
theorem us_2 : (Try.prog.underlying 2).isSome = true := by kernel_rfl
theorem tint_2 : tint Try.prog 2 = some .i64 := by kernel_rfl
theorem tsz_3 : tsz Try.prog 3 = some 1 := by kernel_rfl
theorem tzero_3 : tzero Try.prog 3 = some [.int .i64 0] := by kernel_rfl
theorem tzv_3 : tzv Try.prog 3 = some (.int .i64 0) := by kernel_rfl
theorem tagg_3 : tagg Try.prog 3 = some false := by kernel_rfl
theorem us_3 : (Try.prog.underlying 3).isSome = true := by kernel_rfl
theorem tint_3 : tint Try.prog 3 = some .i64 := by kernel_rfl
theorem tsz_4 : tsz Try.prog 4 = some 1 := by kernel_rfl
theorem tzero_4 : tzero Try.prog 4 = some [.bool false] := by kernel_rfl
theorem tzv_4 : tzv Try.prog 4 = some (.bool false) := by kernel_rfl
theorem tagg_4 : tagg Try.prog 4 = some false := by kernel_rfl
theorem us_4 : (Try.prog.underlying 4).isSome = true := by kernel_rfl
theorem ub_4 : Try.prog.underlying 4 = some .bool := by kernel_rfl
theorem tsz_5 : tsz Try.prog 5 = some 1 := by kernel_rfl
theorem tzero_5 : tzero Try.prog 5 = some [.int .u8 0] := by kernel_rfl
theorem tzv_5 : tzv Try.prog 5 = some (.int .u8 0) := by kernel_rfl
theorem tagg_5 : tagg Try.prog 5 = some false := by kernel_rfl
theorem us_5 : (Try.prog.underlying 5).isSome = true := by kernel_rfl
theorem tint_5 : tint Try.prog 5 = some .u8 := by kernel_rfl
theorem tsz_6 : tsz Try.prog 6 = some 1 := by kernel_rfl
theorem tzero_6 : tzero Try.prog 6 = some [.int .u8 0] := by kernel_rfl
theorem tzv_6 : tzv Try.prog 6 = some (.int .u8 0) := by kernel_rfl
theorem tagg_6 : tagg Try.prog 6 = some false := by kernel_rfl
theorem us_6 : (Try.prog.underlying 6).isSome = true := by kernel_rfl
theorem tint_6 : tint Try.prog 6 = some .u8 := by kernel_rfl
theorem tsz_7 : tsz Try.prog 7 = some 4 := by kernel_rfl
theorem tzero_7 : tzero Try.prog 7 = some [.int .i64 0, .int .i64 0, .bool false, .int .u8 0] := by kernel_rfl
theorem tzv_7 : tzv Try.prog 7 = some (.agg [.int .i64 0, .int .i64 0, .bool false, .int .u8 0]) := by kernel_rfl
theorem tagg_7 : tagg Try.prog 7 = some true := by kernel_rfl
theorem us_7 : (Try.prog.underlying 7).isSome = true := by kernel_rfl
theorem tfld_7_0 : tfld Try.prog 7 0 = some (0, 2, 1) := by kernel_rfl
theorem tfld_7_1 : tfld Try.prog 7 1 = some (1, 3, 1) := by kernel_rfl
theorem tfld_7_2 : tfld Try.prog 7 2 = some (2, 4, 1) := by kernel_rfl
theorem tfld_7_3 : tfld Try.prog 7 3 = some (3, 6, 1) := by kernel_rfl
theorem tpl_7 : tplaces Try.prog 7 = some [(0, 1), (1, 1), (2, 1), (3, 1)] := by kernel_rfl
theorem tsz_8 : tsz Try.prog 8 = some 4 := by kernel_rfl
theorem tzero_8 : tzero Try.prog 8 = some [.int .i64 0, .int .i64 0, .bool false, .int .u8 0] := by kernel_rfl
theorem tzv_8 : tzv Try.prog 8 = some (.agg [.int .i64 0, .int .i64 0, .bool false, .int .u8 0]) := by kernel_rfl
theorem tagg_8 : tagg Try.prog 8 = some true := by kernel_rfl
theorem us_8 : (Try.prog.underlying 8).isSome = true := by kernel_rfl
theorem tfld_8_0 : tfld Try.prog 8 0 = some (0, 2, 1) := by kernel_rfl
theorem tfld_8_1 : tfld Try.prog 8 1 = some (1, 3, 1) := by kernel_rfl
theorem tfld_8_2 : tfld Try.prog 8 2 = some (2, 4, 1) := by kernel_rfl
theorem tfld_8_3 : tfld Try.prog 8 3 = some (3, 6, 1) := by kernel_rfl
theorem tpl_8 : tplaces Try.prog 8 = some [(0, 1), (1, 1), (2, 1), (3, 1)] := by kernel_rfl
theorem tsz_9 : tsz Try.prog 9 = some 1 := by kernel_rfl
theorem tagg_9 : tagg Try.prog 9 = some false := by kernel_rfl
theorem us_9 : (Try.prog.underlying 9).isSome = true := by kernel_rfl
theorem ust_9 : Try.prog.underlying 9 = some .string := by kernel_rfl
theorem tsz_10 : tsz Try.prog 10 = some 1 := by kernel_rfl
theorem tagg_10 : tagg Try.prog 10 = some false := by kernel_rfl
theorem us_10 : (Try.prog.underlying 10).isSome = true := by kernel_rfl
theorem ust_10 : Try.prog.underlying 10 = some .string := by kernel_rfl
theorem tsz_11 : tsz Try.prog 11 = some 1 := by kernel_rfl
theorem tagg_11 : tagg Try.prog 11 = some false := by kernel_rfl
theorem us_11 : (Try.prog.underlying 11).isSome = true := by kernel_rfl
theorem ust_11 : Try.prog.underlying 11 = some .string := by kernel_rfl
theorem tsz_12 : tsz Try.prog 12 = some 1 := by kernel_rfl
theorem tzero_12 : tzero Try.prog 12 = some [.int .u64 0] := by kernel_rfl
theorem tzv_12 : tzv Try.prog 12 = some (.int .u64 0) := by kernel_rfl
theorem tagg_12 : tagg Try.prog 12 = some false := by kernel_rfl
theorem us_12 : (Try.prog.underlying 12).isSome = true := by kernel_rfl
theorem tint_12 : tint Try.prog 12 = some .u64 := by kernel_rfl
theorem tsz_13 : tsz Try.prog 13 = some 2 := by kernel_rfl
theorem tagg_13 : tagg Try.prog 13 = some true := by kernel_rfl
theorem us_13 : (Try.prog.underlying 13).isSome = true := by kernel_rfl
theorem tfld_13_0 : tfld Try.prog 13 0 = some (0, 9, 1) := by kernel_rfl
theorem tfld_13_1 : tfld Try.prog 13 1 = some (1, 12, 1) := by kernel_rfl
theorem tpl_13 : tplaces Try.prog 13 = some [(0, 1), (1, 1)] := by kernel_rfl
theorem tsz_14 : tsz Try.prog 14 = some 2 := by kernel_rfl
theorem tagg_14 : tagg Try.prog 14 = some true := by kernel_rfl
theorem us_14 : (Try.prog.underlying 14).isSome = true := by kernel_rfl
theorem tfld_14_0 : tfld Try.prog 14 0 = some (0, 9, 1) := by kernel_rfl
theorem tfld_14_1 : tfld Try.prog 14 1 = some (1, 12, 1) := by kernel_rfl
theorem tpl_14 : tplaces Try.prog 14 = some [(0, 1), (1, 1)] := by kernel_rfl
theorem tsz_15 : tsz Try.prog 15 = some 1 := by kernel_rfl
theorem tzero_15 : tzero Try.prog 15 = some [.nilPtr] := by kernel_rfl
theorem tzv_15 : tzv Try.prog 15 = some (.nilPtr) := by kernel_rfl
theorem tagg_15 : tagg Try.prog 15 = some false := by kernel_rfl
theorem us_15 : (Try.prog.underlying 15).isSome = true := by kernel_rfl
theorem tsz_16 : tsz Try.prog 16 = some 1 := by kernel_rfl
theorem tzero_16 : tzero Try.prog 16 = some [.nilPtr] := by kernel_rfl
theorem tzv_16 : tzv Try.prog 16 = some (.nilPtr) := by kernel_rfl
theorem tagg_16 : tagg Try.prog 16 = some false := by kernel_rfl
theorem us_16 : (Try.prog.underlying 16).isSome = true := by kernel_rfl
theorem tsz_17 : tsz Try.prog 17 = some 1 := by kernel_rfl
theorem tzero_17 : tzero Try.prog 17 = some [.nilPtr] := by kernel_rfl
theorem tzv_17 : tzv Try.prog 17 = some (.nilPtr) := by kernel_rfl
theorem tagg_17 : tagg Try.prog 17 = some false := by kernel_rfl
theorem us_17 : (Try.prog.underlying 17).isSome = true := by kernel_rfl
theorem tsz_18 : tsz Try.prog 18 = some 1 := by kernel_rfl
theorem tzero_18 : tzero Try.prog 18 = some [.nilPtr] := by kernel_rfl
theorem tzv_18 : tzv Try.prog 18 = some (.agg [.nilPtr]) := by kernel_rfl
theorem tagg_18 : tagg Try.prog 18 = some true := by kernel_rfl
theorem us_18 : (Try.prog.underlying 18).isSome = true := by kernel_rfl
theorem tfld_18_0 : tfld Try.prog 18 0 = some (0, 17, 1) := by kernel_rfl
theorem tpl_18 : tplaces Try.prog 18 = some [(0, 1)] := by kernel_rfl
theorem tsz_19 : tsz Try.prog 19 = some 1 := by kernel_rfl
theorem tzero_19 : tzero Try.prog 19 = some [.nilPtr] := by kernel_rfl
theorem tzv_19 : tzv Try.prog 19 = some (.agg [.nilPtr]) := by kernel_rfl
theorem tagg_19 : tagg Try.prog 19 = some true := by kernel_rfl
theorem us_19 : (Try.prog.underlying 19).isSome = true := by kernel_rfl
theorem tfld_19_0 : tfld Try.prog 19 0 = some (0, 17, 1) := by kernel_rfl
theorem tpl_19 : tplaces Try.prog 19 = some [(0, 1)] := by kernel_rfl
theorem tsz_21 : tsz Try.prog 21 = some 1 := by kernel_rfl
theorem tzero_21 : tzero Try.prog 21 = some [.int .i32 0] := by kernel_rfl
theorem tzv_21 : tzv Try.prog 21 = some (.int .i32 0) := by kernel_rfl
theorem tagg_21 : tagg Try.prog 21 = some false := by kernel_rfl
theorem us_21 : (Try.prog.underlying 21).isSome = true := by kernel_rfl
theorem tint_21 : tint Try.prog 21 = some .i32 := by kernel_rfl
theorem tsz_22 : tsz Try.prog 22 = some 3 := by kernel_rfl
theorem tzero_22 : tzero Try.prog 22 = some [.int .i64 0, .int .i64 0, .int .i64 0] := by kernel_rfl
theorem tzv_22 : tzv Try.prog 22 = some (.agg [.int .i64 0, .int .i64 0, .int .i64 0]) := by kernel_rfl
theorem tagg_22 : tagg Try.prog 22 = some true := by kernel_rfl
theorem us_22 : (Try.prog.underlying 22).isSome = true := by kernel_rfl
theorem tfld_22_0 : tfld Try.prog 22 0 = some (0, 3, 1) := by kernel_rfl
theorem tfld_22_1 : tfld Try.prog 22 1 = some (1, 3, 1) := by kernel_rfl
theorem tfld_22_2 : tfld Try.prog 22 2 = some (2, 3, 1) := by kernel_rfl
theorem tpl_22 : tplaces Try.prog 22 = some [(0, 1), (1, 1), (2, 1)] := by kernel_rfl
theorem tsz_23 : tsz Try.prog 23 = some 3 := by kernel_rfl
theorem tzero_23 : tzero Try.prog 23 = some [.int .i64 0, .int .i64 0, .int .i64 0] := by kernel_rfl
theorem tzv_23 : tzv Try.prog 23 = some (.agg [.int .i64 0, .int .i64 0, .int .i64 0]) := by kernel_rfl
theorem tagg_23 : tagg Try.prog 23 = some true := by kernel_rfl
theorem us_23 : (Try.prog.underlying 23).isSome = true := by kernel_rfl
theorem tfld_23_0 : tfld Try.prog 23 0 = some (0, 3, 1) := by kernel_rfl
theorem tfld_23_1 : tfld Try.prog 23 1 = some (1, 3, 1) := by kernel_rfl
theorem tfld_23_2 : tfld Try.prog 23 2 = some (2, 3, 1) := by kernel_rfl
theorem tpl_23 : tplaces Try.prog 23 = some [(0, 1), (1, 1), (2, 1)] := by kernel_rfl
theorem tsz_24 : tsz Try.prog 24 = some 1 := by kernel_rfl
theorem tzero_24 : tzero Try.prog 24 = some [.nilSlice] := by kernel_rfl
theorem tzv_24 : tzv Try.prog 24 = some (.nilSlice) := by kernel_rfl
theorem tagg_24 : tagg Try.prog 24 = some false := by kernel_rfl
theorem us_24 : (Try.prog.underlying 24).isSome = true := by kernel_rfl
theorem tsl_24 : tsl Try.prog 24 = some (23, 3) := by kernel_rfl
theorem tapp_24 : tapp Try.prog 24 = some (23, 3, 24) := by kernel_rfl
theorem tsz_33 : tsz Try.prog 33 = some 1 := by kernel_rfl
theorem tzero_33 : tzero Try.prog 33 = some [.nilSlice] := by kernel_rfl
theorem tzv_33 : tzv Try.prog 33 = some (.nilSlice) := by kernel_rfl
theorem tagg_33 : tagg Try.prog 33 = some false := by kernel_rfl
theorem us_33 : (Try.prog.underlying 33).isSome = true := by kernel_rfl
theorem tsl_33 : tsl Try.prog 33 = some (43, 6) := by kernel_rfl
theorem tapp_33 : tapp Try.prog 33 = some (43, 6, 48) := by kernel_rfl
theorem tsz_41 : tsz Try.prog 41 = some 1 := by kernel_rfl
theorem tzero_41 : tzero Try.prog 41 = some [.nilMap] := by kernel_rfl
theorem tzv_41 : tzv Try.prog 41 = some (.nilMap) := by kernel_rfl
theorem tagg_41 : tagg Try.prog 41 = some false := by kernel_rfl
theorem us_41 : (Try.prog.underlying 41).isSome = true := by kernel_rfl
theorem tmap_41 : Try.prog.underlying 41 = some (.map 23 3) := by kernel_rfl
theorem tsz_43 : tsz Try.prog 43 = some 6 := by kernel_rfl
theorem tzero_43 : tzero Try.prog 43 = some [.int .i64 0, .int .i64 0, .int .i64 0, .int .i64 0, .int .i64 0, .int .i64 0] := by kernel_rfl
theorem tzv_43 : tzv Try.prog 43 = some (.agg [.int .i64 0, .int .i64 0, .int .i64 0, .int .i64 0, .int .i64 0, .int .i64 0]) := by kernel_rfl
theorem tagg_43 : tagg Try.prog 43 = some true := by kernel_rfl
theorem us_43 : (Try.prog.underlying 43).isSome = true := by kernel_rfl
theorem tarr_43 : tarr Try.prog 43 = some (2, 23, 3) := by kernel_rfl
theorem tpl_43 : tplaces Try.prog 43 = none := by kernel_rfl
theorem tsz_45 : tsz Try.prog 45 = some 1 := by kernel_rfl
theorem tzero_45 : tzero Try.prog 45 = some [.nilMap] := by kernel_rfl
theorem tzv_45 : tzv Try.prog 45 = some (.nilMap) := by kernel_rfl
theorem tagg_45 : tagg Try.prog 45 = some false := by kernel_rfl
theorem us_45 : (Try.prog.underlying 45).isSome = true := by kernel_rfl
theorem tmap_45 : Try.prog.underlying 45 = some (.map 23 24) := by kernel_rfl
theorem tsz_47 : tsz Try.prog 47 = some 1 := by kernel_rfl
theorem tzero_47 : tzero Try.prog 47 = some [.nilMap] := by kernel_rfl
theorem tzv_47 : tzv Try.prog 47 = some (.nilMap) := by kernel_rfl
theorem tagg_47 : tagg Try.prog 47 = some false := by kernel_rfl
theorem us_47 : (Try.prog.underlying 47).isSome = true := by kernel_rfl
theorem tmap_47 : Try.prog.underlying 47 = some (.map 23 4) := by kernel_rfl
theorem tsz_48 : tsz Try.prog 48 = some 1 := by kernel_rfl
theorem tzero_48 : tzero Try.prog 48 = some [.nilMap] := by kernel_rfl
theorem tzv_48 : tzv Try.prog 48 = some (.nilMap) := by kernel_rfl
theorem tagg_48 : tagg Try.prog 48 = some false := by kernel_rfl
theorem us_48 : (Try.prog.underlying 48).isSome = true := by kernel_rfl
theorem tmap_48 : Try.prog.underlying 48 = some (.map 23 4) := by kernel_rfl
theorem tsz_54 : tsz Try.prog 54 = some 1 := by kernel_rfl
theorem tzero_54 : tzero Try.prog 54 = some [.nilSlice] := by kernel_rfl
theorem tzv_54 : tzv Try.prog 54 = some (.nilSlice) := by kernel_rfl
theorem tagg_54 : tagg Try.prog 54 = some false := by kernel_rfl
theorem us_54 : (Try.prog.underlying 54).isSome = true := by kernel_rfl
theorem tsl_54 : tsl Try.prog 54 = some (3, 1) := by kernel_rfl
theorem tapp_54 : tapp Try.prog 54 = some (3, 1, 8) := by kernel_rfl
theorem tsz_57 : tsz Try.prog 57 = some 4 := by kernel_rfl
theorem tagg_57 : tagg Try.prog 57 = some true := by kernel_rfl
theorem us_57 : (Try.prog.underlying 57).isSome = true := by kernel_rfl
theorem tfld_57_0 : tfld Try.prog 57 0 = some (0, 17, 1) := by kernel_rfl
theorem tfld_57_1 : tfld Try.prog 57 1 = some (1, 17, 1) := by kernel_rfl
theorem tfld_57_2 : tfld Try.prog 57 2 = some (2, 17, 1) := by kernel_rfl
theorem tfld_57_3 : tfld Try.prog 57 3 = some (3, 9, 1) := by kernel_rfl
theorem tpl_57 : tplaces Try.prog 57 = some [(0, 1), (1, 1), (2, 1), (3, 1)] := by kernel_rfl
theorem tsz_58 : tsz Try.prog 58 = some 4 := by kernel_rfl
theorem tagg_58 : tagg Try.prog 58 = some true := by kernel_rfl
theorem us_58 : (Try.prog.underlying 58).isSome = true := by kernel_rfl
theorem tfld_58_0 : tfld Try.prog 58 0 = some (0, 17, 1) := by kernel_rfl
theorem tfld_58_1 : tfld Try.prog 58 1 = some (1, 17, 1) := by kernel_rfl
theorem tfld_58_2 : tfld Try.prog 58 2 = some (2, 17, 1) := by kernel_rfl
theorem tfld_58_3 : tfld Try.prog 58 3 = some (3, 9, 1) := by kernel_rfl
theorem tpl_58 : tplaces Try.prog 58 = some [(0, 1), (1, 1), (2, 1), (3, 1)] := by kernel_rfl
theorem tsz_59 : tsz Try.prog 59 = some 0 := by kernel_rfl
theorem tzero_59 : tzero Try.prog 59 = some [] := by kernel_rfl
theorem tzv_59 : tzv Try.prog 59 = some (.agg []) := by kernel_rfl
theorem tagg_59 : tagg Try.prog 59 = some true := by kernel_rfl
theorem us_59 : (Try.prog.underlying 59).isSome = true := by kernel_rfl
theorem tarr_59 : tarr Try.prog 59 = some (0, 16, 1) := by kernel_rfl
theorem tpl_59 : tplaces Try.prog 59 = none := by kernel_rfl
theorem tsz_60 : tsz Try.prog 60 = some 0 := by kernel_rfl
theorem tzero_60 : tzero Try.prog 60 = some [] := by kernel_rfl
theorem tzv_60 : tzv Try.prog 60 = some (.agg []) := by kernel_rfl
theorem tagg_60 : tagg Try.prog 60 = some true := by kernel_rfl
theorem us_60 : (Try.prog.underlying 60).isSome = true := by kernel_rfl
theorem tfld_60_0 : tfld Try.prog 60 0 = some (0, 59, 0) := by kernel_rfl
theorem tpl_60 : tplaces Try.prog 60 = some [(0, 0)] := by kernel_rfl
theorem tsz_61 : tsz Try.prog 61 = some 0 := by kernel_rfl
theorem tzero_61 : tzero Try.prog 61 = some [] := by kernel_rfl
theorem tzv_61 : tzv Try.prog 61 = some (.agg []) := by kernel_rfl
theorem tagg_61 : tagg Try.prog 61 = some true := by kernel_rfl
theorem us_61 : (Try.prog.underlying 61).isSome = true := by kernel_rfl
theorem tfld_61_0 : tfld Try.prog 61 0 = some (0, 59, 0) := by kernel_rfl
theorem tpl_61 : tplaces Try.prog 61 = some [(0, 0)] := by kernel_rfl
theorem tsz_63 : tsz Try.prog 63 = some 1 := by kernel_rfl
theorem tzero_63 : tzero Try.prog 63 = some [.int .u32 0] := by kernel_rfl
theorem tzv_63 : tzv Try.prog 63 = some (.int .u32 0) := by kernel_rfl
theorem tagg_63 : tagg Try.prog 63 = some false := by kernel_rfl
theorem us_63 : (Try.prog.underlying 63).isSome = true := by kernel_rfl
theorem tint_63 : tint Try.prog 63 = some .u32 := by kernel_rfl
theorem tsz_64 : tsz Try.prog 64 = some 1 := by kernel_rfl
theorem tzero_64 : tzero Try.prog 64 = some [.int .u8 0] := by kernel_rfl
theorem tzv_64 : tzv Try.prog 64 = some (.int .u8 0) := by kernel_rfl
theorem tagg_64 : tagg Try.prog 64 = some false := by kernel_rfl
theorem us_64 : (Try.prog.underlying 64).isSome = true := by kernel_rfl
theorem tint_64 : tint Try.prog 64 = some .u8 := by kernel_rfl
theorem tsz_65 : tsz Try.prog 65 = some 1 := by kernel_rfl
theorem tzero_65 : tzero Try.prog 65 = some [.int .u8 0] := by kernel_rfl
theorem tzv_65 : tzv Try.prog 65 = some (.int .u8 0) := by kernel_rfl
theorem tagg_65 : tagg Try.prog 65 = some false := by kernel_rfl
theorem us_65 : (Try.prog.underlying 65).isSome = true := by kernel_rfl
theorem tint_65 : tint Try.prog 65 = some .u8 := by kernel_rfl
theorem tsz_67 : tsz Try.prog 67 = some 1 := by kernel_rfl
theorem tzero_67 : tzero Try.prog 67 = some [.nilPtr] := by kernel_rfl
theorem tzv_67 : tzv Try.prog 67 = some (.nilPtr) := by kernel_rfl
theorem tagg_67 : tagg Try.prog 67 = some false := by kernel_rfl
theorem us_67 : (Try.prog.underlying 67).isSome = true := by kernel_rfl
theorem tsz_68 : tsz Try.prog 68 = some 1 := by kernel_rfl
theorem tzero_68 : tzero Try.prog 68 = some [.int .i32 0] := by kernel_rfl
theorem tzv_68 : tzv Try.prog 68 = some (.int .i32 0) := by kernel_rfl
theorem tagg_68 : tagg Try.prog 68 = some false := by kernel_rfl
theorem us_68 : (Try.prog.underlying 68).isSome = true := by kernel_rfl
theorem tint_68 : tint Try.prog 68 = some .i32 := by kernel_rfl
theorem tsz_69 : tsz Try.prog 69 = some 1 := by kernel_rfl
theorem tzero_69 : tzero Try.prog 69 = some [.int .i32 0] := by kernel_rfl
theorem tzv_69 : tzv Try.prog 69 = some (.int .i32 0) := by kernel_rfl
theorem tagg_69 : tagg Try.prog 69 = some false := by kernel_rfl
theorem us_69 : (Try.prog.underlying 69).isSome = true := by kernel_rfl
theorem tint_69 : tint Try.prog 69 = some .i32 := by kernel_rfl
theorem tsz_70 : tsz Try.prog 70 = some 11 := by kernel_rfl
theorem tzero_70 : tzero Try.prog 70 = some [.int .u64 0, .int .u64 0, .int .u32 0, .int .u8 0, .int .u8 0, .int .u8 0, .int .u8 0, .nilFunc, .nilPtr, .int .i32 0, .int .i32 0] := by kernel_rfl
theorem tzv_70 : tzv Try.prog 70 = some (.agg [.int .u64 0, .int .u64 0, .int .u32 0, .int .u8 0, .int .u8 0, .int .u8 0, .int .u8 0, .nilFunc, .nilPtr, .int .i32 0, .int .i32 0]) := by kernel_rfl
theorem tagg_70 : tagg Try.prog 70 = some true := by kernel_rfl
theorem us_70 : (Try.prog.underlying 70).isSome = true := by kernel_rfl
theorem tfld_70_0 : tfld Try.prog 70 0 = some (0, 12, 1) := by kernel_rfl
theorem tfld_70_1 : tfld Try.prog 70 1 = some (1, 12, 1) := by kernel_rfl
theorem tfld_70_2 : tfld Try.prog 70 2 = some (2, 63, 1) := by kernel_rfl
theorem tfld_70_3 : tfld Try.prog 70 3 = some (3, 64, 1) := by kernel_rfl
theorem tfld_70_4 : tfld Try.prog 70 4 = some (4, 5, 1) := by kernel_rfl
theorem tfld_70_5 : tfld Try.prog 70 5 = some (5, 5, 1) := by kernel_rfl
theorem tfld_70_6 : tfld Try.prog 70 6 = some (6, 65, 1) := by kernel_rfl
theorem tfld_70_8 : tfld Try.prog 70 8 = some (8, 67, 1) := by kernel_rfl
theorem tfld_70_9 : tfld Try.prog 70 9 = some (9, 68, 1) := by kernel_rfl
theorem tfld_70_10 : tfld Try.prog 70 10 = some (10, 69, 1) := by kernel_rfl
theorem tsz_71 : tsz Try.prog 71 = some 11 := by kernel_rfl
theorem tzero_71 : tzero Try.prog 71 = some [.int .u64 0, .int .u64 0, .int .u32 0, .int .u8 0, .int .u8 0, .int .u8 0, .int .u8 0, .nilFunc, .nilPtr, .int .i32 0, .int .i32 0] := by kernel_rfl
theorem tzv_71 : tzv Try.prog 71 = some (.agg [.int .u64 0, .int .u64 0, .int .u32 0, .int .u8 0, .int .u8 0, .int .u8 0, .int .u8 0, .nilFunc, .nilPtr, .int .i32 0, .int .i32 0]) := by kernel_rfl
theorem tagg_71 : tagg Try.prog 71 = some true := by kernel_rfl
theorem us_71 : (Try.prog.underlying 71).isSome = true := by kernel_rfl
theorem tfld_71_0 : tfld Try.prog 71 0 = some (0, 12, 1) := by kernel_rfl
theorem tfld_71_1 : tfld Try.prog 71 1 = some (1, 12, 1) := by kernel_rfl
theorem tfld_71_2 : tfld Try.prog 71 2 = some (2, 63, 1) := by kernel_rfl
theorem tfld_71_3 : tfld Try.prog 71 3 = some (3, 64, 1) := by kernel_rfl
theorem tfld_71_4 : tfld Try.prog 71 4 = some (4, 5, 1) := by kernel_rfl
theorem tfld_71_5 : tfld Try.prog 71 5 = some (5, 5, 1) := by kernel_rfl
theorem tfld_71_6 : tfld Try.prog 71 6 = some (6, 65, 1) := by kernel_rfl
theorem tfld_71_8 : tfld Try.prog 71 8 = some (8, 67, 1) := by kernel_rfl
theorem tfld_71_9 : tfld Try.prog 71 9 = some (9, 68, 1) := by kernel_rfl
theorem tfld_71_10 : tfld Try.prog 71 10 = some (10, 69, 1) := by kernel_rfl
def T2 := And.intro (And.intro (tsz_2) (And.intro (tzero_2) (tzv_2))) (And.intro (tagg_2) (And.intro (us_2) (tint_2)))
def T3 := And.intro (And.intro (tsz_3) (And.intro (tzero_3) (tzv_3))) (And.intro (tagg_3) (And.intro (us_3) (tint_3)))
def T4 := And.intro (And.intro (tsz_4) (And.intro (tzero_4) (tzv_4))) (And.intro (tagg_4) (And.intro (us_4) (ub_4)))
def T5 := And.intro (And.intro (tsz_5) (And.intro (tzero_5) (tzv_5))) (And.intro (tagg_5) (And.intro (us_5) (tint_5)))
def T6 := And.intro (And.intro (tsz_6) (And.intro (tzero_6) (tzv_6))) (And.intro (tagg_6) (And.intro (us_6) (tint_6)))
def T7 := And.intro (And.intro (And.intro (tsz_7) (tzero_7)) (And.intro (tzv_7) (And.intro (tagg_7) (us_7)))) (And.intro (And.intro (tfld_7_0) (tfld_7_1)) (And.intro (tfld_7_2) (And.intro (tfld_7_3) (tpl_7))))
def T8 := And.intro (And.intro (And.intro (tsz_8) (tzero_8)) (And.intro (tzv_8) (And.intro (tagg_8) (us_8)))) (And.intro (And.intro (tfld_8_0) (tfld_8_1)) (And.intro (tfld_8_2) (And.intro (tfld_8_3) (tpl_8))))
def T9 := And.intro (And.intro (tsz_9) (tagg_9)) (And.intro (us_9) (ust_9))
def T10 := And.intro (And.intro (tsz_10) (tagg_10)) (And.intro (us_10) (ust_10))
def T11 := And.intro (And.intro (tsz_11) (tagg_11)) (And.intro (us_11) (ust_11))
def T12 := And.intro (And.intro (tsz_12) (And.intro (tzero_12) (tzv_12))) (And.intro (tagg_12) (And.intro (us_12) (tint_12)))
def T13 := And.intro (And.intro (tsz_13) (And.intro (tagg_13) (us_13))) (And.intro (tfld_13_0) (And.intro (tfld_13_1) (tpl_13)))
def T14 := And.intro (And.intro (tsz_14) (And.intro (tagg_14) (us_14))) (And.intro (tfld_14_0) (And.intro (tfld_14_1) (tpl_14)))
def T15 := And.intro (And.intro (tsz_15) (tzero_15)) (And.intro (tzv_15) (And.intro (tagg_15) (us_15)))
def T16 := And.intro (And.intro (tsz_16) (tzero_16)) (And.intro (tzv_16) (And.intro (tagg_16) (us_16)))
def T17 := And.intro (And.intro (tsz_17) (tzero_17)) (And.intro (tzv_17) (And.intro (tagg_17) (us_17)))
def T18 := And.intro (And.intro (tsz_18) (And.intro (tzero_18) (tzv_18))) (And.intro (And.intro (tagg_18) (us_18)) (And.intro (tfld_18_0) (tpl_18)))
def T19 := And.intro (And.intro (tsz_19) (And.intro (tzero_19) (tzv_19))) (And.intro (And.intro (tagg_19) (us_19)) (And.intro (tfld_19_0) (tpl_19)))
def T21 := And.intro (And.intro (tsz_21) (And.intro (tzero_21) (tzv_21))) (And.intro (tagg_21) (And.intro (us_21) (tint_21)))
def T22 := And.intro (And.intro (And.intro (tsz_22) (tzero_22)) (And.intro (tzv_22) (tagg_22))) (And.intro (And.intro (us_22) (tfld_22_0)) (And.intro (tfld_22_1) (And.intro (tfld_22_2) (tpl_22))))
def T23 := And.intro (And.intro (And.intro (tsz_23) (tzero_23)) (And.intro (tzv_23) (tagg_23))) (And.intro (And.intro (us_23) (tfld_23_0)) (And.intro (tfld_23_1) (And.intro (tfld_23_2) (tpl_23))))
def T24 := And.intro (And.intro (tsz_24) (And.intro (tzero_24) (tzv_24))) (And.intro (And.intro (tagg_24) (us_24)) (And.intro (tsl_24) (tapp_24)))
def T33 := And.intro (And.intro (tsz_33) (And.intro (tzero_33) (tzv_33))) (And.intro (And.intro (tagg_33) (us_33)) (And.intro (tsl_33) (tapp_33)))
def T41 := And.intro (And.intro (tsz_41) (And.intro (tzero_41) (tzv_41))) (And.intro (tagg_41) (And.intro (us_41) (tmap_41)))
def T43 := And.intro (And.intro (tsz_43) (And.intro (tzero_43) (tzv_43))) (And.intro (And.intro (tagg_43) (us_43)) (And.intro (tarr_43) (tpl_43)))
def T45 := And.intro (And.intro (tsz_45) (And.intro (tzero_45) (tzv_45))) (And.intro (tagg_45) (And.intro (us_45) (tmap_45)))
def T47 := And.intro (And.intro (tsz_47) (And.intro (tzero_47) (tzv_47))) (And.intro (tagg_47) (And.intro (us_47) (tmap_47)))
def T48 := And.intro (And.intro (tsz_48) (And.intro (tzero_48) (tzv_48))) (And.intro (tagg_48) (And.intro (us_48) (tmap_48)))
def T54 := And.intro (And.intro (tsz_54) (And.intro (tzero_54) (tzv_54))) (And.intro (And.intro (tagg_54) (us_54)) (And.intro (tsl_54) (tapp_54)))
def T57 := And.intro (And.intro (And.intro (tsz_57) (tagg_57)) (And.intro (us_57) (tfld_57_0))) (And.intro (And.intro (tfld_57_1) (tfld_57_2)) (And.intro (tfld_57_3) (tpl_57)))
def T58 := And.intro (And.intro (And.intro (tsz_58) (tagg_58)) (And.intro (us_58) (tfld_58_0))) (And.intro (And.intro (tfld_58_1) (tfld_58_2)) (And.intro (tfld_58_3) (tpl_58)))
def T59 := And.intro (And.intro (tsz_59) (And.intro (tzero_59) (tzv_59))) (And.intro (And.intro (tagg_59) (us_59)) (And.intro (tarr_59) (tpl_59)))
def T60 := And.intro (And.intro (tsz_60) (And.intro (tzero_60) (tzv_60))) (And.intro (And.intro (tagg_60) (us_60)) (And.intro (tfld_60_0) (tpl_60)))
def T61 := And.intro (And.intro (tsz_61) (And.intro (tzero_61) (tzv_61))) (And.intro (And.intro (tagg_61) (us_61)) (And.intro (tfld_61_0) (tpl_61)))
def T63 := And.intro (And.intro (tsz_63) (And.intro (tzero_63) (tzv_63))) (And.intro (tagg_63) (And.intro (us_63) (tint_63)))
def T64 := And.intro (And.intro (tsz_64) (And.intro (tzero_64) (tzv_64))) (And.intro (tagg_64) (And.intro (us_64) (tint_64)))
def T65 := And.intro (And.intro (tsz_65) (And.intro (tzero_65) (tzv_65))) (And.intro (tagg_65) (And.intro (us_65) (tint_65)))
def T67 := And.intro (And.intro (tsz_67) (tzero_67)) (And.intro (tzv_67) (And.intro (tagg_67) (us_67)))
def T68 := And.intro (And.intro (tsz_68) (And.intro (tzero_68) (tzv_68))) (And.intro (tagg_68) (And.intro (us_68) (tint_68)))
def T69 := And.intro (And.intro (tsz_69) (And.intro (tzero_69) (tzv_69))) (And.intro (tagg_69) (And.intro (us_69) (tint_69)))
def T70 := And.intro (And.intro (And.intro (tsz_70) (And.intro (tzero_70) (tzv_70))) (And.intro (And.intro (tagg_70) (us_70)) (And.intro (tfld_70_0) (tfld_70_1)))) (And.intro (And.intro (And.intro (tfld_70_2) (tfld_70_3)) (And.intro (tfld_70_4) (tfld_70_5))) (And.intro (And.intro (tfld_70_6) (tfld_70_8)) (And.intro (tfld_70_9) (tfld_70_10))))
def T71 := And.intro (And.intro (And.intro (tsz_71) (And.intro (tzero_71) (tzv_71))) (And.intro (And.intro (tagg_71) (us_71)) (And.intro (tfld_71_0) (tfld_71_1)))) (And.intro (And.intro (And.intro (tfld_71_2) (tfld_71_3)) (And.intro (tfld_71_4) (tfld_71_5))) (And.intro (And.intro (tfld_71_6) (tfld_71_8)) (And.intro (tfld_71_9) (tfld_71_10))))
end Go.Proofs.Ytjknlacpniehfaa.Sf
