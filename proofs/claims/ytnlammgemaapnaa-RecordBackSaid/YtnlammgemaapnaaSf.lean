/- Closed facts on the types of this program, each reckoned by the kernel. -/
import Derived.Test.YtnlammgemaapnaaSxN
import Derived.Test.YtnlammgemaapnaaProg
set_option maxRecDepth 100000
set_option linter.defProp false
namespace Go.Proofs.Ytnlammgemaapnaa.Sf
open Go Go.Sx
theorem tfun_1 : tfun Try.prog 1 = true := by kernel_rfl
theorem tsz_1 : tsz Try.prog 1 = some 1 := by kernel_rfl
theorem tzero_1 : tzero Try.prog 1 = some [.nilFunc] := by kernel_rfl
theorem tzv_1 : tzv Try.prog 1 = some (.nilFunc) := by kernel_rfl
theorem tagg_1 : tagg Try.prog 1 = some false := by kernel_rfl
theorem us_1 : (Try.prog.underlying 1).isSome = true := by kernel_rfl
theorem tsz_2 : tsz Try.prog 2 = some 1 := by kernel_rfl
theorem tzero_2 : tzero Try.prog 2 = some [.int .i64 0] := by kernel_rfl
theorem tzv_2 : tzv Try.prog 2 = some (.int .i64 0) := by kernel_rfl
theorem tagg_2 : tagg Try.prog 2 = some false := by kernel_rfl
theorem us_2 : (Try.prog.underlying 2).isSome = true := by kernel_rfl
theorem tint_2 : tint Try.prog 2 = some .i64 := by kernel_rfl
theorem tsz_3 : tsz Try.prog 3 = some 1 := by kernel_rfl
theorem tzero_3 : tzero Try.prog 3 = some [.int .i64 0] := by kernel_rfl
theorem tzv_3 : tzv Try.prog 3 = some (.int .i64 0) := by kernel_rfl
theorem tagg_3 : tagg Try.prog 3 = some false := by kernel_rfl
theorem us_3 : (Try.prog.underlying 3).isSome = true := by kernel_rfl
theorem tint_3 : tint Try.prog 3 = some .i64 := by kernel_rfl
theorem tsz_4 : tsz Try.prog 4 = some 1 := by kernel_rfl
theorem tzero_4 : tzero Try.prog 4 = some [.bool false] := by kernel_rfl
theorem tzv_4 : tzv Try.prog 4 = some (.bool false) := by kernel_rfl
theorem tagg_4 : tagg Try.prog 4 = some false := by kernel_rfl
theorem us_4 : (Try.prog.underlying 4).isSome = true := by kernel_rfl
theorem ub_4 : Try.prog.underlying 4 = some .bool := by kernel_rfl
theorem tsz_5 : tsz Try.prog 5 = some 1 := by kernel_rfl
theorem tzero_5 : tzero Try.prog 5 = some [.int .u8 0] := by kernel_rfl
theorem tzv_5 : tzv Try.prog 5 = some (.int .u8 0) := by kernel_rfl
theorem tagg_5 : tagg Try.prog 5 = some false := by kernel_rfl
theorem us_5 : (Try.prog.underlying 5).isSome = true := by kernel_rfl
theorem tint_5 : tint Try.prog 5 = some .u8 := by kernel_rfl
theorem tsz_6 : tsz Try.prog 6 = some 1 := by kernel_rfl
theorem tzero_6 : tzero Try.prog 6 = some [.int .u8 0] := by kernel_rfl
theorem tzv_6 : tzv Try.prog 6 = some (.int .u8 0) := by kernel_rfl
theorem tagg_6 : tagg Try.prog 6 = some false := by kernel_rfl
theorem us_6 : (Try.prog.underlying 6).isSome = true := by kernel_rfl
theorem tint_6 : tint Try.prog 6 = some .u8 := by kernel_rfl
theorem tsz_7 : tsz Try.prog 7 = some 4 := by kernel_rfl
theorem tzero_7 : tzero Try.prog 7 = some [.int .i64 0, .int .i64 0, .bool false, .int .u8 0] := by kernel_rfl
theorem tzv_7 : tzv Try.prog 7 = some (.agg [.int .i64 0, .int .i64 0, .bool false, .int .u8 0]) := by kernel_rfl
theorem tagg_7 : tagg Try.prog 7 = some true := by kernel_rfl
theorem us_7 : (Try.prog.underlying 7).isSome = true := by kernel_rfl
theorem tfld_7_0 : tfld Try.prog 7 0 = some (0, 2, 1) := by kernel_rfl
theorem tfld_7_1 : tfld Try.prog 7 1 = some (1, 3, 1) := by kernel_rfl
theorem tfld_7_2 : tfld Try.prog 7 2 = some (2, 4, 1) := by kernel_rfl
theorem tfld_7_3 : tfld Try.prog 7 3 = some (3, 6, 1) := by kernel_rfl
theorem tpl_7 : tplaces Try.prog 7 = some [(0, 1), (1, 1), (2, 1), (3, 1)] := by kernel_rfl
theorem eqok_7 {x y : List VV} (hx : fitsK [some .i64, some .i64, none, some .u8] x = true) (hy : fitsK [some .i64, some .i64, none, some .u8] y = true) : EqOK Try.prog 7 x y = True := eq_true (EqOK.of (t := 7) (by kernel_rfl) (by kernel_rfl) (by kernel_rfl) hx hy)
theorem tsz_8 : tsz Try.prog 8 = some 4 := by kernel_rfl
theorem tzero_8 : tzero Try.prog 8 = some [.int .i64 0, .int .i64 0, .bool false, .int .u8 0] := by kernel_rfl
theorem tzv_8 : tzv Try.prog 8 = some (.agg [.int .i64 0, .int .i64 0, .bool false, .int .u8 0]) := by kernel_rfl
theorem tagg_8 : tagg Try.prog 8 = some true := by kernel_rfl
theorem us_8 : (Try.prog.underlying 8).isSome = true := by kernel_rfl
theorem tfld_8_0 : tfld Try.prog 8 0 = some (0, 2, 1) := by kernel_rfl
theorem tfld_8_1 : tfld Try.prog 8 1 = some (1, 3, 1) := by kernel_rfl
theorem tfld_8_2 : tfld Try.prog 8 2 = some (2, 4, 1) := by kernel_rfl
theorem tfld_8_3 : tfld Try.prog 8 3 = some (3, 6, 1) := by kernel_rfl
theorem tpl_8 : tplaces Try.prog 8 = some [(0, 1), (1, 1), (2, 1), (3, 1)] := by kernel_rfl
theorem eqok_8 {x y : List VV} (hx : fitsK [some .i64, some .i64, none, some .u8] x = true) (hy : fitsK [some .i64, some .i64, none, some .u8] y = true) : EqOK Try.prog 8 x y = True := eq_true (EqOK.of (t := 8) (by kernel_rfl) (by kernel_rfl) (by kernel_rfl) hx hy)
theorem tsz_9 : tsz Try.prog 9 = some 1 := by kernel_rfl
theorem tagg_9 : tagg Try.prog 9 = some false := by kernel_rfl
theorem us_9 : (Try.prog.underlying 9).isSome = true := by kernel_rfl
theorem tstr_9 : tstr Try.prog 9 = true := by kernel_rfl
theorem ust_9 : Try.prog.underlying 9 = some .string := by kernel_rfl
theorem tsz_10 : tsz Try.prog 10 = some 1 := by kernel_rfl
theorem tagg_10 : tagg Try.prog 10 = some false := by kernel_rfl
theorem us_10 : (Try.prog.underlying 10).isSome = true := by kernel_rfl
theorem tstr_10 : tstr Try.prog 10 = true := by kernel_rfl
theorem ust_10 : Try.prog.underlying 10 = some .string := by kernel_rfl
theorem tsz_11 : tsz Try.prog 11 = some 1 := by kernel_rfl
theorem tagg_11 : tagg Try.prog 11 = some false := by kernel_rfl
theorem us_11 : (Try.prog.underlying 11).isSome = true := by kernel_rfl
theorem tstr_11 : tstr Try.prog 11 = true := by kernel_rfl
theorem ust_11 : Try.prog.underlying 11 = some .string := by kernel_rfl
theorem tsz_12 : tsz Try.prog 12 = some 1 := by kernel_rfl
theorem tzero_12 : tzero Try.prog 12 = some [.int .u64 0] := by kernel_rfl
theorem tzv_12 : tzv Try.prog 12 = some (.int .u64 0) := by kernel_rfl
theorem tagg_12 : tagg Try.prog 12 = some false := by kernel_rfl
theorem us_12 : (Try.prog.underlying 12).isSome = true := by kernel_rfl
theorem tint_12 : tint Try.prog 12 = some .u64 := by kernel_rfl
theorem tsz_13 : tsz Try.prog 13 = some 2 := by kernel_rfl
theorem tagg_13 : tagg Try.prog 13 = some true := by kernel_rfl
theorem us_13 : (Try.prog.underlying 13).isSome = true := by kernel_rfl
theorem tfld_13_0 : tfld Try.prog 13 0 = some (0, 9, 1) := by kernel_rfl
theorem tfld_13_1 : tfld Try.prog 13 1 = some (1, 12, 1) := by kernel_rfl
theorem tpl_13 : tplaces Try.prog 13 = some [(0, 1), (1, 1)] := by kernel_rfl
theorem tsz_14 : tsz Try.prog 14 = some 2 := by kernel_rfl
theorem tagg_14 : tagg Try.prog 14 = some true := by kernel_rfl
theorem us_14 : (Try.prog.underlying 14).isSome = true := by kernel_rfl
theorem tfld_14_0 : tfld Try.prog 14 0 = some (0, 9, 1) := by kernel_rfl
theorem tfld_14_1 : tfld Try.prog 14 1 = some (1, 12, 1) := by kernel_rfl
theorem tpl_14 : tplaces Try.prog 14 = some [(0, 1), (1, 1)] := by kernel_rfl
theorem tsz_15 : tsz Try.prog 15 = some 1 := by kernel_rfl
theorem tzero_15 : tzero Try.prog 15 = some [.nilPtr] := by kernel_rfl
theorem tzv_15 : tzv Try.prog 15 = some (.nilPtr) := by kernel_rfl
theorem tagg_15 : tagg Try.prog 15 = some false := by kernel_rfl
theorem us_15 : (Try.prog.underlying 15).isSome = true := by kernel_rfl
theorem tptr_15 : tptr Try.prog 15 = true := by kernel_rfl
theorem tsz_16 : tsz Try.prog 16 = some 1 := by kernel_rfl
theorem tzero_16 : tzero Try.prog 16 = some [.nilPtr] := by kernel_rfl
theorem tzv_16 : tzv Try.prog 16 = some (.nilPtr) := by kernel_rfl
theorem tagg_16 : tagg Try.prog 16 = some false := by kernel_rfl
theorem us_16 : (Try.prog.underlying 16).isSome = true := by kernel_rfl
theorem tptr_16 : tptr Try.prog 16 = true := by kernel_rfl
theorem tsz_17 : tsz Try.prog 17 = some 1 := by kernel_rfl
theorem tzero_17 : tzero Try.prog 17 = some [.nilPtr] := by kernel_rfl
theorem tzv_17 : tzv Try.prog 17 = some (.nilPtr) := by kernel_rfl
theorem tagg_17 : tagg Try.prog 17 = some false := by kernel_rfl
theorem us_17 : (Try.prog.underlying 17).isSome = true := by kernel_rfl
theorem tptr_17 : tptr Try.prog 17 = true := by kernel_rfl
theorem tsz_18 : tsz Try.prog 18 = some 1 := by kernel_rfl
theorem tzero_18 : tzero Try.prog 18 = some [.nilPtr] := by kernel_rfl
theorem tzv_18 : tzv Try.prog 18 = some (.agg [.nilPtr]) := by kernel_rfl
theorem tagg_18 : tagg Try.prog 18 = some true := by kernel_rfl
theorem us_18 : (Try.prog.underlying 18).isSome = true := by kernel_rfl
theorem tfld_18_0 : tfld Try.prog 18 0 = some (0, 17, 1) := by kernel_rfl
theorem tpl_18 : tplaces Try.prog 18 = some [(0, 1)] := by kernel_rfl
theorem tsz_19 : tsz Try.prog 19 = some 1 := by kernel_rfl
theorem tzero_19 : tzero Try.prog 19 = some [.nilPtr] := by kernel_rfl
theorem tzv_19 : tzv Try.prog 19 = some (.agg [.nilPtr]) := by kernel_rfl
theorem tagg_19 : tagg Try.prog 19 = some true := by kernel_rfl
theorem us_19 : (Try.prog.underlying 19).isSome = true := by kernel_rfl
theorem tfld_19_0 : tfld Try.prog 19 0 = some (0, 17, 1) := by kernel_rfl
theorem tpl_19 : tplaces Try.prog 19 = some [(0, 1)] := by kernel_rfl
theorem tsz_21 : tsz Try.prog 21 = some 1 := by kernel_rfl
theorem tzero_21 : tzero Try.prog 21 = some [.int .i32 0] := by kernel_rfl
theorem tzv_21 : tzv Try.prog 21 = some (.int .i32 0) := by kernel_rfl
theorem tagg_21 : tagg Try.prog 21 = some false := by kernel_rfl
theorem us_21 : (Try.prog.underlying 21).isSome = true := by kernel_rfl
theorem tint_21 : tint Try.prog 21 = some .i32 := by kernel_rfl
theorem tsz_22 : tsz Try.prog 22 = some 1 := by kernel_rfl
theorem tzero_22 : tzero Try.prog 22 = some [.nilSlice] := by kernel_rfl
theorem tzv_22 : tzv Try.prog 22 = some (.nilSlice) := by kernel_rfl
theorem tagg_22 : tagg Try.prog 22 = some false := by kernel_rfl
theorem us_22 : (Try.prog.underlying 22).isSome = true := by kernel_rfl
theorem tsl_22 : tsl Try.prog 22 = some (5, 1) := by kernel_rfl
theorem tapp_22 : tapp Try.prog 22 = some (5, 1, 1) := by kernel_rfl
theorem tbytes_22 : tbytes Try.prog 22 = true := by kernel_rfl
theorem tfun_23 : tfun Try.prog 23 = true := by kernel_rfl
theorem tsz_23 : tsz Try.prog 23 = some 1 := by kernel_rfl
theorem tzero_23 : tzero Try.prog 23 = some [.nilFunc] := by kernel_rfl
theorem tzv_23 : tzv Try.prog 23 = some (.nilFunc) := by kernel_rfl
theorem tagg_23 : tagg Try.prog 23 = some false := by kernel_rfl
theorem us_23 : (Try.prog.underlying 23).isSome = true := by kernel_rfl
theorem tsz_24 : tsz Try.prog 24 = some 1 := by kernel_rfl
theorem tzero_24 : tzero Try.prog 24 = some [.int .i8 0] := by kernel_rfl
theorem tzv_24 : tzv Try.prog 24 = some (.int .i8 0) := by kernel_rfl
theorem tagg_24 : tagg Try.prog 24 = some false := by kernel_rfl
theorem us_24 : (Try.prog.underlying 24).isSome = true := by kernel_rfl
theorem tint_24 : tint Try.prog 24 = some .i8 := by kernel_rfl
theorem tsz_25 : tsz Try.prog 25 = some 3 := by kernel_rfl
theorem tzero_25 : tzero Try.prog 25 = some [.int .i64 0, .int .i64 0, .int .i64 0] := by kernel_rfl
theorem tzv_25 : tzv Try.prog 25 = some (.agg [.int .i64 0, .int .i64 0, .int .i64 0]) := by kernel_rfl
theorem tagg_25 : tagg Try.prog 25 = some true := by kernel_rfl
theorem us_25 : (Try.prog.underlying 25).isSome = true := by kernel_rfl
theorem tfld_25_0 : tfld Try.prog 25 0 = some (0, 3, 1) := by kernel_rfl
theorem tfld_25_1 : tfld Try.prog 25 1 = some (1, 3, 1) := by kernel_rfl
theorem tfld_25_2 : tfld Try.prog 25 2 = some (2, 3, 1) := by kernel_rfl
theorem tpl_25 : tplaces Try.prog 25 = some [(0, 1), (1, 1), (2, 1)] := by kernel_rfl
theorem eqok_25 {x y : List VV} (hx : fitsK [some .i64, some .i64, some .i64] x = true) (hy : fitsK [some .i64, some .i64, some .i64] y = true) : EqOK Try.prog 25 x y = True := eq_true (EqOK.of (t := 25) (by kernel_rfl) (by kernel_rfl) (by kernel_rfl) hx hy)
theorem tsz_26 : tsz Try.prog 26 = some 3 := by kernel_rfl
theorem tzero_26 : tzero Try.prog 26 = some [.int .i64 0, .int .i64 0, .int .i64 0] := by kernel_rfl
theorem tzv_26 : tzv Try.prog 26 = some (.agg [.int .i64 0, .int .i64 0, .int .i64 0]) := by kernel_rfl
theorem tagg_26 : tagg Try.prog 26 = some true := by kernel_rfl
theorem us_26 : (Try.prog.underlying 26).isSome = true := by kernel_rfl
theorem tfld_26_0 : tfld Try.prog 26 0 = some (0, 3, 1) := by kernel_rfl
theorem tfld_26_1 : tfld Try.prog 26 1 = some (1, 3, 1) := by kernel_rfl
theorem tfld_26_2 : tfld Try.prog 26 2 = some (2, 3, 1) := by kernel_rfl
theorem tpl_26 : tplaces Try.prog 26 = some [(0, 1), (1, 1), (2, 1)] := by kernel_rfl
theorem eqok_26 {x y : List VV} (hx : fitsK [some .i64, some .i64, some .i64] x = true) (hy : fitsK [some .i64, some .i64, some .i64] y = true) : EqOK Try.prog 26 x y = True := eq_true (EqOK.of (t := 26) (by kernel_rfl) (by kernel_rfl) (by kernel_rfl) hx hy)
theorem tsz_27 : tsz Try.prog 27 = some 1 := by kernel_rfl
theorem tzero_27 : tzero Try.prog 27 = some [.nilSlice] := by kernel_rfl
theorem tzv_27 : tzv Try.prog 27 = some (.nilSlice) := by kernel_rfl
theorem tagg_27 : tagg Try.prog 27 = some false := by kernel_rfl
theorem us_27 : (Try.prog.underlying 27).isSome = true := by kernel_rfl
theorem tsl_27 : tsl Try.prog 27 = some (89, 9) := by kernel_rfl
theorem tapp_27 : tapp Try.prog 27 = some (89, 9, 16) := by kernel_rfl
theorem tsz_28 : tsz Try.prog 28 = some 2 := by kernel_rfl
theorem tzero_28 : tzero Try.prog 28 = some [.int .i64 0, .int .i64 0] := by kernel_rfl
theorem tzv_28 : tzv Try.prog 28 = some (.agg [.int .i64 0, .int .i64 0]) := by kernel_rfl
theorem tagg_28 : tagg Try.prog 28 = some true := by kernel_rfl
theorem us_28 : (Try.prog.underlying 28).isSome = true := by kernel_rfl
theorem tfld_28_0 : tfld Try.prog 28 0 = some (0, 3, 1) := by kernel_rfl
theorem tfld_28_1 : tfld Try.prog 28 1 = some (1, 3, 1) := by kernel_rfl
theorem tpl_28 : tplaces Try.prog 28 = some [(0, 1), (1, 1)] := by kernel_rfl
theorem eqok_28 {x y : List VV} (hx : fitsK [some .i64, some .i64] x = true) (hy : fitsK [some .i64, some .i64] y = true) : EqOK Try.prog 28 x y = True := eq_true (EqOK.of (t := 28) (by kernel_rfl) (by kernel_rfl) (by kernel_rfl) hx hy)
theorem tsz_29 : tsz Try.prog 29 = some 2 := by kernel_rfl
theorem tzero_29 : tzero Try.prog 29 = some [.int .i64 0, .int .i64 0] := by kernel_rfl
theorem tzv_29 : tzv Try.prog 29 = some (.agg [.int .i64 0, .int .i64 0]) := by kernel_rfl
theorem tagg_29 : tagg Try.prog 29 = some true := by kernel_rfl
theorem us_29 : (Try.prog.underlying 29).isSome = true := by kernel_rfl
theorem tfld_29_0 : tfld Try.prog 29 0 = some (0, 3, 1) := by kernel_rfl
theorem tfld_29_1 : tfld Try.prog 29 1 = some (1, 3, 1) := by kernel_rfl
theorem tpl_29 : tplaces Try.prog 29 = some [(0, 1), (1, 1)] := by kernel_rfl
theorem eqok_29 {x y : List VV} (hx : fitsK [some .i64, some .i64] x = true) (hy : fitsK [some .i64, some .i64] y = true) : EqOK Try.prog 29 x y = True := eq_true (EqOK.of (t := 29) (by kernel_rfl) (by kernel_rfl) (by kernel_rfl) hx hy)
theorem tsz_30 : tsz Try.prog 30 = some 12 := by kernel_rfl
theorem tzero_30 : tzero Try.prog 30 = some [.int .i8 0, .int .i64 0, .int .i64 0, .int .i64 0, .bool false, .nilSlice, .int .i64 0, .int .i64 0, .int .i64 0, .int .i64 0, .int .i64 0, .int .i64 0] := by kernel_rfl
theorem tzv_30 : tzv Try.prog 30 = some (.agg [.int .i8 0, .int .i64 0, .int .i64 0, .int .i64 0, .bool false, .nilSlice, .int .i64 0, .int .i64 0, .int .i64 0, .int .i64 0, .int .i64 0, .int .i64 0]) := by kernel_rfl
theorem tagg_30 : tagg Try.prog 30 = some true := by kernel_rfl
theorem us_30 : (Try.prog.underlying 30).isSome = true := by kernel_rfl
theorem tfld_30_0 : tfld Try.prog 30 0 = some (0, 24, 1) := by kernel_rfl
theorem tfld_30_1 : tfld Try.prog 30 1 = some (1, 26, 3) := by kernel_rfl
theorem tfld_30_2 : tfld Try.prog 30 2 = some (4, 4, 1) := by kernel_rfl
theorem tfld_30_3 : tfld Try.prog 30 3 = some (5, 27, 1) := by kernel_rfl
theorem tfld_30_4 : tfld Try.prog 30 4 = some (6, 3, 1) := by kernel_rfl
theorem tfld_30_5 : tfld Try.prog 30 5 = some (7, 3, 1) := by kernel_rfl
theorem tfld_30_6 : tfld Try.prog 30 6 = some (8, 3, 1) := by kernel_rfl
theorem tfld_30_7 : tfld Try.prog 30 7 = some (9, 29, 2) := by kernel_rfl
theorem tfld_30_8 : tfld Try.prog 30 8 = some (11, 3, 1) := by kernel_rfl
theorem tpl_30 : tplaces Try.prog 30 = some [(0, 1), (1, 3), (4, 1), (5, 1), (6, 1), (7, 1), (8, 1), (9, 2), (11, 1)] := by kernel_rfl
theorem tsz_31 : tsz Try.prog 31 = some 12 := by kernel_rfl
theorem tzero_31 : tzero Try.prog 31 = some [.int .i8 0, .int .i64 0, .int .i64 0, .int .i64 0, .bool false, .nilSlice, .int .i64 0, .int .i64 0, .int .i64 0, .int .i64 0, .int .i64 0, .int .i64 0] := by kernel_rfl
theorem tzv_31 : tzv Try.prog 31 = some (.agg [.int .i8 0, .int .i64 0, .int .i64 0, .int .i64 0, .bool false, .nilSlice, .int .i64 0, .int .i64 0, .int .i64 0, .int .i64 0, .int .i64 0, .int .i64 0]) := by kernel_rfl
theorem tagg_31 : tagg Try.prog 31 = some true := by kernel_rfl
theorem us_31 : (Try.prog.underlying 31).isSome = true := by kernel_rfl
theorem tfld_31_0 : tfld Try.prog 31 0 = some (0, 24, 1) := by kernel_rfl
theorem tfld_31_1 : tfld Try.prog 31 1 = some (1, 26, 3) := by kernel_rfl
theorem tfld_31_2 : tfld Try.prog 31 2 = some (4, 4, 1) := by kernel_rfl
theorem tfld_31_3 : tfld Try.prog 31 3 = some (5, 27, 1) := by kernel_rfl
theorem tfld_31_4 : tfld Try.prog 31 4 = some (6, 3, 1) := by kernel_rfl
theorem tfld_31_5 : tfld Try.prog 31 5 = some (7, 3, 1) := by kernel_rfl
theorem tfld_31_6 : tfld Try.prog 31 6 = some (8, 3, 1) := by kernel_rfl
theorem tfld_31_7 : tfld Try.prog 31 7 = some (9, 29, 2) := by kernel_rfl
theorem tfld_31_8 : tfld Try.prog 31 8 = some (11, 3, 1) := by kernel_rfl
theorem tpl_31 : tplaces Try.prog 31 = some [(0, 1), (1, 3), (4, 1), (5, 1), (6, 1), (7, 1), (8, 1), (9, 2), (11, 1)] := by kernel_rfl
theorem tsz_32 : tsz Try.prog 32 = some 1 := by kernel_rfl
theorem tzero_32 : tzero Try.prog 32 = some [.int .i64 0] := by kernel_rfl
theorem tzv_32 : tzv Try.prog 32 = some (.int .i64 0) := by kernel_rfl
theorem tagg_32 : tagg Try.prog 32 = some false := by kernel_rfl
theorem us_32 : (Try.prog.underlying 32).isSome = true := by kernel_rfl
theorem tint_32 : tint Try.prog 32 = some .i64 := by kernel_rfl
theorem tfun_34 : tfun Try.prog 34 = true := by kernel_rfl
theorem tsz_34 : tsz Try.prog 34 = some 1 := by kernel_rfl
theorem tzero_34 : tzero Try.prog 34 = some [.nilFunc] := by kernel_rfl
theorem tzv_34 : tzv Try.prog 34 = some (.nilFunc) := by kernel_rfl
theorem tagg_34 : tagg Try.prog 34 = some false := by kernel_rfl
theorem us_34 : (Try.prog.underlying 34).isSome = true := by kernel_rfl
theorem tfun_35 : tfun Try.prog 35 = true := by kernel_rfl
theorem tsz_35 : tsz Try.prog 35 = some 1 := by kernel_rfl
theorem tzero_35 : tzero Try.prog 35 = some [.nilFunc] := by kernel_rfl
theorem tzv_35 : tzv Try.prog 35 = some (.nilFunc) := by kernel_rfl
theorem tagg_35 : tagg Try.prog 35 = some false := by kernel_rfl
theorem us_35 : (Try.prog.underlying 35).isSome = true := by kernel_rfl
theorem tfun_36 : tfun Try.prog 36 = true := by kernel_rfl
theorem tsz_36 : tsz Try.prog 36 = some 1 := by kernel_rfl
theorem tzero_36 : tzero Try.prog 36 = some [.nilFunc] := by kernel_rfl
theorem tzv_36 : tzv Try.prog 36 = some (.nilFunc) := by kernel_rfl
theorem tagg_36 : tagg Try.prog 36 = some false := by kernel_rfl
theorem us_36 : (Try.prog.underlying 36).isSome = true := by kernel_rfl
theorem tfun_37 : tfun Try.prog 37 = true := by kernel_rfl
theorem tsz_37 : tsz Try.prog 37 = some 1 := by kernel_rfl
theorem tzero_37 : tzero Try.prog 37 = some [.nilFunc] := by kernel_rfl
theorem tzv_37 : tzv Try.prog 37 = some (.nilFunc) := by kernel_rfl
theorem tagg_37 : tagg Try.prog 37 = some false := by kernel_rfl
theorem us_37 : (Try.prog.underlying 37).isSome = true := by kernel_rfl
theorem tfun_39 : tfun Try.prog 39 = true := by kernel_rfl
theorem tsz_39 : tsz Try.prog 39 = some 1 := by kernel_rfl
theorem tzero_39 : tzero Try.prog 39 = some [.nilFunc] := by kernel_rfl
theorem tzv_39 : tzv Try.prog 39 = some (.nilFunc) := by kernel_rfl
theorem tagg_39 : tagg Try.prog 39 = some false := by kernel_rfl
theorem us_39 : (Try.prog.underlying 39).isSome = true := by kernel_rfl
theorem tfun_40 : tfun Try.prog 40 = true := by kernel_rfl
theorem tsz_40 : tsz Try.prog 40 = some 1 := by kernel_rfl
theorem tzero_40 : tzero Try.prog 40 = some [.nilFunc] := by kernel_rfl
theorem tzv_40 : tzv Try.prog 40 = some (.nilFunc) := by kernel_rfl
theorem tagg_40 : tagg Try.prog 40 = some false := by kernel_rfl
theorem us_40 : (Try.prog.underlying 40).isSome = true := by kernel_rfl
theorem tfun_42 : tfun Try.prog 42 = true := by kernel_rfl
theorem tsz_42 : tsz Try.prog 42 = some 1 := by kernel_rfl
theorem tzero_42 : tzero Try.prog 42 = some [.nilFunc] := by kernel_rfl
theorem tzv_42 : tzv Try.prog 42 = some (.nilFunc) := by kernel_rfl
theorem tagg_42 : tagg Try.prog 42 = some false := by kernel_rfl
theorem us_42 : (Try.prog.underlying 42).isSome = true := by kernel_rfl
theorem tfun_43 : tfun Try.prog 43 = true := by kernel_rfl
theorem tsz_43 : tsz Try.prog 43 = some 1 := by kernel_rfl
theorem tzero_43 : tzero Try.prog 43 = some [.nilFunc] := by kernel_rfl
theorem tzv_43 : tzv Try.prog 43 = some (.nilFunc) := by kernel_rfl
theorem tagg_43 : tagg Try.prog 43 = some false := by kernel_rfl
theorem us_43 : (Try.prog.underlying 43).isSome = true := by kernel_rfl
theorem tfun_44 : tfun Try.prog 44 = true := by kernel_rfl
theorem tsz_44 : tsz Try.prog 44 = some 1 := by kernel_rfl
theorem tzero_44 : tzero Try.prog 44 = some [.nilFunc] := by kernel_rfl
theorem tzv_44 : tzv Try.prog 44 = some (.nilFunc) := by kernel_rfl
theorem tagg_44 : tagg Try.prog 44 = some false := by kernel_rfl
theorem us_44 : (Try.prog.underlying 44).isSome = true := by kernel_rfl
theorem tfun_45 : tfun Try.prog 45 = true := by kernel_rfl
theorem tsz_45 : tsz Try.prog 45 = some 1 := by kernel_rfl
theorem tzero_45 : tzero Try.prog 45 = some [.nilFunc] := by kernel_rfl
theorem tzv_45 : tzv Try.prog 45 = some (.nilFunc) := by kernel_rfl
theorem tagg_45 : tagg Try.prog 45 = some false := by kernel_rfl
theorem us_45 : (Try.prog.underlying 45).isSome = true := by kernel_rfl
theorem tfun_46 : tfun Try.prog 46 = true := by kernel_rfl
theorem tsz_46 : tsz Try.prog 46 = some 1 := by kernel_rfl
theorem tzero_46 : tzero Try.prog 46 = some [.nilFunc] := by kernel_rfl
theorem tzv_46 : tzv Try.prog 46 = some (.nilFunc) := by kernel_rfl
theorem tagg_46 : tagg Try.prog 46 = some false := by kernel_rfl
theorem us_46 : (Try.prog.underlying 46).isSome = true := by kernel_rfl
theorem tfun_47 : tfun Try.prog 47 = true := by kernel_rfl
theorem tsz_47 : tsz Try.prog 47 = some 1 := by kernel_rfl
theorem tzero_47 : tzero Try.prog 47 = some [.nilFunc] := by kernel_rfl
theorem tzv_47 : tzv Try.prog 47 = some (.nilFunc) := by kernel_rfl
theorem tagg_47 : tagg Try.prog 47 = some false := by kernel_rfl
theorem us_47 : (Try.prog.underlying 47).isSome = true := by kernel_rfl
theorem tsz_48 : tsz Try.prog 48 = some 5 := by kernel_rfl
theorem tzero_48 : tzero Try.prog 48 = some [.int .i64 0, .int .i64 0, .int .i64 0, .int .i64 0, .int .i64 0] := by kernel_rfl
theorem tzv_48 : tzv Try.prog 48 = some (.agg [.int .i64 0, .int .i64 0, .int .i64 0, .int .i64 0, .int .i64 0]) := by kernel_rfl
theorem tagg_48 : tagg Try.prog 48 = some true := by kernel_rfl
theorem us_48 : (Try.prog.underlying 48).isSome = true := by kernel_rfl
theorem tarr_48 : tarr Try.prog 48 = some (5, 3, 1) := by kernel_rfl
theorem tpl_48 : tplaces Try.prog 48 = none := by kernel_rfl
theorem tsn_48 : tsl Try.prog 48 = none := by kernel_rfl
theorem eqok_48 {x y : List VV} (hx : fitsK [some .i64, some .i64, some .i64, some .i64, some .i64] x = true) (hy : fitsK [some .i64, some .i64, some .i64, some .i64, some .i64] y = true) : EqOK Try.prog 48 x y = True := eq_true (EqOK.of (t := 48) (by kernel_rfl) (by kernel_rfl) (by kernel_rfl) hx hy)
theorem tsz_49 : tsz Try.prog 49 = some 7 := by kernel_rfl
theorem tzero_49 : tzero Try.prog 49 = some [.int .i64 0, .int .i64 0, .int .i64 0, .int .i64 0, .int .i64 0, .int .i64 0, .int .i64 0] := by kernel_rfl
theorem tzv_49 : tzv Try.prog 49 = some (.agg [.int .i64 0, .int .i64 0, .int .i64 0, .int .i64 0, .int .i64 0, .int .i64 0, .int .i64 0]) := by kernel_rfl
theorem tagg_49 : tagg Try.prog 49 = some true := by kernel_rfl
theorem us_49 : (Try.prog.underlying 49).isSome = true := by kernel_rfl
theorem tfld_49_0 : tfld Try.prog 49 0 = some (0, 3, 1) := by kernel_rfl
theorem tfld_49_1 : tfld Try.prog 49 1 = some (1, 3, 1) := by kernel_rfl
theorem tfld_49_2 : tfld Try.prog 49 2 = some (2, 48, 5) := by kernel_rfl
theorem tpl_49 : tplaces Try.prog 49 = some [(0, 1), (1, 1), (2, 5)] := by kernel_rfl
theorem eqok_49 {x y : List VV} (hx : fitsK [some .i64, some .i64, some .i64, some .i64, some .i64, some .i64, some .i64] x = true) (hy : fitsK [some .i64, some .i64, some .i64, some .i64, some .i64, some .i64, some .i64] y = true) : EqOK Try.prog 49 x y = True := eq_true (EqOK.of (t := 49) (by kernel_rfl) (by kernel_rfl) (by kernel_rfl) hx hy)
theorem tsz_50 : tsz Try.prog 50 = some 7 := by kernel_rfl
theorem tzero_50 : tzero Try.prog 50 = some [.int .i64 0, .int .i64 0, .int .i64 0, .int .i64 0, .int .i64 0, .int .i64 0, .int .i64 0] := by kernel_rfl
theorem tzv_50 : tzv Try.prog 50 = some (.agg [.int .i64 0, .int .i64 0, .int .i64 0, .int .i64 0, .int .i64 0, .int .i64 0, .int .i64 0]) := by kernel_rfl
theorem tagg_50 : tagg Try.prog 50 = some true := by kernel_rfl
theorem us_50 : (Try.prog.underlying 50).isSome = true := by kernel_rfl
theorem tfld_50_0 : tfld Try.prog 50 0 = some (0, 3, 1) := by kernel_rfl
theorem tfld_50_1 : tfld Try.prog 50 1 = some (1, 3, 1) := by kernel_rfl
theorem tfld_50_2 : tfld Try.prog 50 2 = some (2, 48, 5) := by kernel_rfl
theorem tpl_50 : tplaces Try.prog 50 = some [(0, 1), (1, 1), (2, 5)] := by kernel_rfl
theorem eqok_50 {x y : List VV} (hx : fitsK [some .i64, some .i64, some .i64, some .i64, some .i64, some .i64, some .i64] x = true) (hy : fitsK [some .i64, some .i64, some .i64, some .i64, some .i64, some .i64, some .i64] y = true) : EqOK Try.prog 50 x y = True := eq_true (EqOK.of (t := 50) (by kernel_rfl) (by kernel_rfl) (by kernel_rfl) hx hy)
theorem tsz_51 : tsz Try.prog 51 = some 1 := by kernel_rfl
theorem tzero_51 : tzero Try.prog 51 = some [.nilSlice] := by kernel_rfl
theorem tzv_51 : tzv Try.prog 51 = some (.nilSlice) := by kernel_rfl
theorem tagg_51 : tagg Try.prog 51 = some false := by kernel_rfl
theorem us_51 : (Try.prog.underlying 51).isSome = true := by kernel_rfl
theorem tsl_51 : tsl Try.prog 51 = some (56, 24) := by kernel_rfl
theorem tapp_51 : tapp Try.prog 51 = some (56, 24, 152) := by kernel_rfl
theorem tfun_52 : tfun Try.prog 52 = true := by kernel_rfl
theorem tsz_52 : tsz Try.prog 52 = some 1 := by kernel_rfl
theorem tzero_52 : tzero Try.prog 52 = some [.nilFunc] := by kernel_rfl
theorem tzv_52 : tzv Try.prog 52 = some (.nilFunc) := by kernel_rfl
theorem tagg_52 : tagg Try.prog 52 = some false := by kernel_rfl
theorem us_52 : (Try.prog.underlying 52).isSome = true := by kernel_rfl
theorem tsz_53 : tsz Try.prog 53 = some 8 := by kernel_rfl
theorem tzero_53 : tzero Try.prog 53 = some [.int .u8 0, .int .u8 0, .int .u8 0, .int .u8 0, .int .u8 0, .int .u8 0, .int .u8 0, .int .u8 0] := by kernel_rfl
theorem tzv_53 : tzv Try.prog 53 = some (.agg [.int .u8 0, .int .u8 0, .int .u8 0, .int .u8 0, .int .u8 0, .int .u8 0, .int .u8 0, .int .u8 0]) := by kernel_rfl
theorem tagg_53 : tagg Try.prog 53 = some true := by kernel_rfl
theorem us_53 : (Try.prog.underlying 53).isSome = true := by kernel_rfl
theorem tarr_53 : tarr Try.prog 53 = some (8, 5, 1) := by kernel_rfl
theorem tpl_53 : tplaces Try.prog 53 = none := by kernel_rfl
theorem tsn_53 : tsl Try.prog 53 = none := by kernel_rfl
theorem eqok_53 {x y : List VV} (hx : fitsK [some .u8, some .u8, some .u8, some .u8, some .u8, some .u8, some .u8, some .u8] x = true) (hy : fitsK [some .u8, some .u8, some .u8, some .u8, some .u8, some .u8, some .u8, some .u8] y = true) : EqOK Try.prog 53 x y = True := eq_true (EqOK.of (t := 53) (by kernel_rfl) (by kernel_rfl) (by kernel_rfl) hx hy)
theorem tsz_54 : tsz Try.prog 54 = some 8 := by kernel_rfl
theorem tzero_54 : tzero Try.prog 54 = some [.int .u8 0, .int .u8 0, .int .u8 0, .int .u8 0, .int .u8 0, .int .u8 0, .int .u8 0, .int .u8 0] := by kernel_rfl
theorem tzv_54 : tzv Try.prog 54 = some (.agg [.int .u8 0, .int .u8 0, .int .u8 0, .int .u8 0, .int .u8 0, .int .u8 0, .int .u8 0, .int .u8 0]) := by kernel_rfl
theorem tagg_54 : tagg Try.prog 54 = some true := by kernel_rfl
theorem us_54 : (Try.prog.underlying 54).isSome = true := by kernel_rfl
theorem tarr_54 : tarr Try.prog 54 = some (8, 5, 1) := by kernel_rfl
theorem tpl_54 : tplaces Try.prog 54 = none := by kernel_rfl
theorem tsn_54 : tsl Try.prog 54 = none := by kernel_rfl
theorem eqok_54 {x y : List VV} (hx : fitsK [some .u8, some .u8, some .u8, some .u8, some .u8, some .u8, some .u8, some .u8] x = true) (hy : fitsK [some .u8, some .u8, some .u8, some .u8, some .u8, some .u8, some .u8, some .u8] y = true) : EqOK Try.prog 54 x y = True := eq_true (EqOK.of (t := 54) (by kernel_rfl) (by kernel_rfl) (by kernel_rfl) hx hy)
theorem tsz_55 : tsz Try.prog 55 = some 24 := by kernel_rfl
theorem tzero_55 : tzero Try.prog 55 = some [.int .i8 0, .int .i64 0, .int .i64 0, .int .i64 0, .int .i64 0, .int .i64 0, .int .i64 0, .int .i64 0, .int .i64 0, .int .i8 0, .int .i64 0, .int .u8 0, .int .u8 0, .int .u8 0, .int .u8 0, .int .u8 0, .int .u8 0, .int .u8 0, .int .u8 0, .int .i64 0, .bool false, .int .i64 0, .int .i64 0, .nilSlice] := by kernel_rfl
theorem tagg_55 : tagg Try.prog 55 = some true := by kernel_rfl
theorem us_55 : (Try.prog.underlying 55).isSome = true := by kernel_rfl
theorem tfld_55_0 : tfld Try.prog 55 0 = some (0, 24, 1) := by kernel_rfl
theorem tfld_55_1 : tfld Try.prog 55 1 = some (1, 3, 1) := by kernel_rfl
theorem tfld_55_2 : tfld Try.prog 55 2 = some (2, 3, 1) := by kernel_rfl
theorem tfld_55_3 : tfld Try.prog 55 3 = some (3, 3, 1) := by kernel_rfl
theorem tfld_55_4 : tfld Try.prog 55 4 = some (4, 3, 1) := by kernel_rfl
theorem tfld_55_5 : tfld Try.prog 55 5 = some (5, 26, 3) := by kernel_rfl
theorem tfld_55_6 : tfld Try.prog 55 6 = some (8, 3, 1) := by kernel_rfl
theorem tfld_55_7 : tfld Try.prog 55 7 = some (9, 24, 1) := by kernel_rfl
theorem tfld_55_8 : tfld Try.prog 55 8 = some (10, 3, 1) := by kernel_rfl
theorem tfld_55_9 : tfld Try.prog 55 9 = some (11, 54, 8) := by kernel_rfl
theorem tfld_55_10 : tfld Try.prog 55 10 = some (19, 32, 1) := by kernel_rfl
theorem tfld_55_11 : tfld Try.prog 55 11 = some (20, 4, 1) := by kernel_rfl
theorem tfld_55_12 : tfld Try.prog 55 12 = some (21, 3, 1) := by kernel_rfl
theorem tfld_55_13 : tfld Try.prog 55 13 = some (22, 3, 1) := by kernel_rfl
theorem tfld_55_14 : tfld Try.prog 55 14 = some (23, 27, 1) := by kernel_rfl
theorem tpl_55 : tplaces Try.prog 55 = some [(0, 1), (1, 1), (2, 1), (3, 1), (4, 1), (5, 3), (8, 1), (9, 1), (10, 1), (11, 8), (19, 1), (20, 1), (21, 1), (22, 1), (23, 1)] := by kernel_rfl
theorem tsz_56 : tsz Try.prog 56 = some 24 := by kernel_rfl
theorem tzero_56 : tzero Try.prog 56 = some [.int .i8 0, .int .i64 0, .int .i64 0, .int .i64 0, .int .i64 0, .int .i64 0, .int .i64 0, .int .i64 0, .int .i64 0, .int .i8 0, .int .i64 0, .int .u8 0, .int .u8 0, .int .u8 0, .int .u8 0, .int .u8 0, .int .u8 0, .int .u8 0, .int .u8 0, .int .i64 0, .bool false, .int .i64 0, .int .i64 0, .nilSlice] := by kernel_rfl
theorem tagg_56 : tagg Try.prog 56 = some true := by kernel_rfl
theorem us_56 : (Try.prog.underlying 56).isSome = true := by kernel_rfl
theorem tfld_56_0 : tfld Try.prog 56 0 = some (0, 24, 1) := by kernel_rfl
theorem tfld_56_1 : tfld Try.prog 56 1 = some (1, 3, 1) := by kernel_rfl
theorem tfld_56_2 : tfld Try.prog 56 2 = some (2, 3, 1) := by kernel_rfl
theorem tfld_56_3 : tfld Try.prog 56 3 = some (3, 3, 1) := by kernel_rfl
theorem tfld_56_4 : tfld Try.prog 56 4 = some (4, 3, 1) := by kernel_rfl
theorem tfld_56_5 : tfld Try.prog 56 5 = some (5, 26, 3) := by kernel_rfl
theorem tfld_56_6 : tfld Try.prog 56 6 = some (8, 3, 1) := by kernel_rfl
theorem tfld_56_7 : tfld Try.prog 56 7 = some (9, 24, 1) := by kernel_rfl
theorem tfld_56_8 : tfld Try.prog 56 8 = some (10, 3, 1) := by kernel_rfl
theorem tfld_56_9 : tfld Try.prog 56 9 = some (11, 54, 8) := by kernel_rfl
theorem tfld_56_10 : tfld Try.prog 56 10 = some (19, 32, 1) := by kernel_rfl
theorem tfld_56_11 : tfld Try.prog 56 11 = some (20, 4, 1) := by kernel_rfl
theorem tfld_56_12 : tfld Try.prog 56 12 = some (21, 3, 1) := by kernel_rfl
theorem tfld_56_13 : tfld Try.prog 56 13 = some (22, 3, 1) := by kernel_rfl
theorem tfld_56_14 : tfld Try.prog 56 14 = some (23, 27, 1) := by kernel_rfl
theorem tpl_56 : tplaces Try.prog 56 = some [(0, 1), (1, 1), (2, 1), (3, 1), (4, 1), (5, 3), (8, 1), (9, 1), (10, 1), (11, 8), (19, 1), (20, 1), (21, 1), (22, 1), (23, 1)] := by kernel_rfl
theorem tfun_57 : tfun Try.prog 57 = true := by kernel_rfl
theorem tsz_57 : tsz Try.prog 57 = some 1 := by kernel_rfl
theorem tzero_57 : tzero Try.prog 57 = some [.nilFunc] := by kernel_rfl
theorem tzv_57 : tzv Try.prog 57 = some (.nilFunc) := by kernel_rfl
theorem tagg_57 : tagg Try.prog 57 = some false := by kernel_rfl
theorem us_57 : (Try.prog.underlying 57).isSome = true := by kernel_rfl
theorem tfun_59 : tfun Try.prog 59 = true := by kernel_rfl
theorem tsz_59 : tsz Try.prog 59 = some 1 := by kernel_rfl
theorem tzero_59 : tzero Try.prog 59 = some [.nilFunc] := by kernel_rfl
theorem tzv_59 : tzv Try.prog 59 = some (.nilFunc) := by kernel_rfl
theorem tagg_59 : tagg Try.prog 59 = some false := by kernel_rfl
theorem us_59 : (Try.prog.underlying 59).isSome = true := by kernel_rfl
theorem tfun_60 : tfun Try.prog 60 = true := by kernel_rfl
theorem tsz_60 : tsz Try.prog 60 = some 1 := by kernel_rfl
theorem tzero_60 : tzero Try.prog 60 = some [.nilFunc] := by kernel_rfl
theorem tzv_60 : tzv Try.prog 60 = some (.nilFunc) := by kernel_rfl
theorem tagg_60 : tagg Try.prog 60 = some false := by kernel_rfl
theorem us_60 : (Try.prog.underlying 60).isSome = true := by kernel_rfl
theorem tfun_61 : tfun Try.prog 61 = true := by kernel_rfl
theorem tsz_61 : tsz Try.prog 61 = some 1 := by kernel_rfl
theorem tzero_61 : tzero Try.prog 61 = some [.nilFunc] := by kernel_rfl
theorem tzv_61 : tzv Try.prog 61 = some (.nilFunc) := by kernel_rfl
theorem tagg_61 : tagg Try.prog 61 = some false := by kernel_rfl
theorem us_61 : (Try.prog.underlying 61).isSome = true := by kernel_rfl
theorem tfun_62 : tfun Try.prog 62 = true := by kernel_rfl
theorem tsz_62 : tsz Try.prog 62 = some 1 := by kernel_rfl
theorem tzero_62 : tzero Try.prog 62 = some [.nilFunc] := by kernel_rfl
theorem tzv_62 : tzv Try.prog 62 = some (.nilFunc) := by kernel_rfl
theorem tagg_62 : tagg Try.prog 62 = some false := by kernel_rfl
theorem us_62 : (Try.prog.underlying 62).isSome = true := by kernel_rfl
theorem tfun_64 : tfun Try.prog 64 = true := by kernel_rfl
theorem tsz_64 : tsz Try.prog 64 = some 1 := by kernel_rfl
theorem tzero_64 : tzero Try.prog 64 = some [.nilFunc] := by kernel_rfl
theorem tzv_64 : tzv Try.prog 64 = some (.nilFunc) := by kernel_rfl
theorem tagg_64 : tagg Try.prog 64 = some false := by kernel_rfl
theorem us_64 : (Try.prog.underlying 64).isSome = true := by kernel_rfl
theorem tfun_65 : tfun Try.prog 65 = true := by kernel_rfl
theorem tsz_65 : tsz Try.prog 65 = some 1 := by kernel_rfl
theorem tzero_65 : tzero Try.prog 65 = some [.nilFunc] := by kernel_rfl
theorem tzv_65 : tzv Try.prog 65 = some (.nilFunc) := by kernel_rfl
theorem tagg_65 : tagg Try.prog 65 = some false := by kernel_rfl
theorem us_65 : (Try.prog.underlying 65).isSome = true := by kernel_rfl
theorem tfun_66 : tfun Try.prog 66 = true := by kernel_rfl
theorem tsz_66 : tsz Try.prog 66 = some 1 := by kernel_rfl
theorem tzero_66 : tzero Try.prog 66 = some [.nilFunc] := by kernel_rfl
theorem tzv_66 : tzv Try.prog 66 = some (.nilFunc) := by kernel_rfl
theorem tagg_66 : tagg Try.prog 66 = some false := by kernel_rfl
theorem us_66 : (Try.prog.underlying 66).isSome = true := by kernel_rfl
theorem tfun_67 : tfun Try.prog 67 = true := by kernel_rfl
theorem tsz_67 : tsz Try.prog 67 = some 1 := by kernel_rfl
theorem tzero_67 : tzero Try.prog 67 = some [.nilFunc] := by kernel_rfl
theorem tzv_67 : tzv Try.prog 67 = some (.nilFunc) := by kernel_rfl
theorem tagg_67 : tagg Try.prog 67 = some false := by kernel_rfl
theorem us_67 : (Try.prog.underlying 67).isSome = true := by kernel_rfl
theorem tfun_68 : tfun Try.prog 68 = true := by kernel_rfl
theorem tsz_68 : tsz Try.prog 68 = some 1 := by kernel_rfl
theorem tzero_68 : tzero Try.prog 68 = some [.nilFunc] := by kernel_rfl
theorem tzv_68 : tzv Try.prog 68 = some (.nilFunc) := by kernel_rfl
theorem tagg_68 : tagg Try.prog 68 = some false := by kernel_rfl
theorem us_68 : (Try.prog.underlying 68).isSome = true := by kernel_rfl
theorem tfun_69 : tfun Try.prog 69 = true := by kernel_rfl
theorem tsz_69 : tsz Try.prog 69 = some 1 := by kernel_rfl
theorem tzero_69 : tzero Try.prog 69 = some [.nilFunc] := by kernel_rfl
theorem tzv_69 : tzv Try.prog 69 = some (.nilFunc) := by kernel_rfl
theorem tagg_69 : tagg Try.prog 69 = some false := by kernel_rfl
theorem us_69 : (Try.prog.underlying 69).isSome = true := by kernel_rfl
theorem tsz_70 : tsz Try.prog 70 = some 1 := by kernel_rfl
theorem tzero_70 : tzero Try.prog 70 = some [.nilPtr] := by kernel_rfl
theorem tzv_70 : tzv Try.prog 70 = some (.nilPtr) := by kernel_rfl
theorem tagg_70 : tagg Try.prog 70 = some false := by kernel_rfl
theorem us_70 : (Try.prog.underlying 70).isSome = true := by kernel_rfl
theorem tptr_70 : tptr Try.prog 70 = true := by kernel_rfl
theorem tfun_71 : tfun Try.prog 71 = true := by kernel_rfl
theorem tsz_71 : tsz Try.prog 71 = some 1 := by kernel_rfl
theorem tzero_71 : tzero Try.prog 71 = some [.nilFunc] := by kernel_rfl
theorem tzv_71 : tzv Try.prog 71 = some (.nilFunc) := by kernel_rfl
theorem tagg_71 : tagg Try.prog 71 = some false := by kernel_rfl
theorem us_71 : (Try.prog.underlying 71).isSome = true := by kernel_rfl
theorem tsz_72 : tsz Try.prog 72 = some 1 := by kernel_rfl
theorem tzero_72 : tzero Try.prog 72 = some [.nilPtr] := by kernel_rfl
theorem tzv_72 : tzv Try.prog 72 = some (.nilPtr) := by kernel_rfl
theorem tagg_72 : tagg Try.prog 72 = some false := by kernel_rfl
theorem us_72 : (Try.prog.underlying 72).isSome = true := by kernel_rfl
theorem tptr_72 : tptr Try.prog 72 = true := by kernel_rfl
theorem tsz_73 : tsz Try.prog 73 = some 2 := by kernel_rfl
theorem tzero_73 : tzero Try.prog 73 = some [.nilSlice, .bool false] := by kernel_rfl
theorem tzv_73 : tzv Try.prog 73 = some (.agg [.nilSlice, .bool false]) := by kernel_rfl
theorem tagg_73 : tagg Try.prog 73 = some true := by kernel_rfl
theorem us_73 : (Try.prog.underlying 73).isSome = true := by kernel_rfl
theorem tfld_73_0 : tfld Try.prog 73 0 = some (0, 22, 1) := by kernel_rfl
theorem tfld_73_1 : tfld Try.prog 73 1 = some (1, 4, 1) := by kernel_rfl
theorem tpl_73 : tplaces Try.prog 73 = some [(0, 1), (1, 1)] := by kernel_rfl
theorem tsz_74 : tsz Try.prog 74 = some 2 := by kernel_rfl
theorem tzero_74 : tzero Try.prog 74 = some [.nilSlice, .bool false] := by kernel_rfl
theorem tzv_74 : tzv Try.prog 74 = some (.agg [.nilSlice, .bool false]) := by kernel_rfl
theorem tagg_74 : tagg Try.prog 74 = some true := by kernel_rfl
theorem us_74 : (Try.prog.underlying 74).isSome = true := by kernel_rfl
theorem tfld_74_0 : tfld Try.prog 74 0 = some (0, 22, 1) := by kernel_rfl
theorem tfld_74_1 : tfld Try.prog 74 1 = some (1, 4, 1) := by kernel_rfl
theorem tpl_74 : tplaces Try.prog 74 = some [(0, 1), (1, 1)] := by kernel_rfl
theorem tfun_75 : tfun Try.prog 75 = true := by kernel_rfl
theorem tsz_75 : tsz Try.prog 75 = some 1 := by kernel_rfl
theorem tzero_75 : tzero Try.prog 75 = some [.nilFunc] := by kernel_rfl
theorem tzv_75 : tzv Try.prog 75 = some (.nilFunc) := by kernel_rfl
theorem tagg_75 : tagg Try.prog 75 = some false := by kernel_rfl
theorem us_75 : (Try.prog.underlying 75).isSome = true := by kernel_rfl
theorem tfun_76 : tfun Try.prog 76 = true := by kernel_rfl
theorem tsz_76 : tsz Try.prog 76 = some 1 := by kernel_rfl
theorem tzero_76 : tzero Try.prog 76 = some [.nilFunc] := by kernel_rfl
theorem tzv_76 : tzv Try.prog 76 = some (.nilFunc) := by kernel_rfl
theorem tagg_76 : tagg Try.prog 76 = some false := by kernel_rfl
theorem us_76 : (Try.prog.underlying 76).isSome = true := by kernel_rfl
theorem tfun_77 : tfun Try.prog 77 = true := by kernel_rfl
theorem tsz_77 : tsz Try.prog 77 = some 1 := by kernel_rfl
theorem tzero_77 : tzero Try.prog 77 = some [.nilFunc] := by kernel_rfl
theorem tzv_77 : tzv Try.prog 77 = some (.nilFunc) := by kernel_rfl
theorem tagg_77 : tagg Try.prog 77 = some false := by kernel_rfl
theorem us_77 : (Try.prog.underlying 77).isSome = true := by kernel_rfl
theorem tsz_78 : tsz Try.prog 78 = some 3 := by kernel_rfl
theorem tzero_78 : tzero Try.prog 78 = some [.nilFunc, .nilFunc, .nilFunc] := by kernel_rfl
theorem tzv_78 : tzv Try.prog 78 = some (.agg [.nilFunc, .nilFunc, .nilFunc]) := by kernel_rfl
theorem tagg_78 : tagg Try.prog 78 = some true := by kernel_rfl
theorem us_78 : (Try.prog.underlying 78).isSome = true := by kernel_rfl
theorem tfld_78_0 : tfld Try.prog 78 0 = some (0, 75, 1) := by kernel_rfl
theorem tfld_78_1 : tfld Try.prog 78 1 = some (1, 76, 1) := by kernel_rfl
theorem tfld_78_2 : tfld Try.prog 78 2 = some (2, 77, 1) := by kernel_rfl
theorem tpl_78 : tplaces Try.prog 78 = some [(0, 1), (1, 1), (2, 1)] := by kernel_rfl
theorem tsz_79 : tsz Try.prog 79 = some 3 := by kernel_rfl
theorem tzero_79 : tzero Try.prog 79 = some [.nilFunc, .nilFunc, .nilFunc] := by kernel_rfl
theorem tzv_79 : tzv Try.prog 79 = some (.agg [.nilFunc, .nilFunc, .nilFunc]) := by kernel_rfl
theorem tagg_79 : tagg Try.prog 79 = some true := by kernel_rfl
theorem us_79 : (Try.prog.underlying 79).isSome = true := by kernel_rfl
theorem tfld_79_0 : tfld Try.prog 79 0 = some (0, 75, 1) := by kernel_rfl
theorem tfld_79_1 : tfld Try.prog 79 1 = some (1, 76, 1) := by kernel_rfl
theorem tfld_79_2 : tfld Try.prog 79 2 = some (2, 77, 1) := by kernel_rfl
theorem tpl_79 : tplaces Try.prog 79 = some [(0, 1), (1, 1), (2, 1)] := by kernel_rfl
theorem tsz_80 : tsz Try.prog 80 = some 1 := by kernel_rfl
theorem tzero_80 : tzero Try.prog 80 = some [.nilPtr] := by kernel_rfl
theorem tzv_80 : tzv Try.prog 80 = some (.nilPtr) := by kernel_rfl
theorem tagg_80 : tagg Try.prog 80 = some false := by kernel_rfl
theorem us_80 : (Try.prog.underlying 80).isSome = true := by kernel_rfl
theorem tptr_80 : tptr Try.prog 80 = true := by kernel_rfl
theorem tsz_81 : tsz Try.prog 81 = some 1 := by kernel_rfl
theorem tzero_81 : tzero Try.prog 81 = some [.nilPtr] := by kernel_rfl
theorem tzv_81 : tzv Try.prog 81 = some (.nilPtr) := by kernel_rfl
theorem tagg_81 : tagg Try.prog 81 = some false := by kernel_rfl
theorem us_81 : (Try.prog.underlying 81).isSome = true := by kernel_rfl
theorem tptr_81 : tptr Try.prog 81 = true := by kernel_rfl
theorem tsz_82 : tsz Try.prog 82 = some 3 := by kernel_rfl
theorem tzero_82 : tzero Try.prog 82 = some [.nilSlice, .int .i64 0, .bool false] := by kernel_rfl
theorem tzv_82 : tzv Try.prog 82 = some (.agg [.nilSlice, .int .i64 0, .bool false]) := by kernel_rfl
theorem tagg_82 : tagg Try.prog 82 = some true := by kernel_rfl
theorem us_82 : (Try.prog.underlying 82).isSome = true := by kernel_rfl
theorem tfld_82_0 : tfld Try.prog 82 0 = some (0, 22, 1) := by kernel_rfl
theorem tfld_82_1 : tfld Try.prog 82 1 = some (1, 3, 1) := by kernel_rfl
theorem tfld_82_2 : tfld Try.prog 82 2 = some (2, 4, 1) := by kernel_rfl
theorem tpl_82 : tplaces Try.prog 82 = some [(0, 1), (1, 1), (2, 1)] := by kernel_rfl
theorem tsz_83 : tsz Try.prog 83 = some 3 := by kernel_rfl
theorem tzero_83 : tzero Try.prog 83 = some [.nilSlice, .int .i64 0, .bool false] := by kernel_rfl
theorem tzv_83 : tzv Try.prog 83 = some (.agg [.nilSlice, .int .i64 0, .bool false]) := by kernel_rfl
theorem tagg_83 : tagg Try.prog 83 = some true := by kernel_rfl
theorem us_83 : (Try.prog.underlying 83).isSome = true := by kernel_rfl
theorem tfld_83_0 : tfld Try.prog 83 0 = some (0, 22, 1) := by kernel_rfl
theorem tfld_83_1 : tfld Try.prog 83 1 = some (1, 3, 1) := by kernel_rfl
theorem tfld_83_2 : tfld Try.prog 83 2 = some (2, 4, 1) := by kernel_rfl
theorem tpl_83 : tplaces Try.prog 83 = some [(0, 1), (1, 1), (2, 1)] := by kernel_rfl
theorem tfun_84 : tfun Try.prog 84 = true := by kernel_rfl
theorem tsz_84 : tsz Try.prog 84 = some 1 := by kernel_rfl
theorem tzero_84 : tzero Try.prog 84 = some [.nilFunc] := by kernel_rfl
theorem tzv_84 : tzv Try.prog 84 = some (.nilFunc) := by kernel_rfl
theorem tagg_84 : tagg Try.prog 84 = some false := by kernel_rfl
theorem us_84 : (Try.prog.underlying 84).isSome = true := by kernel_rfl
theorem tfun_85 : tfun Try.prog 85 = true := by kernel_rfl
theorem tsz_85 : tsz Try.prog 85 = some 1 := by kernel_rfl
theorem tzero_85 : tzero Try.prog 85 = some [.nilFunc] := by kernel_rfl
theorem tzv_85 : tzv Try.prog 85 = some (.nilFunc) := by kernel_rfl
theorem tagg_85 : tagg Try.prog 85 = some false := by kernel_rfl
theorem us_85 : (Try.prog.underlying 85).isSome = true := by kernel_rfl
theorem tfun_86 : tfun Try.prog 86 = true := by kernel_rfl
theorem tsz_86 : tsz Try.prog 86 = some 1 := by kernel_rfl
theorem tzero_86 : tzero Try.prog 86 = some [.nilFunc] := by kernel_rfl
theorem tzv_86 : tzv Try.prog 86 = some (.nilFunc) := by kernel_rfl
theorem tagg_86 : tagg Try.prog 86 = some false := by kernel_rfl
theorem us_86 : (Try.prog.underlying 86).isSome = true := by kernel_rfl
theorem tfun_87 : tfun Try.prog 87 = true := by kernel_rfl
theorem tsz_87 : tsz Try.prog 87 = some 1 := by kernel_rfl
theorem tzero_87 : tzero Try.prog 87 = some [.nilFunc] := by kernel_rfl
theorem tzv_87 : tzv Try.prog 87 = some (.nilFunc) := by kernel_rfl
theorem tagg_87 : tagg Try.prog 87 = some false := by kernel_rfl
theorem us_87 : (Try.prog.underlying 87).isSome = true := by kernel_rfl
theorem tsz_88 : tsz Try.prog 88 = some 9 := by kernel_rfl
theorem tzero_88 : tzero Try.prog 88 = some [.int .i64 0, .int .u8 0, .int .u8 0, .int .u8 0, .int .u8 0, .int .u8 0, .int .u8 0, .int .u8 0, .int .u8 0] := by kernel_rfl
theorem tzv_88 : tzv Try.prog 88 = some (.agg [.int .i64 0, .int .u8 0, .int .u8 0, .int .u8 0, .int .u8 0, .int .u8 0, .int .u8 0, .int .u8 0, .int .u8 0]) := by kernel_rfl
theorem tagg_88 : tagg Try.prog 88 = some true := by kernel_rfl
theorem us_88 : (Try.prog.underlying 88).isSome = true := by kernel_rfl
theorem tfld_88_0 : tfld Try.prog 88 0 = some (0, 3, 1) := by kernel_rfl
theorem tfld_88_1 : tfld Try.prog 88 1 = some (1, 54, 8) := by kernel_rfl
theorem tpl_88 : tplaces Try.prog 88 = some [(0, 1), (1, 8)] := by kernel_rfl
theorem eqok_88 {x y : List VV} (hx : fitsK [some .i64, some .u8, some .u8, some .u8, some .u8, some .u8, some .u8, some .u8, some .u8] x = true) (hy : fitsK [some .i64, some .u8, some .u8, some .u8, some .u8, some .u8, some .u8, some .u8, some .u8] y = true) : EqOK Try.prog 88 x y = True := eq_true (EqOK.of (t := 88) (by kernel_rfl) (by kernel_rfl) (by kernel_rfl) hx hy)
theorem tsz_89 : tsz Try.prog 89 = some 9 := by kernel_rfl
theorem tzero_89 : tzero Try.prog 89 = some [.int .i64 0, .int .u8 0, .int .u8 0, .int .u8 0, .int .u8 0, .int .u8 0, .int .u8 0, .int .u8 0, .int .u8 0] := by kernel_rfl
theorem tzv_89 : tzv Try.prog 89 = some (.agg [.int .i64 0, .int .u8 0, .int .u8 0, .int .u8 0, .int .u8 0, .int .u8 0, .int .u8 0, .int .u8 0, .int .u8 0]) := by kernel_rfl
theorem tagg_89 : tagg Try.prog 89 = some true := by kernel_rfl
theorem us_89 : (Try.prog.underlying 89).isSome = true := by kernel_rfl
theorem tfld_89_0 : tfld Try.prog 89 0 = some (0, 3, 1) := by kernel_rfl
theorem tfld_89_1 : tfld Try.prog 89 1 = some (1, 54, 8) := by kernel_rfl
theorem tpl_89 : tplaces Try.prog 89 = some [(0, 1), (1, 8)] := by kernel_rfl
theorem eqok_89 {x y : List VV} (hx : fitsK [some .i64, some .u8, some .u8, some .u8, some .u8, some .u8, some .u8, some .u8, some .u8] x = true) (hy : fitsK [some .i64, some .u8, some .u8, some .u8, some .u8, some .u8, some .u8, some .u8, some .u8] y = true) : EqOK Try.prog 89 x y = True := eq_true (EqOK.of (t := 89) (by kernel_rfl) (by kernel_rfl) (by kernel_rfl) hx hy)
theorem tfun_90 : tfun Try.prog 90 = true := by kernel_rfl
theorem tsz_90 : tsz Try.prog 90 = some 1 := by kernel_rfl
theorem tzero_90 : tzero Try.prog 90 = some [.nilFunc] := by kernel_rfl
theorem tzv_90 : tzv Try.prog 90 = some (.nilFunc) := by kernel_rfl
theorem tagg_90 : tagg Try.prog 90 = some false := by kernel_rfl
theorem us_90 : (Try.prog.underlying 90).isSome = true := by kernel_rfl
theorem tfun_91 : tfun Try.prog 91 = true := by kernel_rfl
theorem tsz_91 : tsz Try.prog 91 = some 1 := by kernel_rfl
theorem tzero_91 : tzero Try.prog 91 = some [.nilFunc] := by kernel_rfl
theorem tzv_91 : tzv Try.prog 91 = some (.nilFunc) := by kernel_rfl
theorem tagg_91 : tagg Try.prog 91 = some false := by kernel_rfl
theorem us_91 : (Try.prog.underlying 91).isSome = true := by kernel_rfl
theorem tfun_92 : tfun Try.prog 92 = true := by kernel_rfl
theorem tsz_92 : tsz Try.prog 92 = some 1 := by kernel_rfl
theorem tzero_92 : tzero Try.prog 92 = some [.nilFunc] := by kernel_rfl
theorem tzv_92 : tzv Try.prog 92 = some (.nilFunc) := by kernel_rfl
theorem tagg_92 : tagg Try.prog 92 = some false := by kernel_rfl
theorem us_92 : (Try.prog.underlying 92).isSome = true := by kernel_rfl
theorem tfun_93 : tfun Try.prog 93 = true := by kernel_rfl
theorem tsz_93 : tsz Try.prog 93 = some 1 := by kernel_rfl
theorem tzero_93 : tzero Try.prog 93 = some [.nilFunc] := by kernel_rfl
theorem tzv_93 : tzv Try.prog 93 = some (.nilFunc) := by kernel_rfl
theorem tagg_93 : tagg Try.prog 93 = some false := by kernel_rfl
theorem us_93 : (Try.prog.underlying 93).isSome = true := by kernel_rfl
theorem tfun_94 : tfun Try.prog 94 = true := by kernel_rfl
theorem tsz_94 : tsz Try.prog 94 = some 1 := by kernel_rfl
theorem tzero_94 : tzero Try.prog 94 = some [.nilFunc] := by kernel_rfl
theorem tzv_94 : tzv Try.prog 94 = some (.nilFunc) := by kernel_rfl
theorem tagg_94 : tagg Try.prog 94 = some false := by kernel_rfl
theorem us_94 : (Try.prog.underlying 94).isSome = true := by kernel_rfl
theorem tfun_95 : tfun Try.prog 95 = true := by kernel_rfl
theorem tsz_95 : tsz Try.prog 95 = some 1 := by kernel_rfl
theorem tzero_95 : tzero Try.prog 95 = some [.nilFunc] := by kernel_rfl
theorem tzv_95 : tzv Try.prog 95 = some (.nilFunc) := by kernel_rfl
theorem tagg_95 : tagg Try.prog 95 = some false := by kernel_rfl
theorem us_95 : (Try.prog.underlying 95).isSome = true := by kernel_rfl
theorem tfun_96 : tfun Try.prog 96 = true := by kernel_rfl
theorem tsz_96 : tsz Try.prog 96 = some 1 := by kernel_rfl
theorem tzero_96 : tzero Try.prog 96 = some [.nilFunc] := by kernel_rfl
theorem tzv_96 : tzv Try.prog 96 = some (.nilFunc) := by kernel_rfl
theorem tagg_96 : tagg Try.prog 96 = some false := by kernel_rfl
theorem us_96 : (Try.prog.underlying 96).isSome = true := by kernel_rfl
theorem tfun_97 : tfun Try.prog 97 = true := by kernel_rfl
theorem tsz_97 : tsz Try.prog 97 = some 1 := by kernel_rfl
theorem tzero_97 : tzero Try.prog 97 = some [.nilFunc] := by kernel_rfl
theorem tzv_97 : tzv Try.prog 97 = some (.nilFunc) := by kernel_rfl
theorem tagg_97 : tagg Try.prog 97 = some false := by kernel_rfl
theorem us_97 : (Try.prog.underlying 97).isSome = true := by kernel_rfl
theorem tfun_98 : tfun Try.prog 98 = true := by kernel_rfl
theorem tsz_98 : tsz Try.prog 98 = some 1 := by kernel_rfl
theorem tzero_98 : tzero Try.prog 98 = some [.nilFunc] := by kernel_rfl
theorem tzv_98 : tzv Try.prog 98 = some (.nilFunc) := by kernel_rfl
theorem tagg_98 : tagg Try.prog 98 = some false := by kernel_rfl
theorem us_98 : (Try.prog.underlying 98).isSome = true := by kernel_rfl
theorem tfun_99 : tfun Try.prog 99 = true := by kernel_rfl
theorem tsz_99 : tsz Try.prog 99 = some 1 := by kernel_rfl
theorem tzero_99 : tzero Try.prog 99 = some [.nilFunc] := by kernel_rfl
theorem tzv_99 : tzv Try.prog 99 = some (.nilFunc) := by kernel_rfl
theorem tagg_99 : tagg Try.prog 99 = some false := by kernel_rfl
theorem us_99 : (Try.prog.underlying 99).isSome = true := by kernel_rfl
theorem tfun_100 : tfun Try.prog 100 = true := by kernel_rfl
theorem tsz_100 : tsz Try.prog 100 = some 1 := by kernel_rfl
theorem tzero_100 : tzero Try.prog 100 = some [.nilFunc] := by kernel_rfl
theorem tzv_100 : tzv Try.prog 100 = some (.nilFunc) := by kernel_rfl
theorem tagg_100 : tagg Try.prog 100 = some false := by kernel_rfl
theorem us_100 : (Try.prog.underlying 100).isSome = true := by kernel_rfl
theorem tfun_101 : tfun Try.prog 101 = true := by kernel_rfl
theorem tsz_101 : tsz Try.prog 101 = some 1 := by kernel_rfl
theorem tzero_101 : tzero Try.prog 101 = some [.nilFunc] := by kernel_rfl
theorem tzv_101 : tzv Try.prog 101 = some (.nilFunc) := by kernel_rfl
theorem tagg_101 : tagg Try.prog 101 = some false := by kernel_rfl
theorem us_101 : (Try.prog.underlying 101).isSome = true := by kernel_rfl
theorem tfun_103 : tfun Try.prog 103 = true := by kernel_rfl
theorem tsz_103 : tsz Try.prog 103 = some 1 := by kernel_rfl
theorem tzero_103 : tzero Try.prog 103 = some [.nilFunc] := by kernel_rfl
theorem tzv_103 : tzv Try.prog 103 = some (.nilFunc) := by kernel_rfl
theorem tagg_103 : tagg Try.prog 103 = some false := by kernel_rfl
theorem us_103 : (Try.prog.underlying 103).isSome = true := by kernel_rfl
theorem tfun_104 : tfun Try.prog 104 = true := by kernel_rfl
theorem tsz_104 : tsz Try.prog 104 = some 1 := by kernel_rfl
theorem tzero_104 : tzero Try.prog 104 = some [.nilFunc] := by kernel_rfl
theorem tzv_104 : tzv Try.prog 104 = some (.nilFunc) := by kernel_rfl
theorem tagg_104 : tagg Try.prog 104 = some false := by kernel_rfl
theorem us_104 : (Try.prog.underlying 104).isSome = true := by kernel_rfl
theorem tsz_105 : tsz Try.prog 105 = some 7 := by kernel_rfl
theorem tzero_105 : tzero Try.prog 105 = some [.int .i64 0, .int .i64 0, .int .i64 0, .int .i64 0, .int .i64 0, .int .i64 0, .int .i64 0] := by kernel_rfl
theorem tzv_105 : tzv Try.prog 105 = some (.agg [.int .i64 0, .int .i64 0, .int .i64 0, .int .i64 0, .int .i64 0, .int .i64 0, .int .i64 0]) := by kernel_rfl
theorem tagg_105 : tagg Try.prog 105 = some true := by kernel_rfl
theorem us_105 : (Try.prog.underlying 105).isSome = true := by kernel_rfl
theorem tfld_105_0 : tfld Try.prog 105 0 = some (0, 3, 1) := by kernel_rfl
theorem tfld_105_1 : tfld Try.prog 105 1 = some (1, 3, 1) := by kernel_rfl
theorem tfld_105_2 : tfld Try.prog 105 2 = some (2, 48, 5) := by kernel_rfl
theorem tpl_105 : tplaces Try.prog 105 = some [(0, 1), (1, 1), (2, 5)] := by kernel_rfl
theorem eqok_105 {x y : List VV} (hx : fitsK [some .i64, some .i64, some .i64, some .i64, some .i64, some .i64, some .i64] x = true) (hy : fitsK [some .i64, some .i64, some .i64, some .i64, some .i64, some .i64, some .i64] y = true) : EqOK Try.prog 105 x y = True := eq_true (EqOK.of (t := 105) (by kernel_rfl) (by kernel_rfl) (by kernel_rfl) hx hy)
theorem tfun_106 : tfun Try.prog 106 = true := by kernel_rfl
theorem tsz_106 : tsz Try.prog 106 = some 1 := by kernel_rfl
theorem tzero_106 : tzero Try.prog 106 = some [.nilFunc] := by kernel_rfl
theorem tzv_106 : tzv Try.prog 106 = some (.nilFunc) := by kernel_rfl
theorem tagg_106 : tagg Try.prog 106 = some false := by kernel_rfl
theorem us_106 : (Try.prog.underlying 106).isSome = true := by kernel_rfl
theorem tsz_107 : tsz Try.prog 107 = some 1 := by kernel_rfl
theorem tzero_107 : tzero Try.prog 107 = some [.nilPtr] := by kernel_rfl
theorem tzv_107 : tzv Try.prog 107 = some (.nilPtr) := by kernel_rfl
theorem tagg_107 : tagg Try.prog 107 = some false := by kernel_rfl
theorem us_107 : (Try.prog.underlying 107).isSome = true := by kernel_rfl
theorem tptr_107 : tptr Try.prog 107 = true := by kernel_rfl
theorem tfun_108 : tfun Try.prog 108 = true := by kernel_rfl
theorem tsz_108 : tsz Try.prog 108 = some 1 := by kernel_rfl
theorem tzero_108 : tzero Try.prog 108 = some [.nilFunc] := by kernel_rfl
theorem tzv_108 : tzv Try.prog 108 = some (.nilFunc) := by kernel_rfl
theorem tagg_108 : tagg Try.prog 108 = some false := by kernel_rfl
theorem us_108 : (Try.prog.underlying 108).isSome = true := by kernel_rfl
theorem tfun_109 : tfun Try.prog 109 = true := by kernel_rfl
theorem tsz_109 : tsz Try.prog 109 = some 1 := by kernel_rfl
theorem tzero_109 : tzero Try.prog 109 = some [.nilFunc] := by kernel_rfl
theorem tzv_109 : tzv Try.prog 109 = some (.nilFunc) := by kernel_rfl
theorem tagg_109 : tagg Try.prog 109 = some false := by kernel_rfl
theorem us_109 : (Try.prog.underlying 109).isSome = true := by kernel_rfl
theorem tsz_110 : tsz Try.prog 110 = some 1 := by kernel_rfl
theorem tzero_110 : tzero Try.prog 110 = some [.nilSlice] := by kernel_rfl
theorem tzv_110 : tzv Try.prog 110 = some (.nilSlice) := by kernel_rfl
theorem tagg_110 : tagg Try.prog 110 = some false := by kernel_rfl
theorem us_110 : (Try.prog.underlying 110).isSome = true := by kernel_rfl
theorem tsl_110 : tsl Try.prog 110 = some (124, 2) := by kernel_rfl
theorem tapp_110 : tapp Try.prog 110 = some (124, 2, 16) := by kernel_rfl
theorem tfun_111 : tfun Try.prog 111 = true := by kernel_rfl
theorem tsz_111 : tsz Try.prog 111 = some 1 := by kernel_rfl
theorem tzero_111 : tzero Try.prog 111 = some [.nilFunc] := by kernel_rfl
theorem tzv_111 : tzv Try.prog 111 = some (.nilFunc) := by kernel_rfl
theorem tagg_111 : tagg Try.prog 111 = some false := by kernel_rfl
theorem us_111 : (Try.prog.underlying 111).isSome = true := by kernel_rfl
theorem tsz_112 : tsz Try.prog 112 = some 3 := by kernel_rfl
theorem tzero_112 : tzero Try.prog 112 = some [.bool false, .nilSlice, .nilFunc] := by kernel_rfl
theorem tzv_112 : tzv Try.prog 112 = some (.agg [.bool false, .nilSlice, .nilFunc]) := by kernel_rfl
theorem tagg_112 : tagg Try.prog 112 = some true := by kernel_rfl
theorem us_112 : (Try.prog.underlying 112).isSome = true := by kernel_rfl
theorem tfld_112_0 : tfld Try.prog 112 0 = some (0, 4, 1) := by kernel_rfl
theorem tfld_112_1 : tfld Try.prog 112 1 = some (1, 110, 1) := by kernel_rfl
theorem tfld_112_2 : tfld Try.prog 112 2 = some (2, 111, 1) := by kernel_rfl
theorem tpl_112 : tplaces Try.prog 112 = some [(0, 1), (1, 1), (2, 1)] := by kernel_rfl
theorem tsz_113 : tsz Try.prog 113 = some 3 := by kernel_rfl
theorem tzero_113 : tzero Try.prog 113 = some [.bool false, .nilSlice, .nilFunc] := by kernel_rfl
theorem tzv_113 : tzv Try.prog 113 = some (.agg [.bool false, .nilSlice, .nilFunc]) := by kernel_rfl
theorem tagg_113 : tagg Try.prog 113 = some true := by kernel_rfl
theorem us_113 : (Try.prog.underlying 113).isSome = true := by kernel_rfl
theorem tfld_113_0 : tfld Try.prog 113 0 = some (0, 4, 1) := by kernel_rfl
theorem tfld_113_1 : tfld Try.prog 113 1 = some (1, 110, 1) := by kernel_rfl
theorem tfld_113_2 : tfld Try.prog 113 2 = some (2, 111, 1) := by kernel_rfl
theorem tpl_113 : tplaces Try.prog 113 = some [(0, 1), (1, 1), (2, 1)] := by kernel_rfl
theorem tfun_115 : tfun Try.prog 115 = true := by kernel_rfl
theorem tsz_115 : tsz Try.prog 115 = some 1 := by kernel_rfl
theorem tzero_115 : tzero Try.prog 115 = some [.nilFunc] := by kernel_rfl
theorem tzv_115 : tzv Try.prog 115 = some (.nilFunc) := by kernel_rfl
theorem tagg_115 : tagg Try.prog 115 = some false := by kernel_rfl
theorem us_115 : (Try.prog.underlying 115).isSome = true := by kernel_rfl
theorem tsz_116 : tsz Try.prog 116 = some 1 := by kernel_rfl
theorem tzero_116 : tzero Try.prog 116 = some [.nilSlice] := by kernel_rfl
theorem tzv_116 : tzv Try.prog 116 = some (.nilSlice) := by kernel_rfl
theorem tagg_116 : tagg Try.prog 116 = some false := by kernel_rfl
theorem us_116 : (Try.prog.underlying 116).isSome = true := by kernel_rfl
theorem tsl_116 : tsl Try.prog 116 = some (5, 1) := by kernel_rfl
theorem tapp_116 : tapp Try.prog 116 = some (5, 1, 1) := by kernel_rfl
theorem tbytes_116 : tbytes Try.prog 116 = true := by kernel_rfl
theorem tfun_117 : tfun Try.prog 117 = true := by kernel_rfl
theorem tsz_117 : tsz Try.prog 117 = some 1 := by kernel_rfl
theorem tzero_117 : tzero Try.prog 117 = some [.nilFunc] := by kernel_rfl
theorem tzv_117 : tzv Try.prog 117 = some (.nilFunc) := by kernel_rfl
theorem tagg_117 : tagg Try.prog 117 = some false := by kernel_rfl
theorem us_117 : (Try.prog.underlying 117).isSome = true := by kernel_rfl
theorem tsz_118 : tsz Try.prog 118 = some 1 := by kernel_rfl
theorem tzero_118 : tzero Try.prog 118 = some [.nilPtr] := by kernel_rfl
theorem tzv_118 : tzv Try.prog 118 = some (.nilPtr) := by kernel_rfl
theorem tagg_118 : tagg Try.prog 118 = some false := by kernel_rfl
theorem us_118 : (Try.prog.underlying 118).isSome = true := by kernel_rfl
theorem tptr_118 : tptr Try.prog 118 = true := by kernel_rfl
theorem tsz_119 : tsz Try.prog 119 = some 2 := by kernel_rfl
theorem tzero_119 : tzero Try.prog 119 = some [.nilSlice, .bool false] := by kernel_rfl
theorem tzv_119 : tzv Try.prog 119 = some (.agg [.nilSlice, .bool false]) := by kernel_rfl
theorem tagg_119 : tagg Try.prog 119 = some true := by kernel_rfl
theorem us_119 : (Try.prog.underlying 119).isSome = true := by kernel_rfl
theorem tfld_119_0 : tfld Try.prog 119 0 = some (0, 22, 1) := by kernel_rfl
theorem tfld_119_1 : tfld Try.prog 119 1 = some (1, 4, 1) := by kernel_rfl
theorem tpl_119 : tplaces Try.prog 119 = some [(0, 1), (1, 1)] := by kernel_rfl
theorem tsz_120 : tsz Try.prog 120 = some 2 := by kernel_rfl
theorem tzero_120 : tzero Try.prog 120 = some [.nilSlice, .bool false] := by kernel_rfl
theorem tzv_120 : tzv Try.prog 120 = some (.agg [.nilSlice, .bool false]) := by kernel_rfl
theorem tagg_120 : tagg Try.prog 120 = some true := by kernel_rfl
theorem us_120 : (Try.prog.underlying 120).isSome = true := by kernel_rfl
theorem tfld_120_0 : tfld Try.prog 120 0 = some (0, 22, 1) := by kernel_rfl
theorem tfld_120_1 : tfld Try.prog 120 1 = some (1, 4, 1) := by kernel_rfl
theorem tpl_120 : tplaces Try.prog 120 = some [(0, 1), (1, 1)] := by kernel_rfl
theorem tfun_121 : tfun Try.prog 121 = true := by kernel_rfl
theorem tsz_121 : tsz Try.prog 121 = some 1 := by kernel_rfl
theorem tzero_121 : tzero Try.prog 121 = some [.nilFunc] := by kernel_rfl
theorem tzv_121 : tzv Try.prog 121 = some (.nilFunc) := by kernel_rfl
theorem tagg_121 : tagg Try.prog 121 = some false := by kernel_rfl
theorem us_121 : (Try.prog.underlying 121).isSome = true := by kernel_rfl
theorem tfun_122 : tfun Try.prog 122 = true := by kernel_rfl
theorem tsz_122 : tsz Try.prog 122 = some 1 := by kernel_rfl
theorem tzero_122 : tzero Try.prog 122 = some [.nilFunc] := by kernel_rfl
theorem tzv_122 : tzv Try.prog 122 = some (.nilFunc) := by kernel_rfl
theorem tagg_122 : tagg Try.prog 122 = some false := by kernel_rfl
theorem us_122 : (Try.prog.underlying 122).isSome = true := by kernel_rfl
theorem tsz_123 : tsz Try.prog 123 = some 2 := by kernel_rfl
theorem tzero_123 : tzero Try.prog 123 = some [.nilFunc, .nilFunc] := by kernel_rfl
theorem tzv_123 : tzv Try.prog 123 = some (.agg [.nilFunc, .nilFunc]) := by kernel_rfl
theorem tagg_123 : tagg Try.prog 123 = some true := by kernel_rfl
theorem us_123 : (Try.prog.underlying 123).isSome = true := by kernel_rfl
theorem tfld_123_0 : tfld Try.prog 123 0 = some (0, 121, 1) := by kernel_rfl
theorem tfld_123_1 : tfld Try.prog 123 1 = some (1, 122, 1) := by kernel_rfl
theorem tpl_123 : tplaces Try.prog 123 = some [(0, 1), (1, 1)] := by kernel_rfl
theorem tsz_124 : tsz Try.prog 124 = some 2 := by kernel_rfl
theorem tzero_124 : tzero Try.prog 124 = some [.nilFunc, .nilFunc] := by kernel_rfl
theorem tzv_124 : tzv Try.prog 124 = some (.agg [.nilFunc, .nilFunc]) := by kernel_rfl
theorem tagg_124 : tagg Try.prog 124 = some true := by kernel_rfl
theorem us_124 : (Try.prog.underlying 124).isSome = true := by kernel_rfl
theorem tfld_124_0 : tfld Try.prog 124 0 = some (0, 121, 1) := by kernel_rfl
theorem tfld_124_1 : tfld Try.prog 124 1 = some (1, 122, 1) := by kernel_rfl
theorem tpl_124 : tplaces Try.prog 124 = some [(0, 1), (1, 1)] := by kernel_rfl
theorem tsz_125 : tsz Try.prog 125 = some 1 := by kernel_rfl
theorem tzero_125 : tzero Try.prog 125 = some [.nilPtr] := by kernel_rfl
theorem tzv_125 : tzv Try.prog 125 = some (.nilPtr) := by kernel_rfl
theorem tagg_125 : tagg Try.prog 125 = some false := by kernel_rfl
theorem us_125 : (Try.prog.underlying 125).isSome = true := by kernel_rfl
theorem tptr_125 : tptr Try.prog 125 = true := by kernel_rfl
theorem tfun_126 : tfun Try.prog 126 = true := by kernel_rfl
theorem tsz_126 : tsz Try.prog 126 = some 1 := by kernel_rfl
theorem tzero_126 : tzero Try.prog 126 = some [.nilFunc] := by kernel_rfl
theorem tzv_126 : tzv Try.prog 126 = some (.nilFunc) := by kernel_rfl
theorem tagg_126 : tagg Try.prog 126 = some false := by kernel_rfl
theorem us_126 : (Try.prog.underlying 126).isSome = true := by kernel_rfl
theorem tfun_127 : tfun Try.prog 127 = true := by kernel_rfl
theorem tsz_127 : tsz Try.prog 127 = some 1 := by kernel_rfl
theorem tzero_127 : tzero Try.prog 127 = some [.nilFunc] := by kernel_rfl
theorem tzv_127 : tzv Try.prog 127 = some (.nilFunc) := by kernel_rfl
theorem tagg_127 : tagg Try.prog 127 = some false := by kernel_rfl
theorem us_127 : (Try.prog.underlying 127).isSome = true := by kernel_rfl
theorem tsz_128 : tsz Try.prog 128 = some 1 := by kernel_rfl
theorem tzero_128 : tzero Try.prog 128 = some [.nilPtr] := by kernel_rfl
theorem tzv_128 : tzv Try.prog 128 = some (.nilPtr) := by kernel_rfl
theorem tagg_128 : tagg Try.prog 128 = some false := by kernel_rfl
theorem us_128 : (Try.prog.underlying 128).isSome = true := by kernel_rfl
theorem tptr_128 : tptr Try.prog 128 = true := by kernel_rfl
theorem tfun_130 : tfun Try.prog 130 = true := by kernel_rfl
theorem tsz_130 : tsz Try.prog 130 = some 1 := by kernel_rfl
theorem tzero_130 : tzero Try.prog 130 = some [.nilFunc] := by kernel_rfl
theorem tzv_130 : tzv Try.prog 130 = some (.nilFunc) := by kernel_rfl
theorem tagg_130 : tagg Try.prog 130 = some false := by kernel_rfl
theorem us_130 : (Try.prog.underlying 130).isSome = true := by kernel_rfl
theorem tfun_131 : tfun Try.prog 131 = true := by kernel_rfl
theorem tsz_131 : tsz Try.prog 131 = some 1 := by kernel_rfl
theorem tzero_131 : tzero Try.prog 131 = some [.nilFunc] := by kernel_rfl
theorem tzv_131 : tzv Try.prog 131 = some (.nilFunc) := by kernel_rfl
theorem tagg_131 : tagg Try.prog 131 = some false := by kernel_rfl
theorem us_131 : (Try.prog.underlying 131).isSome = true := by kernel_rfl
theorem tfun_132 : tfun Try.prog 132 = true := by kernel_rfl
theorem tsz_132 : tsz Try.prog 132 = some 1 := by kernel_rfl
theorem tzero_132 : tzero Try.prog 132 = some [.nilFunc] := by kernel_rfl
theorem tzv_132 : tzv Try.prog 132 = some (.nilFunc) := by kernel_rfl
theorem tagg_132 : tagg Try.prog 132 = some false := by kernel_rfl
theorem us_132 : (Try.prog.underlying 132).isSome = true := by kernel_rfl
theorem tsz_133 : tsz Try.prog 133 = some 1 := by kernel_rfl
theorem tzero_133 : tzero Try.prog 133 = some [.int .u64 0] := by kernel_rfl
theorem tzv_133 : tzv Try.prog 133 = some (.int .u64 0) := by kernel_rfl
theorem tagg_133 : tagg Try.prog 133 = some false := by kernel_rfl
theorem us_133 : (Try.prog.underlying 133).isSome = true := by kernel_rfl
theorem tint_133 : tint Try.prog 133 = some .u64 := by kernel_rfl
theorem tfun_134 : tfun Try.prog 134 = true := by kernel_rfl
theorem tsz_134 : tsz Try.prog 134 = some 1 := by kernel_rfl
theorem tzero_134 : tzero Try.prog 134 = some [.nilFunc] := by kernel_rfl
theorem tzv_134 : tzv Try.prog 134 = some (.nilFunc) := by kernel_rfl
theorem tagg_134 : tagg Try.prog 134 = some false := by kernel_rfl
theorem us_134 : (Try.prog.underlying 134).isSome = true := by kernel_rfl
theorem tfun_135 : tfun Try.prog 135 = true := by kernel_rfl
theorem tsz_135 : tsz Try.prog 135 = some 1 := by kernel_rfl
theorem tzero_135 : tzero Try.prog 135 = some [.nilFunc] := by kernel_rfl
theorem tzv_135 : tzv Try.prog 135 = some (.nilFunc) := by kernel_rfl
theorem tagg_135 : tagg Try.prog 135 = some false := by kernel_rfl
theorem us_135 : (Try.prog.underlying 135).isSome = true := by kernel_rfl
theorem tsz_136 : tsz Try.prog 136 = some 24 := by kernel_rfl
theorem tzero_136 : tzero Try.prog 136 = some [.nilFunc, .nilFunc, .nilFunc, .nilFunc, .nilFunc, .nilFunc, .nilFunc, .nilFunc, .nilFunc, .nilFunc, .nilFunc, .nilFunc, .nilFunc, .nilFunc, .nilFunc, .nilFunc, .nilFunc, .nilFunc, .nilFunc, .nilFunc, .nilFunc, .nilFunc, .nilFunc, .nilFunc] := by kernel_rfl
theorem tagg_136 : tagg Try.prog 136 = some true := by kernel_rfl
theorem us_136 : (Try.prog.underlying 136).isSome = true := by kernel_rfl
theorem tarr_136 : tarr Try.prog 136 = some (8, 79, 3) := by kernel_rfl
theorem tpl_136 : tplaces Try.prog 136 = none := by kernel_rfl
theorem tsn_136 : tsl Try.prog 136 = none := by kernel_rfl
theorem tfun_137 : tfun Try.prog 137 = true := by kernel_rfl
theorem tsz_137 : tsz Try.prog 137 = some 1 := by kernel_rfl
theorem tzero_137 : tzero Try.prog 137 = some [.nilFunc] := by kernel_rfl
theorem tzv_137 : tzv Try.prog 137 = some (.nilFunc) := by kernel_rfl
theorem tagg_137 : tagg Try.prog 137 = some false := by kernel_rfl
theorem us_137 : (Try.prog.underlying 137).isSome = true := by kernel_rfl
theorem tsz_138 : tsz Try.prog 138 = some 1 := by kernel_rfl
theorem tzero_138 : tzero Try.prog 138 = some [.nilSlice] := by kernel_rfl
theorem tzv_138 : tzv Try.prog 138 = some (.agg [.nilSlice]) := by kernel_rfl
theorem tagg_138 : tagg Try.prog 138 = some true := by kernel_rfl
theorem us_138 : (Try.prog.underlying 138).isSome = true := by kernel_rfl
theorem tfld_138_0 : tfld Try.prog 138 0 = some (0, 22, 1) := by kernel_rfl
theorem tpl_138 : tplaces Try.prog 138 = some [(0, 1)] := by kernel_rfl
theorem tsz_139 : tsz Try.prog 139 = some 1 := by kernel_rfl
theorem tzero_139 : tzero Try.prog 139 = some [.nilSlice] := by kernel_rfl
theorem tzv_139 : tzv Try.prog 139 = some (.agg [.nilSlice]) := by kernel_rfl
theorem tagg_139 : tagg Try.prog 139 = some true := by kernel_rfl
theorem us_139 : (Try.prog.underlying 139).isSome = true := by kernel_rfl
theorem tfld_139_0 : tfld Try.prog 139 0 = some (0, 22, 1) := by kernel_rfl
theorem tpl_139 : tplaces Try.prog 139 = some [(0, 1)] := by kernel_rfl
theorem tsz_140 : tsz Try.prog 140 = some 1 := by kernel_rfl
theorem tzero_140 : tzero Try.prog 140 = some [.nilPtr] := by kernel_rfl
theorem tzv_140 : tzv Try.prog 140 = some (.nilPtr) := by kernel_rfl
theorem tagg_140 : tagg Try.prog 140 = some false := by kernel_rfl
theorem us_140 : (Try.prog.underlying 140).isSome = true := by kernel_rfl
theorem tptr_140 : tptr Try.prog 140 = true := by kernel_rfl
theorem tsz_141 : tsz Try.prog 141 = some 1 := by kernel_rfl
theorem tzero_141 : tzero Try.prog 141 = some [.nilSlice] := by kernel_rfl
theorem tzv_141 : tzv Try.prog 141 = some (.nilSlice) := by kernel_rfl
theorem tagg_141 : tagg Try.prog 141 = some false := by kernel_rfl
theorem us_141 : (Try.prog.underlying 141).isSome = true := by kernel_rfl
theorem tsl_141 : tsl Try.prog 141 = some (3, 1) := by kernel_rfl
theorem tapp_141 : tapp Try.prog 141 = some (3, 1, 8) := by kernel_rfl
theorem tsz_142 : tsz Try.prog 142 = some 20 := by kernel_rfl
theorem tzero_142 : tzero Try.prog 142 = some [.nilFunc, .nilFunc, .nilFunc, .nilFunc, .nilFunc, .nilFunc, .nilFunc, .nilFunc, .nilFunc, .nilFunc, .nilFunc, .nilFunc, .nilFunc, .nilFunc, .nilFunc, .nilFunc, .nilFunc, .nilFunc, .nilFunc, .nilFunc] := by kernel_rfl
theorem tagg_142 : tagg Try.prog 142 = some true := by kernel_rfl
theorem us_142 : (Try.prog.underlying 142).isSome = true := by kernel_rfl
theorem tfld_142_0 : tfld Try.prog 142 0 = some (0, 124, 2) := by kernel_rfl
theorem tfld_142_1 : tfld Try.prog 142 1 = some (2, 124, 2) := by kernel_rfl
theorem tfld_142_2 : tfld Try.prog 142 2 = some (4, 124, 2) := by kernel_rfl
theorem tfld_142_3 : tfld Try.prog 142 3 = some (6, 124, 2) := by kernel_rfl
theorem tfld_142_4 : tfld Try.prog 142 4 = some (8, 124, 2) := by kernel_rfl
theorem tfld_142_5 : tfld Try.prog 142 5 = some (10, 124, 2) := by kernel_rfl
theorem tfld_142_6 : tfld Try.prog 142 6 = some (12, 124, 2) := by kernel_rfl
theorem tfld_142_7 : tfld Try.prog 142 7 = some (14, 124, 2) := by kernel_rfl
theorem tfld_142_8 : tfld Try.prog 142 8 = some (16, 124, 2) := by kernel_rfl
theorem tfld_142_9 : tfld Try.prog 142 9 = some (18, 124, 2) := by kernel_rfl
theorem tpl_142 : tplaces Try.prog 142 = some [(0, 2), (2, 2), (4, 2), (6, 2), (8, 2), (10, 2), (12, 2), (14, 2), (16, 2), (18, 2)] := by kernel_rfl
theorem tsz_143 : tsz Try.prog 143 = some 20 := by kernel_rfl
theorem tzero_143 : tzero Try.prog 143 = some [.nilFunc, .nilFunc, .nilFunc, .nilFunc, .nilFunc, .nilFunc, .nilFunc, .nilFunc, .nilFunc, .nilFunc, .nilFunc, .nilFunc, .nilFunc, .nilFunc, .nilFunc, .nilFunc, .nilFunc, .nilFunc, .nilFunc, .nilFunc] := by kernel_rfl
theorem tagg_143 : tagg Try.prog 143 = some true := by kernel_rfl
theorem us_143 : (Try.prog.underlying 143).isSome = true := by kernel_rfl
theorem tfld_143_0 : tfld Try.prog 143 0 = some (0, 124, 2) := by kernel_rfl
theorem tfld_143_1 : tfld Try.prog 143 1 = some (2, 124, 2) := by kernel_rfl
theorem tfld_143_2 : tfld Try.prog 143 2 = some (4, 124, 2) := by kernel_rfl
theorem tfld_143_3 : tfld Try.prog 143 3 = some (6, 124, 2) := by kernel_rfl
theorem tfld_143_4 : tfld Try.prog 143 4 = some (8, 124, 2) := by kernel_rfl
theorem tfld_143_5 : tfld Try.prog 143 5 = some (10, 124, 2) := by kernel_rfl
theorem tfld_143_6 : tfld Try.prog 143 6 = some (12, 124, 2) := by kernel_rfl
theorem tfld_143_7 : tfld Try.prog 143 7 = some (14, 124, 2) := by kernel_rfl
theorem tfld_143_8 : tfld Try.prog 143 8 = some (16, 124, 2) := by kernel_rfl
theorem tfld_143_9 : tfld Try.prog 143 9 = some (18, 124, 2) := by kernel_rfl
theorem tpl_143 : tplaces Try.prog 143 = some [(0, 2), (2, 2), (4, 2), (6, 2), (8, 2), (10, 2), (12, 2), (14, 2), (16, 2), (18, 2)] := by kernel_rfl
theorem tfun_144 : tfun Try.prog 144 = true := by kernel_rfl
theorem tsz_144 : tsz Try.prog 144 = some 1 := by kernel_rfl
theorem tzero_144 : tzero Try.prog 144 = some [.nilFunc] := by kernel_rfl
theorem tzv_144 : tzv Try.prog 144 = some (.nilFunc) := by kernel_rfl
theorem tagg_144 : tagg Try.prog 144 = some false := by kernel_rfl
theorem us_144 : (Try.prog.underlying 144).isSome = true := by kernel_rfl
theorem tsz_145 : tsz Try.prog 145 = some 1 := by kernel_rfl
theorem tzero_145 : tzero Try.prog 145 = some [.nilSlice] := by kernel_rfl
theorem tzv_145 : tzv Try.prog 145 = some (.nilSlice) := by kernel_rfl
theorem tagg_145 : tagg Try.prog 145 = some false := by kernel_rfl
theorem us_145 : (Try.prog.underlying 145).isSome = true := by kernel_rfl
theorem tsl_145 : tsl Try.prog 145 = some (32, 1) := by kernel_rfl
theorem tapp_145 : tapp Try.prog 145 = some (32, 1, 8) := by kernel_rfl
theorem tfun_146 : tfun Try.prog 146 = true := by kernel_rfl
theorem tsz_146 : tsz Try.prog 146 = some 1 := by kernel_rfl
theorem tzero_146 : tzero Try.prog 146 = some [.nilFunc] := by kernel_rfl
theorem tzv_146 : tzv Try.prog 146 = some (.nilFunc) := by kernel_rfl
theorem tagg_146 : tagg Try.prog 146 = some false := by kernel_rfl
theorem us_146 : (Try.prog.underlying 146).isSome = true := by kernel_rfl
theorem tfun_147 : tfun Try.prog 147 = true := by kernel_rfl
theorem tsz_147 : tsz Try.prog 147 = some 1 := by kernel_rfl
theorem tzero_147 : tzero Try.prog 147 = some [.nilFunc] := by kernel_rfl
theorem tzv_147 : tzv Try.prog 147 = some (.nilFunc) := by kernel_rfl
theorem tagg_147 : tagg Try.prog 147 = some false := by kernel_rfl
theorem us_147 : (Try.prog.underlying 147).isSome = true := by kernel_rfl
theorem tsz_148 : tsz Try.prog 148 = some 1 := by kernel_rfl
theorem tzero_148 : tzero Try.prog 148 = some [.nilPtr] := by kernel_rfl
theorem tzv_148 : tzv Try.prog 148 = some (.nilPtr) := by kernel_rfl
theorem tagg_148 : tagg Try.prog 148 = some false := by kernel_rfl
theorem us_148 : (Try.prog.underlying 148).isSome = true := by kernel_rfl
theorem tptr_148 : tptr Try.prog 148 = true := by kernel_rfl
theorem tfun_149 : tfun Try.prog 149 = true := by kernel_rfl
theorem tsz_149 : tsz Try.prog 149 = some 1 := by kernel_rfl
theorem tzero_149 : tzero Try.prog 149 = some [.nilFunc] := by kernel_rfl
theorem tzv_149 : tzv Try.prog 149 = some (.nilFunc) := by kernel_rfl
theorem tagg_149 : tagg Try.prog 149 = some false := by kernel_rfl
theorem us_149 : (Try.prog.underlying 149).isSome = true := by kernel_rfl
theorem tsz_150 : tsz Try.prog 150 = some 1 := by kernel_rfl
theorem tzero_150 : tzero Try.prog 150 = some [.int .u32 0] := by kernel_rfl
theorem tzv_150 : tzv Try.prog 150 = some (.int .u32 0) := by kernel_rfl
theorem tagg_150 : tagg Try.prog 150 = some false := by kernel_rfl
theorem us_150 : (Try.prog.underlying 150).isSome = true := by kernel_rfl
theorem tint_150 : tint Try.prog 150 = some .u32 := by kernel_rfl
theorem tfun_151 : tfun Try.prog 151 = true := by kernel_rfl
theorem tsz_151 : tsz Try.prog 151 = some 1 := by kernel_rfl
theorem tzero_151 : tzero Try.prog 151 = some [.nilFunc] := by kernel_rfl
theorem tzv_151 : tzv Try.prog 151 = some (.nilFunc) := by kernel_rfl
theorem tagg_151 : tagg Try.prog 151 = some false := by kernel_rfl
theorem us_151 : (Try.prog.underlying 151).isSome = true := by kernel_rfl
theorem tfun_152 : tfun Try.prog 152 = true := by kernel_rfl
theorem tsz_152 : tsz Try.prog 152 = some 1 := by kernel_rfl
theorem tzero_152 : tzero Try.prog 152 = some [.nilFunc] := by kernel_rfl
theorem tzv_152 : tzv Try.prog 152 = some (.nilFunc) := by kernel_rfl
theorem tagg_152 : tagg Try.prog 152 = some false := by kernel_rfl
theorem us_152 : (Try.prog.underlying 152).isSome = true := by kernel_rfl
theorem tfun_153 : tfun Try.prog 153 = true := by kernel_rfl
theorem tsz_153 : tsz Try.prog 153 = some 1 := by kernel_rfl
theorem tzero_153 : tzero Try.prog 153 = some [.nilFunc] := by kernel_rfl
theorem tzv_153 : tzv Try.prog 153 = some (.nilFunc) := by kernel_rfl
theorem tagg_153 : tagg Try.prog 153 = some false := by kernel_rfl
theorem us_153 : (Try.prog.underlying 153).isSome = true := by kernel_rfl
theorem tfun_154 : tfun Try.prog 154 = true := by kernel_rfl
theorem tsz_154 : tsz Try.prog 154 = some 1 := by kernel_rfl
theorem tzero_154 : tzero Try.prog 154 = some [.nilFunc] := by kernel_rfl
theorem tzv_154 : tzv Try.prog 154 = some (.nilFunc) := by kernel_rfl
theorem tagg_154 : tagg Try.prog 154 = some false := by kernel_rfl
theorem us_154 : (Try.prog.underlying 154).isSome = true := by kernel_rfl
theorem tfun_155 : tfun Try.prog 155 = true := by kernel_rfl
theorem tsz_155 : tsz Try.prog 155 = some 1 := by kernel_rfl
theorem tzero_155 : tzero Try.prog 155 = some [.nilFunc] := by kernel_rfl
theorem tzv_155 : tzv Try.prog 155 = some (.nilFunc) := by kernel_rfl
theorem tagg_155 : tagg Try.prog 155 = some false := by kernel_rfl
theorem us_155 : (Try.prog.underlying 155).isSome = true := by kernel_rfl
theorem tfun_156 : tfun Try.prog 156 = true := by kernel_rfl
theorem tsz_156 : tsz Try.prog 156 = some 1 := by kernel_rfl
theorem tzero_156 : tzero Try.prog 156 = some [.nilFunc] := by kernel_rfl
theorem tzv_156 : tzv Try.prog 156 = some (.nilFunc) := by kernel_rfl
theorem tagg_156 : tagg Try.prog 156 = some false := by kernel_rfl
theorem us_156 : (Try.prog.underlying 156).isSome = true := by kernel_rfl
theorem tfun_157 : tfun Try.prog 157 = true := by kernel_rfl
theorem tsz_157 : tsz Try.prog 157 = some 1 := by kernel_rfl
theorem tzero_157 : tzero Try.prog 157 = some [.nilFunc] := by kernel_rfl
theorem tzv_157 : tzv Try.prog 157 = some (.nilFunc) := by kernel_rfl
theorem tagg_157 : tagg Try.prog 157 = some false := by kernel_rfl
theorem us_157 : (Try.prog.underlying 157).isSome = true := by kernel_rfl
theorem tfun_158 : tfun Try.prog 158 = true := by kernel_rfl
theorem tsz_158 : tsz Try.prog 158 = some 1 := by kernel_rfl
theorem tzero_158 : tzero Try.prog 158 = some [.nilFunc] := by kernel_rfl
theorem tzv_158 : tzv Try.prog 158 = some (.nilFunc) := by kernel_rfl
theorem tagg_158 : tagg Try.prog 158 = some false := by kernel_rfl
theorem us_158 : (Try.prog.underlying 158).isSome = true := by kernel_rfl
theorem tfun_159 : tfun Try.prog 159 = true := by kernel_rfl
theorem tsz_159 : tsz Try.prog 159 = some 1 := by kernel_rfl
theorem tzero_159 : tzero Try.prog 159 = some [.nilFunc] := by kernel_rfl
theorem tzv_159 : tzv Try.prog 159 = some (.nilFunc) := by kernel_rfl
theorem tagg_159 : tagg Try.prog 159 = some false := by kernel_rfl
theorem us_159 : (Try.prog.underlying 159).isSome = true := by kernel_rfl
theorem tsz_160 : tsz Try.prog 160 = some 1 := by kernel_rfl
theorem tzero_160 : tzero Try.prog 160 = some [.nilPtr] := by kernel_rfl
theorem tzv_160 : tzv Try.prog 160 = some (.nilPtr) := by kernel_rfl
theorem tagg_160 : tagg Try.prog 160 = some false := by kernel_rfl
theorem us_160 : (Try.prog.underlying 160).isSome = true := by kernel_rfl
theorem tptr_160 : tptr Try.prog 160 = true := by kernel_rfl
theorem tfun_161 : tfun Try.prog 161 = true := by kernel_rfl
theorem tsz_161 : tsz Try.prog 161 = some 1 := by kernel_rfl
theorem tzero_161 : tzero Try.prog 161 = some [.nilFunc] := by kernel_rfl
theorem tzv_161 : tzv Try.prog 161 = some (.nilFunc) := by kernel_rfl
theorem tagg_161 : tagg Try.prog 161 = some false := by kernel_rfl
theorem us_161 : (Try.prog.underlying 161).isSome = true := by kernel_rfl
theorem tsz_162 : tsz Try.prog 162 = some 3 := by kernel_rfl
theorem tzero_162 : tzero Try.prog 162 = some [.int .i64 0, .int .i64 0, .int .i64 0] := by kernel_rfl
theorem tzv_162 : tzv Try.prog 162 = some (.agg [.int .i64 0, .int .i64 0, .int .i64 0]) := by kernel_rfl
theorem tagg_162 : tagg Try.prog 162 = some true := by kernel_rfl
theorem us_162 : (Try.prog.underlying 162).isSome = true := by kernel_rfl
theorem tarr_162 : tarr Try.prog 162 = some (3, 3, 1) := by kernel_rfl
theorem tpl_162 : tplaces Try.prog 162 = none := by kernel_rfl
theorem tsn_162 : tsl Try.prog 162 = none := by kernel_rfl
theorem eqok_162 {x y : List VV} (hx : fitsK [some .i64, some .i64, some .i64] x = true) (hy : fitsK [some .i64, some .i64, some .i64] y = true) : EqOK Try.prog 162 x y = True := eq_true (EqOK.of (t := 162) (by kernel_rfl) (by kernel_rfl) (by kernel_rfl) hx hy)
theorem tsz_163 : tsz Try.prog 163 = some 3 := by kernel_rfl
theorem tzero_163 : tzero Try.prog 163 = some [.nilPtr, .nilPtr, .nilPtr] := by kernel_rfl
theorem tzv_163 : tzv Try.prog 163 = some (.agg [.nilPtr, .nilPtr, .nilPtr]) := by kernel_rfl
theorem tagg_163 : tagg Try.prog 163 = some true := by kernel_rfl
theorem us_163 : (Try.prog.underlying 163).isSome = true := by kernel_rfl
theorem tarr_163 : tarr Try.prog 163 = some (3, 160, 1) := by kernel_rfl
theorem tpl_163 : tplaces Try.prog 163 = none := by kernel_rfl
theorem tsn_163 : tsl Try.prog 163 = none := by kernel_rfl
theorem tfun_164 : tfun Try.prog 164 = true := by kernel_rfl
theorem tsz_164 : tsz Try.prog 164 = some 1 := by kernel_rfl
theorem tzero_164 : tzero Try.prog 164 = some [.nilFunc] := by kernel_rfl
theorem tzv_164 : tzv Try.prog 164 = some (.nilFunc) := by kernel_rfl
theorem tagg_164 : tagg Try.prog 164 = some false := by kernel_rfl
theorem us_164 : (Try.prog.underlying 164).isSome = true := by kernel_rfl
theorem tfun_166 : tfun Try.prog 166 = true := by kernel_rfl
theorem tsz_166 : tsz Try.prog 166 = some 1 := by kernel_rfl
theorem tzero_166 : tzero Try.prog 166 = some [.nilFunc] := by kernel_rfl
theorem tzv_166 : tzv Try.prog 166 = some (.nilFunc) := by kernel_rfl
theorem tagg_166 : tagg Try.prog 166 = some false := by kernel_rfl
theorem us_166 : (Try.prog.underlying 166).isSome = true := by kernel_rfl
theorem tfun_167 : tfun Try.prog 167 = true := by kernel_rfl
theorem tsz_167 : tsz Try.prog 167 = some 1 := by kernel_rfl
theorem tzero_167 : tzero Try.prog 167 = some [.nilFunc] := by kernel_rfl
theorem tzv_167 : tzv Try.prog 167 = some (.nilFunc) := by kernel_rfl
theorem tagg_167 : tagg Try.prog 167 = some false := by kernel_rfl
theorem us_167 : (Try.prog.underlying 167).isSome = true := by kernel_rfl
theorem tfun_168 : tfun Try.prog 168 = true := by kernel_rfl
theorem tsz_168 : tsz Try.prog 168 = some 1 := by kernel_rfl
theorem tzero_168 : tzero Try.prog 168 = some [.nilFunc] := by kernel_rfl
theorem tzv_168 : tzv Try.prog 168 = some (.nilFunc) := by kernel_rfl
theorem tagg_168 : tagg Try.prog 168 = some false := by kernel_rfl
theorem us_168 : (Try.prog.underlying 168).isSome = true := by kernel_rfl
theorem tfun_169 : tfun Try.prog 169 = true := by kernel_rfl
theorem tsz_169 : tsz Try.prog 169 = some 1 := by kernel_rfl
theorem tzero_169 : tzero Try.prog 169 = some [.nilFunc] := by kernel_rfl
theorem tzv_169 : tzv Try.prog 169 = some (.nilFunc) := by kernel_rfl
theorem tagg_169 : tagg Try.prog 169 = some false := by kernel_rfl
theorem us_169 : (Try.prog.underlying 169).isSome = true := by kernel_rfl
theorem tsz_170 : tsz Try.prog 170 = some 1 := by kernel_rfl
theorem tzero_170 : tzero Try.prog 170 = some [.nilPtr] := by kernel_rfl
theorem tzv_170 : tzv Try.prog 170 = some (.nilPtr) := by kernel_rfl
theorem tagg_170 : tagg Try.prog 170 = some false := by kernel_rfl
theorem us_170 : (Try.prog.underlying 170).isSome = true := by kernel_rfl
theorem tptr_170 : tptr Try.prog 170 = true := by kernel_rfl
theorem tfun_171 : tfun Try.prog 171 = true := by kernel_rfl
theorem tsz_171 : tsz Try.prog 171 = some 1 := by kernel_rfl
theorem tzero_171 : tzero Try.prog 171 = some [.nilFunc] := by kernel_rfl
theorem tzv_171 : tzv Try.prog 171 = some (.nilFunc) := by kernel_rfl
theorem tagg_171 : tagg Try.prog 171 = some false := by kernel_rfl
theorem us_171 : (Try.prog.underlying 171).isSome = true := by kernel_rfl
theorem tsz_172 : tsz Try.prog 172 = some 16 := by kernel_rfl
theorem tzero_172 : tzero Try.prog 172 = some [.int .u32 0, .int .u32 0, .int .u32 0, .int .u32 0, .int .u32 0, .int .u32 0, .int .u32 0, .int .u32 0, .int .u32 0, .int .u32 0, .int .u32 0, .int .u32 0, .int .u32 0, .int .u32 0, .int .u32 0, .int .u32 0] := by kernel_rfl
theorem tzv_172 : tzv Try.prog 172 = some (.agg [.int .u32 0, .int .u32 0, .int .u32 0, .int .u32 0, .int .u32 0, .int .u32 0, .int .u32 0, .int .u32 0, .int .u32 0, .int .u32 0, .int .u32 0, .int .u32 0, .int .u32 0, .int .u32 0, .int .u32 0, .int .u32 0]) := by kernel_rfl
theorem tagg_172 : tagg Try.prog 172 = some true := by kernel_rfl
theorem us_172 : (Try.prog.underlying 172).isSome = true := by kernel_rfl
theorem tarr_172 : tarr Try.prog 172 = some (16, 150, 1) := by kernel_rfl
theorem tpl_172 : tplaces Try.prog 172 = none := by kernel_rfl
theorem tsn_172 : tsl Try.prog 172 = none := by kernel_rfl
theorem eqok_172 {x y : List VV} (hx : fitsK [some .u32, some .u32, some .u32, some .u32, some .u32, some .u32, some .u32, some .u32, some .u32, some .u32, some .u32, some .u32, some .u32, some .u32, some .u32, some .u32] x = true) (hy : fitsK [some .u32, some .u32, some .u32, some .u32, some .u32, some .u32, some .u32, some .u32, some .u32, some .u32, some .u32, some .u32, some .u32, some .u32, some .u32, some .u32] y = true) : EqOK Try.prog 172 x y = True := eq_true (EqOK.of (t := 172) (by kernel_rfl) (by kernel_rfl) (by kernel_rfl) hx hy)
theorem tfun_173 : tfun Try.prog 173 = true := by kernel_rfl
theorem tsz_173 : tsz Try.prog 173 = some 1 := by kernel_rfl
theorem tzero_173 : tzero Try.prog 173 = some [.nilFunc] := by kernel_rfl
theorem tzv_173 : tzv Try.prog 173 = some (.nilFunc) := by kernel_rfl
theorem tagg_173 : tagg Try.prog 173 = some false := by kernel_rfl
theorem us_173 : (Try.prog.underlying 173).isSome = true := by kernel_rfl
theorem tfun_174 : tfun Try.prog 174 = true := by kernel_rfl
theorem tsz_174 : tsz Try.prog 174 = some 1 := by kernel_rfl
theorem tzero_174 : tzero Try.prog 174 = some [.nilFunc] := by kernel_rfl
theorem tzv_174 : tzv Try.prog 174 = some (.nilFunc) := by kernel_rfl
theorem tagg_174 : tagg Try.prog 174 = some false := by kernel_rfl
theorem us_174 : (Try.prog.underlying 174).isSome = true := by kernel_rfl
theorem tfun_175 : tfun Try.prog 175 = true := by kernel_rfl
theorem tsz_175 : tsz Try.prog 175 = some 1 := by kernel_rfl
theorem tzero_175 : tzero Try.prog 175 = some [.nilFunc] := by kernel_rfl
theorem tzv_175 : tzv Try.prog 175 = some (.nilFunc) := by kernel_rfl
theorem tagg_175 : tagg Try.prog 175 = some false := by kernel_rfl
theorem us_175 : (Try.prog.underlying 175).isSome = true := by kernel_rfl
theorem tsz_176 : tsz Try.prog 176 = some 4 := by kernel_rfl
theorem tagg_176 : tagg Try.prog 176 = some true := by kernel_rfl
theorem us_176 : (Try.prog.underlying 176).isSome = true := by kernel_rfl
theorem tfld_176_0 : tfld Try.prog 176 0 = some (0, 17, 1) := by kernel_rfl
theorem tfld_176_1 : tfld Try.prog 176 1 = some (1, 17, 1) := by kernel_rfl
theorem tfld_176_2 : tfld Try.prog 176 2 = some (2, 17, 1) := by kernel_rfl
theorem tfld_176_3 : tfld Try.prog 176 3 = some (3, 9, 1) := by kernel_rfl
theorem tpl_176 : tplaces Try.prog 176 = some [(0, 1), (1, 1), (2, 1), (3, 1)] := by kernel_rfl
theorem tsz_177 : tsz Try.prog 177 = some 4 := by kernel_rfl
theorem tagg_177 : tagg Try.prog 177 = some true := by kernel_rfl
theorem us_177 : (Try.prog.underlying 177).isSome = true := by kernel_rfl
theorem tfld_177_0 : tfld Try.prog 177 0 = some (0, 17, 1) := by kernel_rfl
theorem tfld_177_1 : tfld Try.prog 177 1 = some (1, 17, 1) := by kernel_rfl
theorem tfld_177_2 : tfld Try.prog 177 2 = some (2, 17, 1) := by kernel_rfl
theorem tfld_177_3 : tfld Try.prog 177 3 = some (3, 9, 1) := by kernel_rfl
theorem tpl_177 : tplaces Try.prog 177 = some [(0, 1), (1, 1), (2, 1), (3, 1)] := by kernel_rfl
theorem tsz_178 : tsz Try.prog 178 = some 0 := by kernel_rfl
theorem tzero_178 : tzero Try.prog 178 = some [] := by kernel_rfl
theorem tzv_178 : tzv Try.prog 178 = some (.agg []) := by kernel_rfl
theorem tagg_178 : tagg Try.prog 178 = some true := by kernel_rfl
theorem us_178 : (Try.prog.underlying 178).isSome = true := by kernel_rfl
theorem tarr_178 : tarr Try.prog 178 = some (0, 16, 1) := by kernel_rfl
theorem tpl_178 : tplaces Try.prog 178 = none := by kernel_rfl
theorem tsn_178 : tsl Try.prog 178 = none := by kernel_rfl
theorem tsz_179 : tsz Try.prog 179 = some 0 := by kernel_rfl
theorem tzero_179 : tzero Try.prog 179 = some [] := by kernel_rfl
theorem tzv_179 : tzv Try.prog 179 = some (.agg []) := by kernel_rfl
theorem tagg_179 : tagg Try.prog 179 = some true := by kernel_rfl
theorem us_179 : (Try.prog.underlying 179).isSome = true := by kernel_rfl
theorem tfld_179_0 : tfld Try.prog 179 0 = some (0, 178, 0) := by kernel_rfl
theorem tpl_179 : tplaces Try.prog 179 = some [(0, 0)] := by kernel_rfl
theorem tsz_180 : tsz Try.prog 180 = some 0 := by kernel_rfl
theorem tzero_180 : tzero Try.prog 180 = some [] := by kernel_rfl
theorem tzv_180 : tzv Try.prog 180 = some (.agg []) := by kernel_rfl
theorem tagg_180 : tagg Try.prog 180 = some true := by kernel_rfl
theorem us_180 : (Try.prog.underlying 180).isSome = true := by kernel_rfl
theorem tfld_180_0 : tfld Try.prog 180 0 = some (0, 178, 0) := by kernel_rfl
theorem tpl_180 : tplaces Try.prog 180 = some [(0, 0)] := by kernel_rfl
theorem tsz_181 : tsz Try.prog 181 = some 1 := by kernel_rfl
theorem tzero_181 : tzero Try.prog 181 = some [.int .u8 0] := by kernel_rfl
theorem tzv_181 : tzv Try.prog 181 = some (.int .u8 0) := by kernel_rfl
theorem tagg_181 : tagg Try.prog 181 = some false := by kernel_rfl
theorem us_181 : (Try.prog.underlying 181).isSome = true := by kernel_rfl
theorem tint_181 : tint Try.prog 181 = some .u8 := by kernel_rfl
theorem tsz_182 : tsz Try.prog 182 = some 1 := by kernel_rfl
theorem tzero_182 : tzero Try.prog 182 = some [.int .u8 0] := by kernel_rfl
theorem tzv_182 : tzv Try.prog 182 = some (.int .u8 0) := by kernel_rfl
theorem tagg_182 : tagg Try.prog 182 = some false := by kernel_rfl
theorem us_182 : (Try.prog.underlying 182).isSome = true := by kernel_rfl
theorem tint_182 : tint Try.prog 182 = some .u8 := by kernel_rfl
theorem tfun_183 : tfun Try.prog 183 = true := by kernel_rfl
theorem tsz_183 : tsz Try.prog 183 = some 1 := by kernel_rfl
theorem tzero_183 : tzero Try.prog 183 = some [.nilFunc] := by kernel_rfl
theorem tzv_183 : tzv Try.prog 183 = some (.nilFunc) := by kernel_rfl
theorem tagg_183 : tagg Try.prog 183 = some false := by kernel_rfl
theorem us_183 : (Try.prog.underlying 183).isSome = true := by kernel_rfl
theorem tsz_184 : tsz Try.prog 184 = some 1 := by kernel_rfl
theorem tzero_184 : tzero Try.prog 184 = some [.nilPtr] := by kernel_rfl
theorem tzv_184 : tzv Try.prog 184 = some (.nilPtr) := by kernel_rfl
theorem tagg_184 : tagg Try.prog 184 = some false := by kernel_rfl
theorem us_184 : (Try.prog.underlying 184).isSome = true := by kernel_rfl
theorem tptr_184 : tptr Try.prog 184 = true := by kernel_rfl
theorem tsz_185 : tsz Try.prog 185 = some 1 := by kernel_rfl
theorem tzero_185 : tzero Try.prog 185 = some [.int .i32 0] := by kernel_rfl
theorem tzv_185 : tzv Try.prog 185 = some (.int .i32 0) := by kernel_rfl
theorem tagg_185 : tagg Try.prog 185 = some false := by kernel_rfl
theorem us_185 : (Try.prog.underlying 185).isSome = true := by kernel_rfl
theorem tint_185 : tint Try.prog 185 = some .i32 := by kernel_rfl
theorem tsz_186 : tsz Try.prog 186 = some 1 := by kernel_rfl
theorem tzero_186 : tzero Try.prog 186 = some [.int .i32 0] := by kernel_rfl
theorem tzv_186 : tzv Try.prog 186 = some (.int .i32 0) := by kernel_rfl
theorem tagg_186 : tagg Try.prog 186 = some false := by kernel_rfl
theorem us_186 : (Try.prog.underlying 186).isSome = true := by kernel_rfl
theorem tint_186 : tint Try.prog 186 = some .i32 := by kernel_rfl
theorem tsz_187 : tsz Try.prog 187 = some 11 := by kernel_rfl
theorem tzero_187 : tzero Try.prog 187 = some [.int .u64 0, .int .u64 0, .int .u32 0, .int .u8 0, .int .u8 0, .int .u8 0, .int .u8 0, .nilFunc, .nilPtr, .int .i32 0, .int .i32 0] := by kernel_rfl
theorem tzv_187 : tzv Try.prog 187 = some (.agg [.int .u64 0, .int .u64 0, .int .u32 0, .int .u8 0, .int .u8 0, .int .u8 0, .int .u8 0, .nilFunc, .nilPtr, .int .i32 0, .int .i32 0]) := by kernel_rfl
theorem tagg_187 : tagg Try.prog 187 = some true := by kernel_rfl
theorem us_187 : (Try.prog.underlying 187).isSome = true := by kernel_rfl
theorem tfld_187_0 : tfld Try.prog 187 0 = some (0, 12, 1) := by kernel_rfl
theorem tfld_187_1 : tfld Try.prog 187 1 = some (1, 12, 1) := by kernel_rfl
theorem tfld_187_2 : tfld Try.prog 187 2 = some (2, 150, 1) := by kernel_rfl
theorem tfld_187_3 : tfld Try.prog 187 3 = some (3, 181, 1) := by kernel_rfl
theorem tfld_187_4 : tfld Try.prog 187 4 = some (4, 5, 1) := by kernel_rfl
theorem tfld_187_5 : tfld Try.prog 187 5 = some (5, 5, 1) := by kernel_rfl
theorem tfld_187_6 : tfld Try.prog 187 6 = some (6, 182, 1) := by kernel_rfl
theorem tfld_187_7 : tfld Try.prog 187 7 = some (7, 183, 1) := by kernel_rfl
theorem tfld_187_8 : tfld Try.prog 187 8 = some (8, 184, 1) := by kernel_rfl
theorem tfld_187_9 : tfld Try.prog 187 9 = some (9, 185, 1) := by kernel_rfl
theorem tfld_187_10 : tfld Try.prog 187 10 = some (10, 186, 1) := by kernel_rfl
theorem tpl_187 : tplaces Try.prog 187 = some [(0, 1), (1, 1), (2, 1), (3, 1), (4, 1), (5, 1), (6, 1), (7, 1), (8, 1), (9, 1), (10, 1)] := by kernel_rfl
theorem tsz_188 : tsz Try.prog 188 = some 11 := by kernel_rfl
theorem tzero_188 : tzero Try.prog 188 = some [.int .u64 0, .int .u64 0, .int .u32 0, .int .u8 0, .int .u8 0, .int .u8 0, .int .u8 0, .nilFunc, .nilPtr, .int .i32 0, .int .i32 0] := by kernel_rfl
theorem tzv_188 : tzv Try.prog 188 = some (.agg [.int .u64 0, .int .u64 0, .int .u32 0, .int .u8 0, .int .u8 0, .int .u8 0, .int .u8 0, .nilFunc, .nilPtr, .int .i32 0, .int .i32 0]) := by kernel_rfl
theorem tagg_188 : tagg Try.prog 188 = some true := by kernel_rfl
theorem us_188 : (Try.prog.underlying 188).isSome = true := by kernel_rfl
theorem tfld_188_0 : tfld Try.prog 188 0 = some (0, 12, 1) := by kernel_rfl
theorem tfld_188_1 : tfld Try.prog 188 1 = some (1, 12, 1) := by kernel_rfl
theorem tfld_188_2 : tfld Try.prog 188 2 = some (2, 150, 1) := by kernel_rfl
theorem tfld_188_3 : tfld Try.prog 188 3 = some (3, 181, 1) := by kernel_rfl
theorem tfld_188_4 : tfld Try.prog 188 4 = some (4, 5, 1) := by kernel_rfl
theorem tfld_188_5 : tfld Try.prog 188 5 = some (5, 5, 1) := by kernel_rfl
theorem tfld_188_6 : tfld Try.prog 188 6 = some (6, 182, 1) := by kernel_rfl
theorem tfld_188_7 : tfld Try.prog 188 7 = some (7, 183, 1) := by kernel_rfl
theorem tfld_188_8 : tfld Try.prog 188 8 = some (8, 184, 1) := by kernel_rfl
theorem tfld_188_9 : tfld Try.prog 188 9 = some (9, 185, 1) := by kernel_rfl
theorem tfld_188_10 : tfld Try.prog 188 10 = some (10, 186, 1) := by kernel_rfl
theorem tpl_188 : tplaces Try.prog 188 = some [(0, 1), (1, 1), (2, 1), (3, 1), (4, 1), (5, 1), (6, 1), (7, 1), (8, 1), (9, 1), (10, 1)] := by kernel_rfl
def T1 := And.intro (And.intro (@tfun_1) (And.intro (@tsz_1) (@tzero_1))) (And.intro (@tzv_1) (And.intro (@tagg_1) (@us_1)))
def T2 := And.intro (And.intro (@tsz_2) (And.intro (@tzero_2) (@tzv_2))) (And.intro (@tagg_2) (And.intro (@us_2) (@tint_2)))
def T3 := And.intro (And.intro (@tsz_3) (And.intro (@tzero_3) (@tzv_3))) (And.intro (@tagg_3) (And.intro (@us_3) (@tint_3)))
def T4 := And.intro (And.intro (@tsz_4) (And.intro (@tzero_4) (@tzv_4))) (And.intro (@tagg_4) (And.intro (@us_4) (@ub_4)))
def T5 := And.intro (And.intro (@tsz_5) (And.intro (@tzero_5) (@tzv_5))) (And.intro (@tagg_5) (And.intro (@us_5) (@tint_5)))
def T6 := And.intro (And.intro (@tsz_6) (And.intro (@tzero_6) (@tzv_6))) (And.intro (@tagg_6) (And.intro (@us_6) (@tint_6)))
def T7 := And.intro (And.intro (And.intro (@tsz_7) (@tzero_7)) (And.intro (@tzv_7) (And.intro (@tagg_7) (@us_7)))) (And.intro (And.intro (@tfld_7_0) (And.intro (@tfld_7_1) (@tfld_7_2))) (And.intro (@tfld_7_3) (And.intro (@tpl_7) (@eqok_7))))
def T8 := And.intro (And.intro (And.intro (@tsz_8) (@tzero_8)) (And.intro (@tzv_8) (And.intro (@tagg_8) (@us_8)))) (And.intro (And.intro (@tfld_8_0) (And.intro (@tfld_8_1) (@tfld_8_2))) (And.intro (@tfld_8_3) (And.intro (@tpl_8) (@eqok_8))))
def T9 := And.intro (And.intro (@tsz_9) (@tagg_9)) (And.intro (@us_9) (And.intro (@tstr_9) (@ust_9)))
def T10 := And.intro (And.intro (@tsz_10) (@tagg_10)) (And.intro (@us_10) (And.intro (@tstr_10) (@ust_10)))
def T11 := And.intro (And.intro (@tsz_11) (@tagg_11)) (And.intro (@us_11) (And.intro (@tstr_11) (@ust_11)))
def T12 := And.intro (And.intro (@tsz_12) (And.intro (@tzero_12) (@tzv_12))) (And.intro (@tagg_12) (And.intro (@us_12) (@tint_12)))
def T13 := And.intro (And.intro (@tsz_13) (And.intro (@tagg_13) (@us_13))) (And.intro (@tfld_13_0) (And.intro (@tfld_13_1) (@tpl_13)))
def T14 := And.intro (And.intro (@tsz_14) (And.intro (@tagg_14) (@us_14))) (And.intro (@tfld_14_0) (And.intro (@tfld_14_1) (@tpl_14)))
def T15 := And.intro (And.intro (@tsz_15) (And.intro (@tzero_15) (@tzv_15))) (And.intro (@tagg_15) (And.intro (@us_15) (@tptr_15)))
def T16 := And.intro (And.intro (@tsz_16) (And.intro (@tzero_16) (@tzv_16))) (And.intro (@tagg_16) (And.intro (@us_16) (@tptr_16)))
def T17 := And.intro (And.intro (@tsz_17) (And.intro (@tzero_17) (@tzv_17))) (And.intro (@tagg_17) (And.intro (@us_17) (@tptr_17)))
def T18 := And.intro (And.intro (@tsz_18) (And.intro (@tzero_18) (@tzv_18))) (And.intro (And.intro (@tagg_18) (@us_18)) (And.intro (@tfld_18_0) (@tpl_18)))
def T19 := And.intro (And.intro (@tsz_19) (And.intro (@tzero_19) (@tzv_19))) (And.intro (And.intro (@tagg_19) (@us_19)) (And.intro (@tfld_19_0) (@tpl_19)))
def T21 := And.intro (And.intro (@tsz_21) (And.intro (@tzero_21) (@tzv_21))) (And.intro (@tagg_21) (And.intro (@us_21) (@tint_21)))
def T22 := And.intro (And.intro (And.intro (@tsz_22) (@tzero_22)) (And.intro (@tzv_22) (@tagg_22))) (And.intro (And.intro (@us_22) (@tsl_22)) (And.intro (@tapp_22) (@tbytes_22)))
def T23 := And.intro (And.intro (@tfun_23) (And.intro (@tsz_23) (@tzero_23))) (And.intro (@tzv_23) (And.intro (@tagg_23) (@us_23)))
def T24 := And.intro (And.intro (@tsz_24) (And.intro (@tzero_24) (@tzv_24))) (And.intro (@tagg_24) (And.intro (@us_24) (@tint_24)))
def T25 := And.intro (And.intro (And.intro (@tsz_25) (@tzero_25)) (And.intro (@tzv_25) (And.intro (@tagg_25) (@us_25)))) (And.intro (And.intro (@tfld_25_0) (@tfld_25_1)) (And.intro (@tfld_25_2) (And.intro (@tpl_25) (@eqok_25))))
def T26 := And.intro (And.intro (And.intro (@tsz_26) (@tzero_26)) (And.intro (@tzv_26) (And.intro (@tagg_26) (@us_26)))) (And.intro (And.intro (@tfld_26_0) (@tfld_26_1)) (And.intro (@tfld_26_2) (And.intro (@tpl_26) (@eqok_26))))
def T27 := And.intro (And.intro (@tsz_27) (And.intro (@tzero_27) (@tzv_27))) (And.intro (And.intro (@tagg_27) (@us_27)) (And.intro (@tsl_27) (@tapp_27)))
def T28 := And.intro (And.intro (And.intro (@tsz_28) (@tzero_28)) (And.intro (@tzv_28) (@tagg_28))) (And.intro (And.intro (@us_28) (@tfld_28_0)) (And.intro (@tfld_28_1) (And.intro (@tpl_28) (@eqok_28))))
def T29 := And.intro (And.intro (And.intro (@tsz_29) (@tzero_29)) (And.intro (@tzv_29) (@tagg_29))) (And.intro (And.intro (@us_29) (@tfld_29_0)) (And.intro (@tfld_29_1) (And.intro (@tpl_29) (@eqok_29))))
def T30 := And.intro (And.intro (And.intro (@tsz_30) (And.intro (@tzero_30) (@tzv_30))) (And.intro (And.intro (@tagg_30) (@us_30)) (And.intro (@tfld_30_0) (@tfld_30_1)))) (And.intro (And.intro (And.intro (@tfld_30_2) (@tfld_30_3)) (And.intro (@tfld_30_4) (@tfld_30_5))) (And.intro (And.intro (@tfld_30_6) (@tfld_30_7)) (And.intro (@tfld_30_8) (@tpl_30))))
def T31 := And.intro (And.intro (And.intro (@tsz_31) (And.intro (@tzero_31) (@tzv_31))) (And.intro (And.intro (@tagg_31) (@us_31)) (And.intro (@tfld_31_0) (@tfld_31_1)))) (And.intro (And.intro (And.intro (@tfld_31_2) (@tfld_31_3)) (And.intro (@tfld_31_4) (@tfld_31_5))) (And.intro (And.intro (@tfld_31_6) (@tfld_31_7)) (And.intro (@tfld_31_8) (@tpl_31))))
def T32 := And.intro (And.intro (@tsz_32) (And.intro (@tzero_32) (@tzv_32))) (And.intro (@tagg_32) (And.intro (@us_32) (@tint_32)))
def T34 := And.intro (And.intro (@tfun_34) (And.intro (@tsz_34) (@tzero_34))) (And.intro (@tzv_34) (And.intro (@tagg_34) (@us_34)))
def T35 := And.intro (And.intro (@tfun_35) (And.intro (@tsz_35) (@tzero_35))) (And.intro (@tzv_35) (And.intro (@tagg_35) (@us_35)))
def T36 := And.intro (And.intro (@tfun_36) (And.intro (@tsz_36) (@tzero_36))) (And.intro (@tzv_36) (And.intro (@tagg_36) (@us_36)))
def T37 := And.intro (And.intro (@tfun_37) (And.intro (@tsz_37) (@tzero_37))) (And.intro (@tzv_37) (And.intro (@tagg_37) (@us_37)))
def T39 := And.intro (And.intro (@tfun_39) (And.intro (@tsz_39) (@tzero_39))) (And.intro (@tzv_39) (And.intro (@tagg_39) (@us_39)))
def T40 := And.intro (And.intro (@tfun_40) (And.intro (@tsz_40) (@tzero_40))) (And.intro (@tzv_40) (And.intro (@tagg_40) (@us_40)))
def T42 := And.intro (And.intro (@tfun_42) (And.intro (@tsz_42) (@tzero_42))) (And.intro (@tzv_42) (And.intro (@tagg_42) (@us_42)))
def T43 := And.intro (And.intro (@tfun_43) (And.intro (@tsz_43) (@tzero_43))) (And.intro (@tzv_43) (And.intro (@tagg_43) (@us_43)))
def T44 := And.intro (And.intro (@tfun_44) (And.intro (@tsz_44) (@tzero_44))) (And.intro (@tzv_44) (And.intro (@tagg_44) (@us_44)))
def T45 := And.intro (And.intro (@tfun_45) (And.intro (@tsz_45) (@tzero_45))) (And.intro (@tzv_45) (And.intro (@tagg_45) (@us_45)))
def T46 := And.intro (And.intro (@tfun_46) (And.intro (@tsz_46) (@tzero_46))) (And.intro (@tzv_46) (And.intro (@tagg_46) (@us_46)))
def T47 := And.intro (And.intro (@tfun_47) (And.intro (@tsz_47) (@tzero_47))) (And.intro (@tzv_47) (And.intro (@tagg_47) (@us_47)))
def T48 := And.intro (And.intro (And.intro (@tsz_48) (@tzero_48)) (And.intro (@tzv_48) (@tagg_48))) (And.intro (And.intro (@us_48) (@tarr_48)) (And.intro (@tpl_48) (And.intro (@tsn_48) (@eqok_48))))
def T49 := And.intro (And.intro (And.intro (@tsz_49) (@tzero_49)) (And.intro (@tzv_49) (And.intro (@tagg_49) (@us_49)))) (And.intro (And.intro (@tfld_49_0) (@tfld_49_1)) (And.intro (@tfld_49_2) (And.intro (@tpl_49) (@eqok_49))))
def T50 := And.intro (And.intro (And.intro (@tsz_50) (@tzero_50)) (And.intro (@tzv_50) (And.intro (@tagg_50) (@us_50)))) (And.intro (And.intro (@tfld_50_0) (@tfld_50_1)) (And.intro (@tfld_50_2) (And.intro (@tpl_50) (@eqok_50))))
def T51 := And.intro (And.intro (@tsz_51) (And.intro (@tzero_51) (@tzv_51))) (And.intro (And.intro (@tagg_51) (@us_51)) (And.intro (@tsl_51) (@tapp_51)))
def T52 := And.intro (And.intro (@tfun_52) (And.intro (@tsz_52) (@tzero_52))) (And.intro (@tzv_52) (And.intro (@tagg_52) (@us_52)))
def T53 := And.intro (And.intro (And.intro (@tsz_53) (@tzero_53)) (And.intro (@tzv_53) (@tagg_53))) (And.intro (And.intro (@us_53) (@tarr_53)) (And.intro (@tpl_53) (And.intro (@tsn_53) (@eqok_53))))
def T54 := And.intro (And.intro (And.intro (@tsz_54) (@tzero_54)) (And.intro (@tzv_54) (@tagg_54))) (And.intro (And.intro (@us_54) (@tarr_54)) (And.intro (@tpl_54) (And.intro (@tsn_54) (@eqok_54))))
def T55 := And.intro (And.intro (And.intro (And.intro (@tsz_55) (@tzero_55)) (And.intro (@tagg_55) (And.intro (@us_55) (@tfld_55_0)))) (And.intro (And.intro (@tfld_55_1) (@tfld_55_2)) (And.intro (@tfld_55_3) (And.intro (@tfld_55_4) (@tfld_55_5))))) (And.intro (And.intro (And.intro (@tfld_55_6) (@tfld_55_7)) (And.intro (@tfld_55_8) (And.intro (@tfld_55_9) (@tfld_55_10)))) (And.intro (And.intro (@tfld_55_11) (@tfld_55_12)) (And.intro (@tfld_55_13) (And.intro (@tfld_55_14) (@tpl_55)))))
def T56 := And.intro (And.intro (And.intro (And.intro (@tsz_56) (@tzero_56)) (And.intro (@tagg_56) (And.intro (@us_56) (@tfld_56_0)))) (And.intro (And.intro (@tfld_56_1) (@tfld_56_2)) (And.intro (@tfld_56_3) (And.intro (@tfld_56_4) (@tfld_56_5))))) (And.intro (And.intro (And.intro (@tfld_56_6) (@tfld_56_7)) (And.intro (@tfld_56_8) (And.intro (@tfld_56_9) (@tfld_56_10)))) (And.intro (And.intro (@tfld_56_11) (@tfld_56_12)) (And.intro (@tfld_56_13) (And.intro (@tfld_56_14) (@tpl_56)))))
def T57 := And.intro (And.intro (@tfun_57) (And.intro (@tsz_57) (@tzero_57))) (And.intro (@tzv_57) (And.intro (@tagg_57) (@us_57)))
def T59 := And.intro (And.intro (@tfun_59) (And.intro (@tsz_59) (@tzero_59))) (And.intro (@tzv_59) (And.intro (@tagg_59) (@us_59)))
def T60 := And.intro (And.intro (@tfun_60) (And.intro (@tsz_60) (@tzero_60))) (And.intro (@tzv_60) (And.intro (@tagg_60) (@us_60)))
def T61 := And.intro (And.intro (@tfun_61) (And.intro (@tsz_61) (@tzero_61))) (And.intro (@tzv_61) (And.intro (@tagg_61) (@us_61)))
def T62 := And.intro (And.intro (@tfun_62) (And.intro (@tsz_62) (@tzero_62))) (And.intro (@tzv_62) (And.intro (@tagg_62) (@us_62)))
def T64 := And.intro (And.intro (@tfun_64) (And.intro (@tsz_64) (@tzero_64))) (And.intro (@tzv_64) (And.intro (@tagg_64) (@us_64)))
def T65 := And.intro (And.intro (@tfun_65) (And.intro (@tsz_65) (@tzero_65))) (And.intro (@tzv_65) (And.intro (@tagg_65) (@us_65)))
def T66 := And.intro (And.intro (@tfun_66) (And.intro (@tsz_66) (@tzero_66))) (And.intro (@tzv_66) (And.intro (@tagg_66) (@us_66)))
def T67 := And.intro (And.intro (@tfun_67) (And.intro (@tsz_67) (@tzero_67))) (And.intro (@tzv_67) (And.intro (@tagg_67) (@us_67)))
def T68 := And.intro (And.intro (@tfun_68) (And.intro (@tsz_68) (@tzero_68))) (And.intro (@tzv_68) (And.intro (@tagg_68) (@us_68)))
def T69 := And.intro (And.intro (@tfun_69) (And.intro (@tsz_69) (@tzero_69))) (And.intro (@tzv_69) (And.intro (@tagg_69) (@us_69)))
def T70 := And.intro (And.intro (@tsz_70) (And.intro (@tzero_70) (@tzv_70))) (And.intro (@tagg_70) (And.intro (@us_70) (@tptr_70)))
def T71 := And.intro (And.intro (@tfun_71) (And.intro (@tsz_71) (@tzero_71))) (And.intro (@tzv_71) (And.intro (@tagg_71) (@us_71)))
def T72 := And.intro (And.intro (@tsz_72) (And.intro (@tzero_72) (@tzv_72))) (And.intro (@tagg_72) (And.intro (@us_72) (@tptr_72)))
def T73 := And.intro (And.intro (And.intro (@tsz_73) (@tzero_73)) (And.intro (@tzv_73) (@tagg_73))) (And.intro (And.intro (@us_73) (@tfld_73_0)) (And.intro (@tfld_73_1) (@tpl_73)))
def T74 := And.intro (And.intro (And.intro (@tsz_74) (@tzero_74)) (And.intro (@tzv_74) (@tagg_74))) (And.intro (And.intro (@us_74) (@tfld_74_0)) (And.intro (@tfld_74_1) (@tpl_74)))
def T75 := And.intro (And.intro (@tfun_75) (And.intro (@tsz_75) (@tzero_75))) (And.intro (@tzv_75) (And.intro (@tagg_75) (@us_75)))
def T76 := And.intro (And.intro (@tfun_76) (And.intro (@tsz_76) (@tzero_76))) (And.intro (@tzv_76) (And.intro (@tagg_76) (@us_76)))
def T77 := And.intro (And.intro (@tfun_77) (And.intro (@tsz_77) (@tzero_77))) (And.intro (@tzv_77) (And.intro (@tagg_77) (@us_77)))
def T78 := And.intro (And.intro (And.intro (@tsz_78) (@tzero_78)) (And.intro (@tzv_78) (@tagg_78))) (And.intro (And.intro (@us_78) (@tfld_78_0)) (And.intro (@tfld_78_1) (And.intro (@tfld_78_2) (@tpl_78))))
def T79 := And.intro (And.intro (And.intro (@tsz_79) (@tzero_79)) (And.intro (@tzv_79) (@tagg_79))) (And.intro (And.intro (@us_79) (@tfld_79_0)) (And.intro (@tfld_79_1) (And.intro (@tfld_79_2) (@tpl_79))))
def T80 := And.intro (And.intro (@tsz_80) (And.intro (@tzero_80) (@tzv_80))) (And.intro (@tagg_80) (And.intro (@us_80) (@tptr_80)))
def T81 := And.intro (And.intro (@tsz_81) (And.intro (@tzero_81) (@tzv_81))) (And.intro (@tagg_81) (And.intro (@us_81) (@tptr_81)))
def T82 := And.intro (And.intro (And.intro (@tsz_82) (@tzero_82)) (And.intro (@tzv_82) (@tagg_82))) (And.intro (And.intro (@us_82) (@tfld_82_0)) (And.intro (@tfld_82_1) (And.intro (@tfld_82_2) (@tpl_82))))
def T83 := And.intro (And.intro (And.intro (@tsz_83) (@tzero_83)) (And.intro (@tzv_83) (@tagg_83))) (And.intro (And.intro (@us_83) (@tfld_83_0)) (And.intro (@tfld_83_1) (And.intro (@tfld_83_2) (@tpl_83))))
def T84 := And.intro (And.intro (@tfun_84) (And.intro (@tsz_84) (@tzero_84))) (And.intro (@tzv_84) (And.intro (@tagg_84) (@us_84)))
def T85 := And.intro (And.intro (@tfun_85) (And.intro (@tsz_85) (@tzero_85))) (And.intro (@tzv_85) (And.intro (@tagg_85) (@us_85)))
def T86 := And.intro (And.intro (@tfun_86) (And.intro (@tsz_86) (@tzero_86))) (And.intro (@tzv_86) (And.intro (@tagg_86) (@us_86)))
def T87 := And.intro (And.intro (@tfun_87) (And.intro (@tsz_87) (@tzero_87))) (And.intro (@tzv_87) (And.intro (@tagg_87) (@us_87)))
def T88 := And.intro (And.intro (And.intro (@tsz_88) (@tzero_88)) (And.intro (@tzv_88) (@tagg_88))) (And.intro (And.intro (@us_88) (@tfld_88_0)) (And.intro (@tfld_88_1) (And.intro (@tpl_88) (@eqok_88))))
def T89 := And.intro (And.intro (And.intro (@tsz_89) (@tzero_89)) (And.intro (@tzv_89) (@tagg_89))) (And.intro (And.intro (@us_89) (@tfld_89_0)) (And.intro (@tfld_89_1) (And.intro (@tpl_89) (@eqok_89))))
def T90 := And.intro (And.intro (@tfun_90) (And.intro (@tsz_90) (@tzero_90))) (And.intro (@tzv_90) (And.intro (@tagg_90) (@us_90)))
def T91 := And.intro (And.intro (@tfun_91) (And.intro (@tsz_91) (@tzero_91))) (And.intro (@tzv_91) (And.intro (@tagg_91) (@us_91)))
def T92 := And.intro (And.intro (@tfun_92) (And.intro (@tsz_92) (@tzero_92))) (And.intro (@tzv_92) (And.intro (@tagg_92) (@us_92)))
def T93 := And.intro (And.intro (@tfun_93) (And.intro (@tsz_93) (@tzero_93))) (And.intro (@tzv_93) (And.intro (@tagg_93) (@us_93)))
def T94 := And.intro (And.intro (@tfun_94) (And.intro (@tsz_94) (@tzero_94))) (And.intro (@tzv_94) (And.intro (@tagg_94) (@us_94)))
def T95 := And.intro (And.intro (@tfun_95) (And.intro (@tsz_95) (@tzero_95))) (And.intro (@tzv_95) (And.intro (@tagg_95) (@us_95)))
def T96 := And.intro (And.intro (@tfun_96) (And.intro (@tsz_96) (@tzero_96))) (And.intro (@tzv_96) (And.intro (@tagg_96) (@us_96)))
def T97 := And.intro (And.intro (@tfun_97) (And.intro (@tsz_97) (@tzero_97))) (And.intro (@tzv_97) (And.intro (@tagg_97) (@us_97)))
def T98 := And.intro (And.intro (@tfun_98) (And.intro (@tsz_98) (@tzero_98))) (And.intro (@tzv_98) (And.intro (@tagg_98) (@us_98)))
def T99 := And.intro (And.intro (@tfun_99) (And.intro (@tsz_99) (@tzero_99))) (And.intro (@tzv_99) (And.intro (@tagg_99) (@us_99)))
def T100 := And.intro (And.intro (@tfun_100) (And.intro (@tsz_100) (@tzero_100))) (And.intro (@tzv_100) (And.intro (@tagg_100) (@us_100)))
def T101 := And.intro (And.intro (@tfun_101) (And.intro (@tsz_101) (@tzero_101))) (And.intro (@tzv_101) (And.intro (@tagg_101) (@us_101)))
def T103 := And.intro (And.intro (@tfun_103) (And.intro (@tsz_103) (@tzero_103))) (And.intro (@tzv_103) (And.intro (@tagg_103) (@us_103)))
def T104 := And.intro (And.intro (@tfun_104) (And.intro (@tsz_104) (@tzero_104))) (And.intro (@tzv_104) (And.intro (@tagg_104) (@us_104)))
def T105 := And.intro (And.intro (And.intro (@tsz_105) (@tzero_105)) (And.intro (@tzv_105) (And.intro (@tagg_105) (@us_105)))) (And.intro (And.intro (@tfld_105_0) (@tfld_105_1)) (And.intro (@tfld_105_2) (And.intro (@tpl_105) (@eqok_105))))
def T106 := And.intro (And.intro (@tfun_106) (And.intro (@tsz_106) (@tzero_106))) (And.intro (@tzv_106) (And.intro (@tagg_106) (@us_106)))
def T107 := And.intro (And.intro (@tsz_107) (And.intro (@tzero_107) (@tzv_107))) (And.intro (@tagg_107) (And.intro (@us_107) (@tptr_107)))
def T108 := And.intro (And.intro (@tfun_108) (And.intro (@tsz_108) (@tzero_108))) (And.intro (@tzv_108) (And.intro (@tagg_108) (@us_108)))
def T109 := And.intro (And.intro (@tfun_109) (And.intro (@tsz_109) (@tzero_109))) (And.intro (@tzv_109) (And.intro (@tagg_109) (@us_109)))
def T110 := And.intro (And.intro (@tsz_110) (And.intro (@tzero_110) (@tzv_110))) (And.intro (And.intro (@tagg_110) (@us_110)) (And.intro (@tsl_110) (@tapp_110)))
def T111 := And.intro (And.intro (@tfun_111) (And.intro (@tsz_111) (@tzero_111))) (And.intro (@tzv_111) (And.intro (@tagg_111) (@us_111)))
def T112 := And.intro (And.intro (And.intro (@tsz_112) (@tzero_112)) (And.intro (@tzv_112) (@tagg_112))) (And.intro (And.intro (@us_112) (@tfld_112_0)) (And.intro (@tfld_112_1) (And.intro (@tfld_112_2) (@tpl_112))))
def T113 := And.intro (And.intro (And.intro (@tsz_113) (@tzero_113)) (And.intro (@tzv_113) (@tagg_113))) (And.intro (And.intro (@us_113) (@tfld_113_0)) (And.intro (@tfld_113_1) (And.intro (@tfld_113_2) (@tpl_113))))
def T115 := And.intro (And.intro (@tfun_115) (And.intro (@tsz_115) (@tzero_115))) (And.intro (@tzv_115) (And.intro (@tagg_115) (@us_115)))
def T116 := And.intro (And.intro (And.intro (@tsz_116) (@tzero_116)) (And.intro (@tzv_116) (@tagg_116))) (And.intro (And.intro (@us_116) (@tsl_116)) (And.intro (@tapp_116) (@tbytes_116)))
def T117 := And.intro (And.intro (@tfun_117) (And.intro (@tsz_117) (@tzero_117))) (And.intro (@tzv_117) (And.intro (@tagg_117) (@us_117)))
def T118 := And.intro (And.intro (@tsz_118) (And.intro (@tzero_118) (@tzv_118))) (And.intro (@tagg_118) (And.intro (@us_118) (@tptr_118)))
def T119 := And.intro (And.intro (And.intro (@tsz_119) (@tzero_119)) (And.intro (@tzv_119) (@tagg_119))) (And.intro (And.intro (@us_119) (@tfld_119_0)) (And.intro (@tfld_119_1) (@tpl_119)))
def T120 := And.intro (And.intro (And.intro (@tsz_120) (@tzero_120)) (And.intro (@tzv_120) (@tagg_120))) (And.intro (And.intro (@us_120) (@tfld_120_0)) (And.intro (@tfld_120_1) (@tpl_120)))
def T121 := And.intro (And.intro (@tfun_121) (And.intro (@tsz_121) (@tzero_121))) (And.intro (@tzv_121) (And.intro (@tagg_121) (@us_121)))
def T122 := And.intro (And.intro (@tfun_122) (And.intro (@tsz_122) (@tzero_122))) (And.intro (@tzv_122) (And.intro (@tagg_122) (@us_122)))
def T123 := And.intro (And.intro (And.intro (@tsz_123) (@tzero_123)) (And.intro (@tzv_123) (@tagg_123))) (And.intro (And.intro (@us_123) (@tfld_123_0)) (And.intro (@tfld_123_1) (@tpl_123)))
def T124 := And.intro (And.intro (And.intro (@tsz_124) (@tzero_124)) (And.intro (@tzv_124) (@tagg_124))) (And.intro (And.intro (@us_124) (@tfld_124_0)) (And.intro (@tfld_124_1) (@tpl_124)))
def T125 := And.intro (And.intro (@tsz_125) (And.intro (@tzero_125) (@tzv_125))) (And.intro (@tagg_125) (And.intro (@us_125) (@tptr_125)))
def T126 := And.intro (And.intro (@tfun_126) (And.intro (@tsz_126) (@tzero_126))) (And.intro (@tzv_126) (And.intro (@tagg_126) (@us_126)))
def T127 := And.intro (And.intro (@tfun_127) (And.intro (@tsz_127) (@tzero_127))) (And.intro (@tzv_127) (And.intro (@tagg_127) (@us_127)))
def T128 := And.intro (And.intro (@tsz_128) (And.intro (@tzero_128) (@tzv_128))) (And.intro (@tagg_128) (And.intro (@us_128) (@tptr_128)))
def T130 := And.intro (And.intro (@tfun_130) (And.intro (@tsz_130) (@tzero_130))) (And.intro (@tzv_130) (And.intro (@tagg_130) (@us_130)))
def T131 := And.intro (And.intro (@tfun_131) (And.intro (@tsz_131) (@tzero_131))) (And.intro (@tzv_131) (And.intro (@tagg_131) (@us_131)))
def T132 := And.intro (And.intro (@tfun_132) (And.intro (@tsz_132) (@tzero_132))) (And.intro (@tzv_132) (And.intro (@tagg_132) (@us_132)))
def T133 := And.intro (And.intro (@tsz_133) (And.intro (@tzero_133) (@tzv_133))) (And.intro (@tagg_133) (And.intro (@us_133) (@tint_133)))
def T134 := And.intro (And.intro (@tfun_134) (And.intro (@tsz_134) (@tzero_134))) (And.intro (@tzv_134) (And.intro (@tagg_134) (@us_134)))
def T135 := And.intro (And.intro (@tfun_135) (And.intro (@tsz_135) (@tzero_135))) (And.intro (@tzv_135) (And.intro (@tagg_135) (@us_135)))
def T136 := And.intro (And.intro (@tsz_136) (And.intro (@tzero_136) (@tagg_136))) (And.intro (And.intro (@us_136) (@tarr_136)) (And.intro (@tpl_136) (@tsn_136)))
def T137 := And.intro (And.intro (@tfun_137) (And.intro (@tsz_137) (@tzero_137))) (And.intro (@tzv_137) (And.intro (@tagg_137) (@us_137)))
def T138 := And.intro (And.intro (@tsz_138) (And.intro (@tzero_138) (@tzv_138))) (And.intro (And.intro (@tagg_138) (@us_138)) (And.intro (@tfld_138_0) (@tpl_138)))
def T139 := And.intro (And.intro (@tsz_139) (And.intro (@tzero_139) (@tzv_139))) (And.intro (And.intro (@tagg_139) (@us_139)) (And.intro (@tfld_139_0) (@tpl_139)))
def T140 := And.intro (And.intro (@tsz_140) (And.intro (@tzero_140) (@tzv_140))) (And.intro (@tagg_140) (And.intro (@us_140) (@tptr_140)))
def T141 := And.intro (And.intro (@tsz_141) (And.intro (@tzero_141) (@tzv_141))) (And.intro (And.intro (@tagg_141) (@us_141)) (And.intro (@tsl_141) (@tapp_141)))
def T142 := And.intro (And.intro (And.intro (@tsz_142) (And.intro (@tzero_142) (@tagg_142))) (And.intro (And.intro (@us_142) (@tfld_142_0)) (And.intro (@tfld_142_1) (@tfld_142_2)))) (And.intro (And.intro (And.intro (@tfld_142_3) (@tfld_142_4)) (And.intro (@tfld_142_5) (@tfld_142_6))) (And.intro (And.intro (@tfld_142_7) (@tfld_142_8)) (And.intro (@tfld_142_9) (@tpl_142))))
def T143 := And.intro (And.intro (And.intro (@tsz_143) (And.intro (@tzero_143) (@tagg_143))) (And.intro (And.intro (@us_143) (@tfld_143_0)) (And.intro (@tfld_143_1) (@tfld_143_2)))) (And.intro (And.intro (And.intro (@tfld_143_3) (@tfld_143_4)) (And.intro (@tfld_143_5) (@tfld_143_6))) (And.intro (And.intro (@tfld_143_7) (@tfld_143_8)) (And.intro (@tfld_143_9) (@tpl_143))))
def T144 := And.intro (And.intro (@tfun_144) (And.intro (@tsz_144) (@tzero_144))) (And.intro (@tzv_144) (And.intro (@tagg_144) (@us_144)))
def T145 := And.intro (And.intro (@tsz_145) (And.intro (@tzero_145) (@tzv_145))) (And.intro (And.intro (@tagg_145) (@us_145)) (And.intro (@tsl_145) (@tapp_145)))
def T146 := And.intro (And.intro (@tfun_146) (And.intro (@tsz_146) (@tzero_146))) (And.intro (@tzv_146) (And.intro (@tagg_146) (@us_146)))
def T147 := And.intro (And.intro (@tfun_147) (And.intro (@tsz_147) (@tzero_147))) (And.intro (@tzv_147) (And.intro (@tagg_147) (@us_147)))
def T148 := And.intro (And.intro (@tsz_148) (And.intro (@tzero_148) (@tzv_148))) (And.intro (@tagg_148) (And.intro (@us_148) (@tptr_148)))
def T149 := And.intro (And.intro (@tfun_149) (And.intro (@tsz_149) (@tzero_149))) (And.intro (@tzv_149) (And.intro (@tagg_149) (@us_149)))
def T150 := And.intro (And.intro (@tsz_150) (And.intro (@tzero_150) (@tzv_150))) (And.intro (@tagg_150) (And.intro (@us_150) (@tint_150)))
def T151 := And.intro (And.intro (@tfun_151) (And.intro (@tsz_151) (@tzero_151))) (And.intro (@tzv_151) (And.intro (@tagg_151) (@us_151)))
def T152 := And.intro (And.intro (@tfun_152) (And.intro (@tsz_152) (@tzero_152))) (And.intro (@tzv_152) (And.intro (@tagg_152) (@us_152)))
def T153 := And.intro (And.intro (@tfun_153) (And.intro (@tsz_153) (@tzero_153))) (And.intro (@tzv_153) (And.intro (@tagg_153) (@us_153)))
def T154 := And.intro (And.intro (@tfun_154) (And.intro (@tsz_154) (@tzero_154))) (And.intro (@tzv_154) (And.intro (@tagg_154) (@us_154)))
def T155 := And.intro (And.intro (@tfun_155) (And.intro (@tsz_155) (@tzero_155))) (And.intro (@tzv_155) (And.intro (@tagg_155) (@us_155)))
def T156 := And.intro (And.intro (@tfun_156) (And.intro (@tsz_156) (@tzero_156))) (And.intro (@tzv_156) (And.intro (@tagg_156) (@us_156)))
def T157 := And.intro (And.intro (@tfun_157) (And.intro (@tsz_157) (@tzero_157))) (And.intro (@tzv_157) (And.intro (@tagg_157) (@us_157)))
def T158 := And.intro (And.intro (@tfun_158) (And.intro (@tsz_158) (@tzero_158))) (And.intro (@tzv_158) (And.intro (@tagg_158) (@us_158)))
def T159 := And.intro (And.intro (@tfun_159) (And.intro (@tsz_159) (@tzero_159))) (And.intro (@tzv_159) (And.intro (@tagg_159) (@us_159)))
def T160 := And.intro (And.intro (@tsz_160) (And.intro (@tzero_160) (@tzv_160))) (And.intro (@tagg_160) (And.intro (@us_160) (@tptr_160)))
def T161 := And.intro (And.intro (@tfun_161) (And.intro (@tsz_161) (@tzero_161))) (And.intro (@tzv_161) (And.intro (@tagg_161) (@us_161)))
def T162 := And.intro (And.intro (And.intro (@tsz_162) (@tzero_162)) (And.intro (@tzv_162) (@tagg_162))) (And.intro (And.intro (@us_162) (@tarr_162)) (And.intro (@tpl_162) (And.intro (@tsn_162) (@eqok_162))))
def T163 := And.intro (And.intro (And.intro (@tsz_163) (@tzero_163)) (And.intro (@tzv_163) (@tagg_163))) (And.intro (And.intro (@us_163) (@tarr_163)) (And.intro (@tpl_163) (@tsn_163)))
def T164 := And.intro (And.intro (@tfun_164) (And.intro (@tsz_164) (@tzero_164))) (And.intro (@tzv_164) (And.intro (@tagg_164) (@us_164)))
def T166 := And.intro (And.intro (@tfun_166) (And.intro (@tsz_166) (@tzero_166))) (And.intro (@tzv_166) (And.intro (@tagg_166) (@us_166)))
def T167 := And.intro (And.intro (@tfun_167) (And.intro (@tsz_167) (@tzero_167))) (And.intro (@tzv_167) (And.intro (@tagg_167) (@us_167)))
def T168 := And.intro (And.intro (@tfun_168) (And.intro (@tsz_168) (@tzero_168))) (And.intro (@tzv_168) (And.intro (@tagg_168) (@us_168)))
def T169 := And.intro (And.intro (@tfun_169) (And.intro (@tsz_169) (@tzero_169))) (And.intro (@tzv_169) (And.intro (@tagg_169) (@us_169)))
def T170 := And.intro (And.intro (@tsz_170) (And.intro (@tzero_170) (@tzv_170))) (And.intro (@tagg_170) (And.intro (@us_170) (@tptr_170)))
def T171 := And.intro (And.intro (@tfun_171) (And.intro (@tsz_171) (@tzero_171))) (And.intro (@tzv_171) (And.intro (@tagg_171) (@us_171)))
def T172 := And.intro (And.intro (And.intro (@tsz_172) (@tzero_172)) (And.intro (@tzv_172) (@tagg_172))) (And.intro (And.intro (@us_172) (@tarr_172)) (And.intro (@tpl_172) (And.intro (@tsn_172) (@eqok_172))))
def T173 := And.intro (And.intro (@tfun_173) (And.intro (@tsz_173) (@tzero_173))) (And.intro (@tzv_173) (And.intro (@tagg_173) (@us_173)))
def T174 := And.intro (And.intro (@tfun_174) (And.intro (@tsz_174) (@tzero_174))) (And.intro (@tzv_174) (And.intro (@tagg_174) (@us_174)))
def T175 := And.intro (And.intro (@tfun_175) (And.intro (@tsz_175) (@tzero_175))) (And.intro (@tzv_175) (And.intro (@tagg_175) (@us_175)))
def T176 := And.intro (And.intro (And.intro (@tsz_176) (@tagg_176)) (And.intro (@us_176) (@tfld_176_0))) (And.intro (And.intro (@tfld_176_1) (@tfld_176_2)) (And.intro (@tfld_176_3) (@tpl_176)))
def T177 := And.intro (And.intro (And.intro (@tsz_177) (@tagg_177)) (And.intro (@us_177) (@tfld_177_0))) (And.intro (And.intro (@tfld_177_1) (@tfld_177_2)) (And.intro (@tfld_177_3) (@tpl_177)))
def T178 := And.intro (And.intro (And.intro (@tsz_178) (@tzero_178)) (And.intro (@tzv_178) (@tagg_178))) (And.intro (And.intro (@us_178) (@tarr_178)) (And.intro (@tpl_178) (@tsn_178)))
def T179 := And.intro (And.intro (@tsz_179) (And.intro (@tzero_179) (@tzv_179))) (And.intro (And.intro (@tagg_179) (@us_179)) (And.intro (@tfld_179_0) (@tpl_179)))
def T180 := And.intro (And.intro (@tsz_180) (And.intro (@tzero_180) (@tzv_180))) (And.intro (And.intro (@tagg_180) (@us_180)) (And.intro (@tfld_180_0) (@tpl_180)))
def T181 := And.intro (And.intro (@tsz_181) (And.intro (@tzero_181) (@tzv_181))) (And.intro (@tagg_181) (And.intro (@us_181) (@tint_181)))
def T182 := And.intro (And.intro (@tsz_182) (And.intro (@tzero_182) (@tzv_182))) (And.intro (@tagg_182) (And.intro (@us_182) (@tint_182)))
def T183 := And.intro (And.intro (@tfun_183) (And.intro (@tsz_183) (@tzero_183))) (And.intro (@tzv_183) (And.intro (@tagg_183) (@us_183)))
def T184 := And.intro (And.intro (@tsz_184) (And.intro (@tzero_184) (@tzv_184))) (And.intro (@tagg_184) (And.intro (@us_184) (@tptr_184)))
def T185 := And.intro (And.intro (@tsz_185) (And.intro (@tzero_185) (@tzv_185))) (And.intro (@tagg_185) (And.intro (@us_185) (@tint_185)))
def T186 := And.intro (And.intro (@tsz_186) (And.intro (@tzero_186) (@tzv_186))) (And.intro (@tagg_186) (And.intro (@us_186) (@tint_186)))
def T187 := And.intro (And.intro (And.intro (And.intro (@tsz_187) (@tzero_187)) (And.intro (@tzv_187) (@tagg_187))) (And.intro (And.intro (@us_187) (@tfld_187_0)) (And.intro (@tfld_187_1) (@tfld_187_2)))) (And.intro (And.intro (And.intro (@tfld_187_3) (@tfld_187_4)) (And.intro (@tfld_187_5) (@tfld_187_6))) (And.intro (And.intro (@tfld_187_7) (@tfld_187_8)) (And.intro (@tfld_187_9) (And.intro (@tfld_187_10) (@tpl_187)))))
def T188 := And.intro (And.intro (And.intro (And.intro (@tsz_188) (@tzero_188)) (And.intro (@tzv_188) (@tagg_188))) (And.intro (And.intro (@us_188) (@tfld_188_0)) (And.intro (@tfld_188_1) (@tfld_188_2)))) (And.intro (And.intro (And.intro (@tfld_188_3) (@tfld_188_4)) (And.intro (@tfld_188_5) (@tfld_188_6))) (And.intro (And.intro (@tfld_188_7) (@tfld_188_8)) (And.intro (@tfld_188_9) (And.intro (@tfld_188_10) (@tpl_188)))))
end Go.Proofs.Ytnlammgemaapnaa.Sf
