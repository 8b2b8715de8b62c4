/-
  Closed facts on the types and functions of this seat's program, laid by a program of mine (facts.py).
-/
import Derived.Test.YtkoejelglinmnaaGreatProg
import Derived.Test.YtkoejelglinmnaaGreatK1
set_option linter.unusedSimpArgs false
set_option linter.unusedVariables false
namespace Go.Proofs.YtkoejelglinmnaaGreat
namespace Tf
open Sg
theorem ty_3 : Ty Tryz.prog 3 false 1 (.int .i64 0) := Ty.lay (by kernel_rfl) (by kernel_rfl)
theorem ty_4 : Ty Tryz.prog 4 false 1 (.bool false) := Ty.lay (by kernel_rfl) (by kernel_rfl)
theorem ty_22 : Ty Tryz.prog 22 false 1 (.slice none 0 0) := Ty.lay (by kernel_rfl) (by kernel_rfl)
theorem ty_23 : Ty Tryz.prog 23 false 1 (.slice none 0 0) := Ty.lay (by kernel_rfl) (by kernel_rfl)
theorem ty_25 : Ty Tryz.prog 25 true 3 (.agg #[.int .i64 0, .slice none 0 0, .slice none 0 0]) := Ty.lay (by kernel_rfl) (by kernel_rfl)
theorem ty_28 : Ty Tryz.prog 28 false 1 (.int .i64 0) := Ty.lay (by kernel_rfl) (by kernel_rfl)
theorem ty_32 : Ty Tryz.prog 32 true 3 (.agg #[.slice none 0 0, .slice none 0 0, .int .i64 0]) := Ty.lay (by kernel_rfl) (by kernel_rfl)
theorem ty_37 : Ty Tryz.prog 37 true 2 (.agg #[.slice none 0 0, .int .i64 0]) := Ty.lay (by kernel_rfl) (by kernel_rfl)
theorem ty_44 : Ty Tryz.prog 44 true 2 (.agg #[.int .i64 0, .int .i64 0]) := Ty.lay (by kernel_rfl) (by kernel_rfl)
theorem ty_49 : Ty Tryz.prog 49 false 1 (.slice none 0 0) := Ty.lay (by kernel_rfl) (by kernel_rfl)
theorem ty_51 : Ty Tryz.prog 51 true 3 (.agg #[.slice none 0 0, .int .i64 0, .slice none 0 0]) := Ty.lay (by kernel_rfl) (by kernel_rfl)
theorem ty_52 : Ty Tryz.prog 52 false 1 (.slice none 0 0) := Ty.lay (by kernel_rfl) (by kernel_rfl)
theorem ty_55 : Ty Tryz.prog 55 true 3 (.agg #[.int .i64 0, .int .i64 0, .slice none 0 0]) := Ty.lay (by kernel_rfl) (by kernel_rfl)
theorem ty_56 : Ty Tryz.prog 56 false 1 (.slice none 0 0) := Ty.lay (by kernel_rfl) (by kernel_rfl)
theorem ty_60 : Ty Tryz.prog 60 true 2 (.agg #[.slice none 0 0, .int .i64 0]) := Ty.lay (by kernel_rfl) (by kernel_rfl)
theorem ty_65 : Ty Tryz.prog 65 true 4 (.agg #[.int .i64 0, .slice none 0 0, .slice none 0 0, .int .i64 0]) := Ty.lay (by kernel_rfl) (by kernel_rfl)
theorem ty_81 : Ty Tryz.prog 81 true 4 (.agg #[.int .i64 0, .int .i64 0, .int .i64 0, .int .i64 0]) := Ty.lay (by kernel_rfl) (by kernel_rfl)
theorem ty_120 : Ty Tryz.prog 120 false 1 (.nilFunc) := Ty.lay (by kernel_rfl) (by kernel_rfl)
theorem ty_124 : Ty Tryz.prog 124 false 1 (.map none) := Ty.lay (by kernel_rfl) (by kernel_rfl)
theorem ty_129 : Ty Tryz.prog 129 true 4 (.agg #[.int .i64 0, .slice none 0 0, .slice none 0 0, .slice none 0 0]) := Ty.lay (by kernel_rfl) (by kernel_rfl)
theorem ty_142 : Ty Tryz.prog 142 false 1 (.pointer none) := Ty.lay (by kernel_rfl) (by kernel_rfl)
theorem ty_143 : Ty Tryz.prog 143 true 6 (.agg #[.int .i64 0, .slice none 0 0, .slice none 0 0, .int .i64 0, .slice none 0 0, .slice none 0 0]) := Ty.lay (by kernel_rfl) (by kernel_rfl)
theorem ty_144 : Ty Tryz.prog 144 true 2 (.agg #[.slice none 0 0, .slice none 0 0]) := Ty.lay (by kernel_rfl) (by kernel_rfl)
theorem ty_146 : Ty Tryz.prog 146 true 8 (.agg #[.int .i64 0, .slice none 0 0, .slice none 0 0, .int .i64 0, .slice none 0 0, .slice none 0 0, .slice none 0 0, .slice none 0 0]) := Ty.lay (by kernel_rfl) (by kernel_rfl)
theorem ty_148 : Ty Tryz.prog 148 false 1 (.nilFunc) := Ty.lay (by kernel_rfl) (by kernel_rfl)
theorem ty_151 : Ty Tryz.prog 151 false 1 (.slice none 0 0) := Ty.lay (by kernel_rfl) (by kernel_rfl)
theorem ty_153 : Ty Tryz.prog 153 true 8 (.agg #[.int .i64 0, .slice none 0 0, .slice none 0 0, .int .i64 0, .slice none 0 0, .slice none 0 0, .slice none 0 0, .slice none 0 0]) := Ty.lay (by kernel_rfl) (by kernel_rfl)
theorem ty_155 : Ty Tryz.prog 155 true 60 (.agg (Array.replicate 60 (.bool false))) := Ty.lay (by kernel_rfl) (by kernel_rfl)
theorem ty_156 : Ty Tryz.prog 156 true 120 (.agg (Array.replicate 120 (.bool false))) := Ty.lay (by kernel_rfl) (by kernel_rfl)
theorem ty_169 : Ty Tryz.prog 169 true 5 (.agg #[.int .i64 0, .slice none 0 0, .slice none 0 0, .slice none 0 0, .slice none 0 0]) := Ty.lay (by kernel_rfl) (by kernel_rfl)
theorem ty_179 : Ty Tryz.prog 179 false 1 (.pointer none) := Ty.lay (by kernel_rfl) (by kernel_rfl)
theorem ty_209 : Ty Tryz.prog 209 false 1 (.int .u64 0) := Ty.lay (by kernel_rfl) (by kernel_rfl)
theorem sl_22 : SliceTy Tryz.prog 22 1 8 (.int .i64 0) := SliceTy.lay (el := 3) (by kernel_rfl) (by kernel_rfl)
theorem us_22 : Tryz.prog.underlying 22 = some (.slice 3) := by kernel_rfl
theorem sl_23 : SliceTy Tryz.prog 23 4 32 (.agg #[.int .i64 0, .int .i64 0, .int .i64 0, .int .i64 0]) := SliceTy.lay (el := 81) (by kernel_rfl) (by kernel_rfl)
theorem us_23 : Tryz.prog.underlying 23 = some (.slice 81) := by kernel_rfl
theorem sl_49 : SliceTy Tryz.prog 49 2 16 (.agg #[.int .i64 0, .int .i64 0]) := SliceTy.lay (el := 44) (by kernel_rfl) (by kernel_rfl)
theorem us_49 : Tryz.prog.underlying 49 = some (.slice 44) := by kernel_rfl
theorem sl_52 : SliceTy Tryz.prog 52 3 40 (.agg #[.int .i64 0, .int .i64 0, .slice none 0 0]) := SliceTy.lay (el := 55) (by kernel_rfl) (by kernel_rfl)
theorem us_52 : Tryz.prog.underlying 52 = some (.slice 55) := by kernel_rfl
theorem sl_56 : SliceTy Tryz.prog 56 1 24 (.slice none 0 0) := SliceTy.lay (el := 22) (by kernel_rfl) (by kernel_rfl)
theorem us_56 : Tryz.prog.underlying 56 = some (.slice 22) := by kernel_rfl
theorem sl_151 : SliceTy Tryz.prog 151 1 1 (.bool false) := SliceTy.lay (el := 4) (by kernel_rfl) (by kernel_rfl)
theorem us_151 : Tryz.prog.underlying 151 = some (.slice 4) := by kernel_rfl
theorem mp_124 : MapTy Tryz.prog 124 (.int .i64 0) := MapTy.lay (kt := 3) (et := 3) (by kernel_rfl) (by kernel_rfl) (by kernel_rfl)
theorem mp_141 : MapTy Tryz.prog 141 (.bool false) := MapTy.lay (kt := 3) (et := 4) (by kernel_rfl) (by kernel_rfl) (by kernel_rfl)
theorem pl_25 : placesOf Tryz.prog 25 = some #[(0, 1), (1, 1), (2, 1)] := by kernel_rfl
theorem pl_32 : placesOf Tryz.prog 32 = some #[(0, 1), (1, 1), (2, 1)] := by kernel_rfl
theorem pl_37 : placesOf Tryz.prog 37 = some #[(0, 1), (1, 1)] := by kernel_rfl
theorem pl_44 : placesOf Tryz.prog 44 = some #[(0, 1), (1, 1)] := by kernel_rfl
theorem pl_51 : placesOf Tryz.prog 51 = some #[(0, 1), (1, 1), (2, 1)] := by kernel_rfl
theorem pl_55 : placesOf Tryz.prog 55 = some #[(0, 1), (1, 1), (2, 1)] := by kernel_rfl
theorem pl_60 : placesOf Tryz.prog 60 = some #[(0, 1), (1, 1)] := by kernel_rfl
theorem pl_65 : placesOf Tryz.prog 65 = some #[(0, 3), (3, 1)] := by kernel_rfl
theorem pl_81 : placesOf Tryz.prog 81 = some #[(0, 1), (1, 2), (3, 1)] := by kernel_rfl
theorem pl_129 : placesOf Tryz.prog 129 = some #[(0, 3), (3, 1)] := by kernel_rfl
theorem pl_146 : placesOf Tryz.prog 146 = some #[(0, 6), (6, 2)] := by kernel_rfl
theorem pl_153 : placesOf Tryz.prog 153 = some #[(0, 3), (3, 3), (6, 1), (7, 1)] := by kernel_rfl
theorem pl_169 : placesOf Tryz.prog 169 = some #[(0, 3), (3, 1), (4, 1)] := by kernel_rfl
theorem ua_144 : ArrTy Tryz.prog 144 2 := ArrTy.lay (el := 22) (by kernel_rfl) (by kernel_rfl)
theorem ua_155 : ArrTy Tryz.prog 155 60 := ArrTy.lay (el := 4) (by kernel_rfl) (by kernel_rfl)
theorem fo_25_0 : FieldOf Tryz.prog 25 0 0 := FieldOf.lay (sz := 0) (by kernel_rfl)
theorem fo_25_1 : FieldOf Tryz.prog 25 1 1 := FieldOf.lay (sz := 0) (by kernel_rfl)
theorem fo_25_2 : FieldOf Tryz.prog 25 2 2 := FieldOf.lay (sz := 0) (by kernel_rfl)
theorem fo_32_0 : FieldOf Tryz.prog 32 0 0 := FieldOf.lay (sz := 0) (by kernel_rfl)
theorem fo_32_1 : FieldOf Tryz.prog 32 1 1 := FieldOf.lay (sz := 0) (by kernel_rfl)
theorem fo_32_2 : FieldOf Tryz.prog 32 2 2 := FieldOf.lay (sz := 0) (by kernel_rfl)
theorem fo_37_0 : FieldOf Tryz.prog 37 0 0 := FieldOf.lay (sz := 0) (by kernel_rfl)
theorem fo_37_1 : FieldOf Tryz.prog 37 1 1 := FieldOf.lay (sz := 0) (by kernel_rfl)
theorem fo_44_0 : FieldOf Tryz.prog 44 0 0 := FieldOf.lay (sz := 0) (by kernel_rfl)
theorem fo_44_1 : FieldOf Tryz.prog 44 1 1 := FieldOf.lay (sz := 0) (by kernel_rfl)
theorem fo_51_0 : FieldOf Tryz.prog 51 0 0 := FieldOf.lay (sz := 0) (by kernel_rfl)
theorem fo_51_1 : FieldOf Tryz.prog 51 1 1 := FieldOf.lay (sz := 0) (by kernel_rfl)
theorem fo_51_2 : FieldOf Tryz.prog 51 2 2 := FieldOf.lay (sz := 0) (by kernel_rfl)
theorem fo_55_0 : FieldOf Tryz.prog 55 0 0 := FieldOf.lay (sz := 0) (by kernel_rfl)
theorem fo_55_1 : FieldOf Tryz.prog 55 1 1 := FieldOf.lay (sz := 0) (by kernel_rfl)
theorem fo_55_2 : FieldOf Tryz.prog 55 2 2 := FieldOf.lay (sz := 0) (by kernel_rfl)
theorem fo_60_0 : FieldOf Tryz.prog 60 0 0 := FieldOf.lay (sz := 0) (by kernel_rfl)
theorem fo_60_1 : FieldOf Tryz.prog 60 1 1 := FieldOf.lay (sz := 0) (by kernel_rfl)
theorem fo_65_0 : FieldOf Tryz.prog 65 0 0 := FieldOf.lay (sz := 2) (by kernel_rfl)
theorem fo_65_1 : FieldOf Tryz.prog 65 1 3 := FieldOf.lay (sz := 0) (by kernel_rfl)
theorem fo_81_0 : FieldOf Tryz.prog 81 0 0 := FieldOf.lay (sz := 0) (by kernel_rfl)
theorem fo_81_1 : FieldOf Tryz.prog 81 1 1 := FieldOf.lay (sz := 1) (by kernel_rfl)
theorem fo_81_2 : FieldOf Tryz.prog 81 2 3 := FieldOf.lay (sz := 0) (by kernel_rfl)
theorem fo_129_0 : FieldOf Tryz.prog 129 0 0 := FieldOf.lay (sz := 2) (by kernel_rfl)
theorem fo_129_1 : FieldOf Tryz.prog 129 1 3 := FieldOf.lay (sz := 0) (by kernel_rfl)
theorem fo_146_0 : FieldOf Tryz.prog 146 0 0 := FieldOf.lay (sz := 5) (by kernel_rfl)
theorem fo_146_1 : FieldOf Tryz.prog 146 1 6 := FieldOf.lay (sz := 1) (by kernel_rfl)
theorem fo_153_0 : FieldOf Tryz.prog 153 0 0 := FieldOf.lay (sz := 2) (by kernel_rfl)
theorem fo_153_1 : FieldOf Tryz.prog 153 1 3 := FieldOf.lay (sz := 2) (by kernel_rfl)
theorem fo_153_2 : FieldOf Tryz.prog 153 2 6 := FieldOf.lay (sz := 0) (by kernel_rfl)
theorem fo_153_3 : FieldOf Tryz.prog 153 3 7 := FieldOf.lay (sz := 0) (by kernel_rfl)
theorem fo_169_0 : FieldOf Tryz.prog 169 0 0 := FieldOf.lay (sz := 2) (by kernel_rfl)
theorem fo_169_1 : FieldOf Tryz.prog 169 1 3 := FieldOf.lay (sz := 0) (by kernel_rfl)
theorem fo_169_2 : FieldOf Tryz.prog 169 2 4 := FieldOf.lay (sz := 0) (by kernel_rfl)
theorem hb_2 : HasBody Tryz.prog 2 := HasBody.lay (by kernel_rfl)
theorem hb_3 : HasBody Tryz.prog 3 := HasBody.lay (by kernel_rfl)
theorem hb_4 : HasBody Tryz.prog 4 := HasBody.lay (by kernel_rfl)
theorem hb_5 : HasBody Tryz.prog 5 := HasBody.lay (by kernel_rfl)
theorem hb_6 : HasBody Tryz.prog 6 := HasBody.lay (by kernel_rfl)
theorem hb_7 : HasBody Tryz.prog 7 := HasBody.lay (by kernel_rfl)
theorem hb_8 : HasBody Tryz.prog 8 := HasBody.lay (by kernel_rfl)
theorem hb_9 : HasBody Tryz.prog 9 := HasBody.lay (by kernel_rfl)
theorem hb_10 : HasBody Tryz.prog 10 := HasBody.lay (by kernel_rfl)
theorem hb_11 : HasBody Tryz.prog 11 := HasBody.lay (by kernel_rfl)
theorem hb_12 : HasBody Tryz.prog 12 := HasBody.lay (by kernel_rfl)
theorem hb_13 : HasBody Tryz.prog 13 := HasBody.lay (by kernel_rfl)
theorem hb_14 : HasBody Tryz.prog 14 := HasBody.lay (by kernel_rfl)
theorem hb_15 : HasBody Tryz.prog 15 := HasBody.lay (by kernel_rfl)
theorem hb_16 : HasBody Tryz.prog 16 := HasBody.lay (by kernel_rfl)
theorem hb_17 : HasBody Tryz.prog 17 := HasBody.lay (by kernel_rfl)
theorem hb_18 : HasBody Tryz.prog 18 := HasBody.lay (by kernel_rfl)
theorem hb_19 : HasBody Tryz.prog 19 := HasBody.lay (by kernel_rfl)
theorem hb_20 : HasBody Tryz.prog 20 := HasBody.lay (by kernel_rfl)
theorem hb_21 : HasBody Tryz.prog 21 := HasBody.lay (by kernel_rfl)
theorem hb_22 : HasBody Tryz.prog 22 := HasBody.lay (by kernel_rfl)
theorem hb_23 : HasBody Tryz.prog 23 := HasBody.lay (by kernel_rfl)
theorem hb_24 : HasBody Tryz.prog 24 := HasBody.lay (by kernel_rfl)
theorem hb_25 : HasBody Tryz.prog 25 := HasBody.lay (by kernel_rfl)
theorem hb_26 : HasBody Tryz.prog 26 := HasBody.lay (by kernel_rfl)
theorem hb_27 : HasBody Tryz.prog 27 := HasBody.lay (by kernel_rfl)
theorem hb_28 : HasBody Tryz.prog 28 := HasBody.lay (by kernel_rfl)
theorem hb_29 : HasBody Tryz.prog 29 := HasBody.lay (by kernel_rfl)
theorem hb_30 : HasBody Tryz.prog 30 := HasBody.lay (by kernel_rfl)
theorem hb_31 : HasBody Tryz.prog 31 := HasBody.lay (by kernel_rfl)
theorem hb_32 : HasBody Tryz.prog 32 := HasBody.lay (by kernel_rfl)
theorem hb_33 : HasBody Tryz.prog 33 := HasBody.lay (by kernel_rfl)
theorem hb_34 : HasBody Tryz.prog 34 := HasBody.lay (by kernel_rfl)
theorem hb_35 : HasBody Tryz.prog 35 := HasBody.lay (by kernel_rfl)
theorem hb_36 : HasBody Tryz.prog 36 := HasBody.lay (by kernel_rfl)
theorem hb_37 : HasBody Tryz.prog 37 := HasBody.lay (by kernel_rfl)
theorem hb_38 : HasBody Tryz.prog 38 := HasBody.lay (by kernel_rfl)
theorem hb_39 : HasBody Tryz.prog 39 := HasBody.lay (by kernel_rfl)
theorem hb_40 : HasBody Tryz.prog 40 := HasBody.lay (by kernel_rfl)
theorem hb_41 : HasBody Tryz.prog 41 := HasBody.lay (by kernel_rfl)
theorem hb_42 : HasBody Tryz.prog 42 := HasBody.lay (by kernel_rfl)
theorem hb_43 : HasBody Tryz.prog 43 := HasBody.lay (by kernel_rfl)
theorem hb_44 : HasBody Tryz.prog 44 := HasBody.lay (by kernel_rfl)
theorem hb_45 : HasBody Tryz.prog 45 := HasBody.lay (by kernel_rfl)
theorem hb_46 : HasBody Tryz.prog 46 := HasBody.lay (by kernel_rfl)
theorem hb_47 : HasBody Tryz.prog 47 := HasBody.lay (by kernel_rfl)
theorem hb_48 : HasBody Tryz.prog 48 := HasBody.lay (by kernel_rfl)
theorem hb_49 : HasBody Tryz.prog 49 := HasBody.lay (by kernel_rfl)
theorem hb_50 : HasBody Tryz.prog 50 := HasBody.lay (by kernel_rfl)
theorem hb_51 : HasBody Tryz.prog 51 := HasBody.lay (by kernel_rfl)
theorem hb_52 : HasBody Tryz.prog 52 := HasBody.lay (by kernel_rfl)
theorem hb_53 : HasBody Tryz.prog 53 := HasBody.lay (by kernel_rfl)
theorem hb_54 : HasBody Tryz.prog 54 := HasBody.lay (by kernel_rfl)
theorem hb_55 : HasBody Tryz.prog 55 := HasBody.lay (by kernel_rfl)
theorem hb_56 : HasBody Tryz.prog 56 := HasBody.lay (by kernel_rfl)
theorem hb_57 : HasBody Tryz.prog 57 := HasBody.lay (by kernel_rfl)
theorem hb_58 : HasBody Tryz.prog 58 := HasBody.lay (by kernel_rfl)
theorem hb_59 : HasBody Tryz.prog 59 := HasBody.lay (by kernel_rfl)
theorem hb_60 : HasBody Tryz.prog 60 := HasBody.lay (by kernel_rfl)
theorem hb_61 : HasBody Tryz.prog 61 := HasBody.lay (by kernel_rfl)
theorem hb_62 : HasBody Tryz.prog 62 := HasBody.lay (by kernel_rfl)
theorem hb_63 : HasBody Tryz.prog 63 := HasBody.lay (by kernel_rfl)
theorem hb_64 : HasBody Tryz.prog 64 := HasBody.lay (by kernel_rfl)
theorem hb_65 : HasBody Tryz.prog 65 := HasBody.lay (by kernel_rfl)
theorem hb_66 : HasBody Tryz.prog 66 := HasBody.lay (by kernel_rfl)
theorem hb_67 : HasBody Tryz.prog 67 := HasBody.lay (by kernel_rfl)
theorem hb_68 : HasBody Tryz.prog 68 := HasBody.lay (by kernel_rfl)
theorem hb_69 : HasBody Tryz.prog 69 := HasBody.lay (by kernel_rfl)
theorem hb_70 : HasBody Tryz.prog 70 := HasBody.lay (by kernel_rfl)
theorem hb_71 : HasBody Tryz.prog 71 := HasBody.lay (by kernel_rfl)
theorem hb_72 : HasBody Tryz.prog 72 := HasBody.lay (by kernel_rfl)
theorem hb_73 : HasBody Tryz.prog 73 := HasBody.lay (by kernel_rfl)
theorem hb_74 : HasBody Tryz.prog 74 := HasBody.lay (by kernel_rfl)
theorem hb_75 : HasBody Tryz.prog 75 := HasBody.lay (by kernel_rfl)
theorem hb_76 : HasBody Tryz.prog 76 := HasBody.lay (by kernel_rfl)
theorem hb_77 : HasBody Tryz.prog 77 := HasBody.lay (by kernel_rfl)
theorem hb_78 : HasBody Tryz.prog 78 := HasBody.lay (by kernel_rfl)
theorem hb_79 : HasBody Tryz.prog 79 := HasBody.lay (by kernel_rfl)
theorem hb_80 : HasBody Tryz.prog 80 := HasBody.lay (by kernel_rfl)
theorem hb_81 : HasBody Tryz.prog 81 := HasBody.lay (by kernel_rfl)
theorem hb_82 : HasBody Tryz.prog 82 := HasBody.lay (by kernel_rfl)
theorem hb_83 : HasBody Tryz.prog 83 := HasBody.lay (by kernel_rfl)
theorem hb_84 : HasBody Tryz.prog 84 := HasBody.lay (by kernel_rfl)
theorem hb_85 : HasBody Tryz.prog 85 := HasBody.lay (by kernel_rfl)
theorem hb_86 : HasBody Tryz.prog 86 := HasBody.lay (by kernel_rfl)
theorem hb_87 : HasBody Tryz.prog 87 := HasBody.lay (by kernel_rfl)
theorem hb_88 : HasBody Tryz.prog 88 := HasBody.lay (by kernel_rfl)
theorem hb_89 : HasBody Tryz.prog 89 := HasBody.lay (by kernel_rfl)
theorem hb_90 : HasBody Tryz.prog 90 := HasBody.lay (by kernel_rfl)
theorem hb_91 : HasBody Tryz.prog 91 := HasBody.lay (by kernel_rfl)
theorem hb_92 : HasBody Tryz.prog 92 := HasBody.lay (by kernel_rfl)
theorem hb_93 : HasBody Tryz.prog 93 := HasBody.lay (by kernel_rfl)
theorem hb_94 : HasBody Tryz.prog 94 := HasBody.lay (by kernel_rfl)
theorem hb_95 : HasBody Tryz.prog 95 := HasBody.lay (by kernel_rfl)
theorem hb_96 : HasBody Tryz.prog 96 := HasBody.lay (by kernel_rfl)
theorem hb_97 : HasBody Tryz.prog 97 := HasBody.lay (by kernel_rfl)
theorem hb_98 : HasBody Tryz.prog 98 := HasBody.lay (by kernel_rfl)
theorem hb_99 : HasBody Tryz.prog 99 := HasBody.lay (by kernel_rfl)
theorem hb_100 : HasBody Tryz.prog 100 := HasBody.lay (by kernel_rfl)
theorem hb_101 : HasBody Tryz.prog 101 := HasBody.lay (by kernel_rfl)
theorem hb_102 : HasBody Tryz.prog 102 := HasBody.lay (by kernel_rfl)
theorem hb_103 : HasBody Tryz.prog 103 := HasBody.lay (by kernel_rfl)
theorem hb_104 : HasBody Tryz.prog 104 := HasBody.lay (by kernel_rfl)
theorem hb_105 : HasBody Tryz.prog 105 := HasBody.lay (by kernel_rfl)
theorem hb_106 : HasBody Tryz.prog 106 := HasBody.lay (by kernel_rfl)
theorem hb_107 : HasBody Tryz.prog 107 := HasBody.lay (by kernel_rfl)
theorem hb_108 : HasBody Tryz.prog 108 := HasBody.lay (by kernel_rfl)
theorem hb_109 : HasBody Tryz.prog 109 := HasBody.lay (by kernel_rfl)
theorem hb_110 : HasBody Tryz.prog 110 := HasBody.lay (by kernel_rfl)
theorem hb_111 : HasBody Tryz.prog 111 := HasBody.lay (by kernel_rfl)
theorem hb_112 : HasBody Tryz.prog 112 := HasBody.lay (by kernel_rfl)
theorem hb_113 : HasBody Tryz.prog 113 := HasBody.lay (by kernel_rfl)
theorem hb_114 : HasBody Tryz.prog 114 := HasBody.lay (by kernel_rfl)
theorem hb_115 : HasBody Tryz.prog 115 := HasBody.lay (by kernel_rfl)
theorem hb_116 : HasBody Tryz.prog 116 := HasBody.lay (by kernel_rfl)
theorem hb_117 : HasBody Tryz.prog 117 := HasBody.lay (by kernel_rfl)
theorem hb_118 : HasBody Tryz.prog 118 := HasBody.lay (by kernel_rfl)
theorem hb_119 : HasBody Tryz.prog 119 := HasBody.lay (by kernel_rfl)
theorem hb_120 : HasBody Tryz.prog 120 := HasBody.lay (by kernel_rfl)
theorem hb_121 : HasBody Tryz.prog 121 := HasBody.lay (by kernel_rfl)
theorem hb_122 : HasBody Tryz.prog 122 := HasBody.lay (by kernel_rfl)
theorem hb_123 : HasBody Tryz.prog 123 := HasBody.lay (by kernel_rfl)
theorem hb_124 : HasBody Tryz.prog 124 := HasBody.lay (by kernel_rfl)
theorem hb_125 : HasBody Tryz.prog 125 := HasBody.lay (by kernel_rfl)
theorem hb_126 : HasBody Tryz.prog 126 := HasBody.lay (by kernel_rfl)
theorem hb_127 : HasBody Tryz.prog 127 := HasBody.lay (by kernel_rfl)
theorem hb_128 : HasBody Tryz.prog 128 := HasBody.lay (by kernel_rfl)
theorem hb_129 : HasBody Tryz.prog 129 := HasBody.lay (by kernel_rfl)
theorem hb_130 : HasBody Tryz.prog 130 := HasBody.lay (by kernel_rfl)
theorem hb_131 : HasBody Tryz.prog 131 := HasBody.lay (by kernel_rfl)
theorem hb_132 : HasBody Tryz.prog 132 := HasBody.lay (by kernel_rfl)
theorem hb_133 : HasBody Tryz.prog 133 := HasBody.lay (by kernel_rfl)
theorem hb_134 : HasBody Tryz.prog 134 := HasBody.lay (by kernel_rfl)
theorem hb_135 : HasBody Tryz.prog 135 := HasBody.lay (by kernel_rfl)
theorem hb_136 : HasBody Tryz.prog 136 := HasBody.lay (by kernel_rfl)
theorem hb_137 : HasBody Tryz.prog 137 := HasBody.lay (by kernel_rfl)
theorem hb_138 : HasBody Tryz.prog 138 := HasBody.lay (by kernel_rfl)
theorem hb_139 : HasBody Tryz.prog 139 := HasBody.lay (by kernel_rfl)
theorem hb_140 : HasBody Tryz.prog 140 := HasBody.lay (by kernel_rfl)
theorem hb_141 : HasBody Tryz.prog 141 := HasBody.lay (by kernel_rfl)
theorem hb_142 : HasBody Tryz.prog 142 := HasBody.lay (by kernel_rfl)
theorem hb_143 : HasBody Tryz.prog 143 := HasBody.lay (by kernel_rfl)
theorem hb_144 : HasBody Tryz.prog 144 := HasBody.lay (by kernel_rfl)
theorem hb_145 : HasBody Tryz.prog 145 := HasBody.lay (by kernel_rfl)
theorem hb_146 : HasBody Tryz.prog 146 := HasBody.lay (by kernel_rfl)
theorem hb_147 : HasBody Tryz.prog 147 := HasBody.lay (by kernel_rfl)
theorem hb_148 : HasBody Tryz.prog 148 := HasBody.lay (by kernel_rfl)
theorem hb_149 : HasBody Tryz.prog 149 := HasBody.lay (by kernel_rfl)
theorem hb_150 : HasBody Tryz.prog 150 := HasBody.lay (by kernel_rfl)
theorem hb_151 : HasBody Tryz.prog 151 := HasBody.lay (by kernel_rfl)
theorem hb_152 : HasBody Tryz.prog 152 := HasBody.lay (by kernel_rfl)
theorem hb_153 : HasBody Tryz.prog 153 := HasBody.lay (by kernel_rfl)
theorem hb_154 : HasBody Tryz.prog 154 := HasBody.lay (by kernel_rfl)
theorem hb_155 : HasBody Tryz.prog 155 := HasBody.lay (by kernel_rfl)
theorem hb_156 : HasBody Tryz.prog 156 := HasBody.lay (by kernel_rfl)
theorem hb_157 : HasBody Tryz.prog 157 := HasBody.lay (by kernel_rfl)
theorem hb_158 : HasBody Tryz.prog 158 := HasBody.lay (by kernel_rfl)
theorem hb_159 : HasBody Tryz.prog 159 := HasBody.lay (by kernel_rfl)
theorem hb_160 : HasBody Tryz.prog 160 := HasBody.lay (by kernel_rfl)
theorem hb_161 : HasBody Tryz.prog 161 := HasBody.lay (by kernel_rfl)
theorem hb_162 : HasBody Tryz.prog 162 := HasBody.lay (by kernel_rfl)
theorem hb_163 : HasBody Tryz.prog 163 := HasBody.lay (by kernel_rfl)
theorem hb_164 : HasBody Tryz.prog 164 := HasBody.lay (by kernel_rfl)
theorem hb_165 : HasBody Tryz.prog 165 := HasBody.lay (by kernel_rfl)
theorem hb_166 : HasBody Tryz.prog 166 := HasBody.lay (by kernel_rfl)
theorem hb_167 : HasBody Tryz.prog 167 := HasBody.lay (by kernel_rfl)
theorem hb_169 : HasBody Tryz.prog 169 := HasBody.lay (by kernel_rfl)
theorem hb_170 : HasBody Tryz.prog 170 := HasBody.lay (by kernel_rfl)
theorem hb_171 : HasBody Tryz.prog 171 := HasBody.lay (by kernel_rfl)
theorem hb_172 : HasBody Tryz.prog 172 := HasBody.lay (by kernel_rfl)
theorem hb_173 : HasBody Tryz.prog 173 := HasBody.lay (by kernel_rfl)
theorem hb_174 : HasBody Tryz.prog 174 := HasBody.lay (by kernel_rfl)
theorem hb_175 : HasBody Tryz.prog 175 := HasBody.lay (by kernel_rfl)
theorem hb_176 : HasBody Tryz.prog 176 := HasBody.lay (by kernel_rfl)
theorem hb_177 : HasBody Tryz.prog 177 := HasBody.lay (by kernel_rfl)
theorem hb_178 : HasBody Tryz.prog 178 := HasBody.lay (by kernel_rfl)
theorem hb_179 : HasBody Tryz.prog 179 := HasBody.lay (by kernel_rfl)
theorem hb_180 : HasBody Tryz.prog 180 := HasBody.lay (by kernel_rfl)
theorem hb_181 : HasBody Tryz.prog 181 := HasBody.lay (by kernel_rfl)
theorem hb_182 : HasBody Tryz.prog 182 := HasBody.lay (by kernel_rfl)
theorem hb_183 : HasBody Tryz.prog 183 := HasBody.lay (by kernel_rfl)
theorem hb_184 : HasBody Tryz.prog 184 := HasBody.lay (by kernel_rfl)
theorem hb_185 : HasBody Tryz.prog 185 := HasBody.lay (by kernel_rfl)
end Tf
end Go.Proofs.YtkoejelglinmnaaGreat

/-
  slices.overlaps, of two blocks of the call's own.
-/
namespace Go.Proofs.YtkoejelglinmnaaGreat
namespace Sg
section
variable {P : Program} {n : Nat} {A : Array Oper} {rest : List Oper} {d : Option Tmp} {ty : TypeId} {pos : String} {aft : Array Edge} {e : Env} {w : World} {K : Env → World → Prop}

theorem run_overlaps {t el : TypeId} {i : TypeInfo} {ps rs : Array TypeId} {g g' o o' la lb ca cb : Nat} {cs cs' : List Value} {T T' : TypeId} (h0 : ps[0]? = some t) (hu : P.underlying t = some (.slice el)) (hi : P.info? el = some i)
    (h1 : Blk w g cs T) (h2 : Blk w g' cs' T') (hne : g ≠ g') :
    (Extern.SlicesOverlaps.overlaps ps rs #[.slice (some ⟨g, o, none⟩) la ca, .slice (some ⟨g', o', none⟩) lb cb]).run P w = .ok (.bool false) w := by
  have hs1 : w.shape? g = some (T, cs.length) := by
    unfold Blk at h1
    simp [World.shape?, h1]
  have hs2 : w.shape? g' = some (T', cs'.length) := by
    unfold Blk at h2
    simp [World.shape?, h2]
  have f1 : ∀ o, w.frozen? ⟨g, o, none⟩ = false := fun o => h1.frozen o
  have f2 : ∀ o, w.frozen? ⟨g', o, none⟩ = false := fun o => h2.frozen o
  have hb : (g != g') = true := by simpa using hne
  have e : Extern.SlicesOverlaps.overlaps ps rs #[.slice (some ⟨g, o, none⟩) la ca, .slice (some ⟨g', o', none⟩) lb cb] = (do
    let some t := ps[0]? | stuck "slices.overlaps: no parameter types"
    let .slice elem ← underlying t | stuck "slices.overlaps: slice type expected"
    let size ← sizeOf elem
    if la = 0 ∨ lb = 0 ∨ size = 0 then pure (.bool false)
      else if g != g' && (← frozen ⟨g, o, none⟩) && (← frozen ⟨g', o', none⟩) then unsupported .addressObserved
      else do
        if g != g' then do
          noView ⟨g, o, none⟩; noView ⟨g', o', none⟩
          if ← mayBeOne ⟨g, o, none⟩ ⟨g', o', none⟩ then return .bool ((← choose (.extern "sameAddr.stringBytes" 2)) == 1)
        pure (.bool (g == g' && o < o' + lb * size && o' < o + la * size))) := rfl
  rw [e]
  simp only [h0, Sem.run_bind, Go.run_underlying hu, Result.andThen, run_sizeOf hi]
  split
  · rfl
  · simp [Sem.run_bind, Result.andThen, hb, hne, frozen, f1, f2, noView, viewAt, shape, mayBeOne, stringish, hs1, hs2, pure, Sem.run]

theorem run_extern {f : FuncId} {fn : Func} {E : Array Value → Sem Value} {args : Array Value} {v : Value} (hf : P.funcs[f]? = some fn) (hn : (fn.name == "runtime.NumGoroutine") = false) (hb : fn.body.isNone = true) (hx : Extern.findNext fn = none) (he : Extern.find fn = some E)
    (hr : (E args).run P w = .ok v w) : (callFunc f args).run P w = .ok (.value v) w := by
  have hn' : ¬ fn.name = "runtime.NumGoroutine" := by simpa using hn
  have hb' : fn.body = none := by simpa using hb
  simp [callFunc, Sem.run_bind, program, Sem.run, Result.andThen, hf, hb', hn', hx, he, mark, hr, pure]

theorem Flow.extern2 {f : FuncId} {fn : Func} {E : Array Value → Sem Value} {x1 x2 : Operand} {v1 v2 v : Value} {ats : Array TypeId} (hf : P.funcs[f]? = some fn) (hn : (fn.name == "runtime.NumGoroutine") = false) (hb : fn.body.isNone = true) (hx : Extern.findNext fn = none) (he : Extern.find fn = some E)
    (h1 : ev n e x1 = v1) (h2 : ev n e x2 = v2) (hr : (E #[v1, v2]).run P w = .ok v w) (h : Flow P n A rest (updO e d v) w K) :
    Flow P n A (⟨d, .call { callee := .value (.func f), args := #[x1, x2], argTypes := ats }, ty, pos, aft, none⟩ :: rest) e w K := by
  have hc := run_extern (P := P) (w := w) hf hn hb hx he hr
  refine Flow.val rfl (v := v) (w' := w) ?_ h
  have e1 : ev n e (.func f) = .func (.func f) #[] #[] := rfl
  simp [execOp, resolve, e1, Sem.run_bind, Result.andThen, pure, Sem.run, invoke, h1, h2, hc, Deferred.ofValue]

theorem ext_overlaps : Extern.find Tryz.f168 = some (Extern.SlicesOverlaps.overlaps Tryz.f168.params Tryz.f168.resultTypes) := by kernel_rfl
theorem next_overlaps : Extern.findNext Tryz.f168 = none := by kernel_rfl

theorem Flow.cap {x : Operand} {t el : TypeId} {a : Option Addr} {l c : Nat} (hu : P.underlying t = some (.slice el)) (hx : ev n e x = .slice a l c)
    (h : Flow P n A rest (updO e d (.int .i64 c)) w K) : Flow P n A (⟨d, .call { callee := .builtin .cap, args := #[x], argTypes := #[t] }, ty, pos, aft, none⟩ :: rest) e w K := by
  refine Flow.val rfl (v := .int .i64 c) (w' := w) ?_ h
  simp [execOp, resolve, Sem.run_bind, Result.andThen, pure, Sem.run, invoke, builtin, hx, Builtin.cap_, Go.run_underlying hu, goInt]

/-- append(s, make([]T, m)...) where there is no room: elements of one cell. -/
theorem Flow.appendMake {t u el : TypeId} {by_ : Nat} {z : Value} {k : IntKind} {s x : Operand} {b o len cap m : Nat} {xs : List Value} (ht : SliceTy P t 1 by_ z) (hu : P.underlying t = some (.slice el)) (hk : P.underlying u = some (.int k)) (hz1 : z.cells = #[z])
    (hs : ev n e s = .slice (some ⟨b, o, none⟩) len cap) (hx : ev n e x = .int .i64 m) (hy : Cells w b o xs) (hl : xs.length = len) (hg : cap < len + m) (hm : 0 < m) (hn : (len + m) * by_ ≤ 1000000000) (hn' : len + m ≤ 1000000000)
    (h : ∀ cap' w', Chg [] w w' → w'.heap.size = w.heap.size + 1 → len + m ≤ cap' → cap' ≤ maxLen → Blk w' w.heap.size (xs ++ List.replicate (cap' - len) z) el → Flow P n A rest (updO e d (.slice (some ⟨w.heap.size, 0, none⟩) (len + m) cap')) w' K) :
    Flow P n A (⟨d, .call { callee := .builtin .append, args := #[s, x], argTypes := #[t, u] }, ty, pos, aft, none⟩ :: rest) e w K := by
  obtain ⟨el', i, hu', hi, hs', hby, hz⟩ := ht.ex
  rw [hu] at hu'
  obtain rfl : el = el' := by simpa using hu'
  subst hby
  have hn2 : ¬ (len + m ≤ cap) := by omega
  have hw : IntKind.i64.wrap (m : Int) = m := wrap_i64 (by omega) (by omega)
  have hm0 : ¬ ((m : Int) < 0) := by omega
  have hm1 : ¬ m = 0 := by omega
  have hfits := growslice_fits (need := len + m) (old := cap) (bytes := i.bytes) (by omega) (by omega)
  have h48' : ¬ (281474976710656 < Builtin.nextslicecap (len + m) cap * i.bytes) := by omega
  have hmb : m * i.bytes ≤ 1000000000 := by rw [Nat.add_mul] at hn; omega
  have hmb' : ¬ (281474976710656 < (m : Int) * (i.bytes : Int)) := by
    have : ((m * i.bytes : Nat) : Int) ≤ 1000000000 := by omega
    rw [Int.natCast_mul] at this; omega
  have h63' : ¬ (9223372036854775807 < ((len : Int) + (m : Int))) := by omega
  have hfo := run_firstCells_some (P := P) w.drew i.size len ⟨b, o, none⟩ len cap xs (by rw [hs', Nat.mul_one]; exact hl) (fun j v hj => by rw [addr_add]; exact hy.get hj)
  rw [hs'] at hfo
  have hge := grownCap_ge w (len + m) cap el
  have hcm := grownCap_le_maxLen w (len + m) cap el (by unfold maxLen; omega)
  have hzc : ∀ q, Builtin.zeroCells z.cells q = (List.replicate q z).toArray := by
    intro q
    apply Array.ext'
    simp only [Builtin.zeroCells, hz1]
    apply List.ext_getElem
    · simp
    · intro j h1 h2; simp [Nat.mod_one]
  have hai : ∀ w : World, (asIntOf (Value.int IntKind.i64 m)).run P w = .ok (.i64, (m : Int)) w := fun w => by simp [asIntOf, pure, Sem.run]
  have hr : (Builtin.append_ #[t, u] ty #[.slice (some ⟨b, o, none⟩) len cap, .int .i64 m]).run P w = .ok (.slice (some ⟨w.heap.size, 0, none⟩) (len + m) (grownCap w (len + m) cap el))
      (w.drew.alloc (.cells (xs ++ List.replicate (grownCap w (len + m) cap el - len) z).toArray el)) := by
    simp [Builtin.append_, Go.run_underlying hu, Go.run_underlying hk, sizeOf, typeInfo, zeroValue, hi, hz, asInt, hw, hm0, hm1, hs', hmb', hn2, h63', h48', Question.forced, hfo, newRow, hzc, hai, Result.andThen, pure, Sem.run]
    rw [show Question.cut (.appendCap (len + m) cap el) (w.tape w.drawn (.appendCap (len + m) cap el)) = grownCap w (len + m) cap el from rfl]
    refine ⟨rfl, ?_⟩
    congr 2
    apply Array.ext'
    simp
    omega
  refine Flow.val rfl (v := .slice (some ⟨w.heap.size, 0, none⟩) (len + m) (grownCap w (len + m) cap el)) (w' := w.drew.alloc (.cells (xs ++ List.replicate (grownCap w (len + m) cap el - len) z).toArray el)) ?_
    (h _ _ (chg_grown w _) (by simp) hge hcm (heap_alloc_new w.drew _))
  simp [execOp, resolve, Sem.run_bind, Result.andThen, pure, Sem.run, invoke, builtin, hs, hx, hr]

end
end Sg
end Go.Proofs.YtkoejelglinmnaaGreat

/-
  The program logic: a region that draws its order, by what holds once some of its operations are done.
-/
namespace Go.Proofs.YtkoejelglinmnaaGreat
namespace Sg

def okI (A : Array Oper) : Bool :=
  (List.range A.size).all fun i => (edges A i).all (fun e => !binds e || Nat.blt e.on i) &&
    (match A[i]? with
     | some oi => notSel oi && oi.guard.isNone
     | none => true)

section
variable {P : Program} {n : Nat} {A : Array Oper}

/-- Each operation, behind those that it waits for, keeps what holds. -/
def StepAll (P : Program) (n : Nat) (A : Array Oper) (I : (Nat → Bool) → Env → World → Prop) : Nat → List Oper → Prop
  | _, [] => True
  | j, o :: l => (∀ L e w, L j = false → ((edges A j).all fun x => !binds x || L x.on) = true → I L e w → Flow P n A [o] e w (fun e' w' => I (fun k => k == j || L k) e' w')) ∧ StepAll P n A I (j + 1) l

theorem StepAll.get {I : (Nat → Bool) → Env → World → Prop} : ∀ (l : List Oper) (j i : Nat) (o : Oper), StepAll P n A I j l → l[i]? = some o →
    ∀ L e w, L (j + i) = false → ((edges A (j + i)).all fun x => !binds x || L x.on) = true → I L e w → Flow P n A [o] e w (fun e' w' => I (fun k => k == (j + i) || L k) e' w')
  | [], _, _, _, _, h => by simp at h
  | o :: l, j, 0, o', hs, h => by
    obtain rfl : o = o' := by simpa using h
    exact hs.1
  | o :: l, j, i + 1, o', hs, h => by
    have := StepAll.get l (j + 1) i o' hs.2 (by simpa using h)
    rw [show j + 1 + i = j + (i + 1) from by omega] at this
    exact this

theorem okI_back (hok : okI A = true) {i : Nat} {o : Oper} (hi : A[i]? = some o) : (notSel o = true ∧ o.guard = none) ∧ ∀ x ∈ o.after, Region.binds .any x = true → x.on < i := by
  simp only [okI, List.all_eq_true, List.mem_range, Bool.and_eq_true] at hok
  have hil : i < A.size := (Array.getElem?_eq_some_iff.1 hi).1
  have h := hok i hil
  refine ⟨?_, fun x hx hb => ?_⟩
  · have h2 := h.2; rw [hi] at h2; simp only [Bool.and_eq_true] at h2; exact ⟨h2.1, by simpa using h2.2⟩
  · have h1 := h.1 x (by simp [edges, hi]; exact hx)
    simp only [Bool.or_eq_true, Bool.not_eq_true'] at h1
    rcases h1 with h1 | h1
    · simp [binds, hb] at h1
    · exact (Nat.blt_eq).mp h1

theorem wpAny_of_I {r : Option Nat} {ds : List Nat} {Q : Exit → Act → World → Prop} {I : (Nat → Bool) → Env → World → Prop} (hok : okI A = true) (step : StepAll P n A I 0 A.toList)
    (hend : ∀ L e w, (∀ j, j < A.size → L j = true) → I L e w → Q .normal (fr n e ds) w) :
    ∀ (fuel : Nat) (listed : Array Bool) (e : Env) (w : World), listed.size = A.size → (rem listed (idx 0 A.toList)).length = fuel → I (fun k => listed.getD k false) e w →
      wpAnyIn (Fd r) 0 P .any A Q fuel listed (fr n e ds) w := by
  intro fuel
  induction fuel with
  | zero =>
    intro listed e w hsz hf h
    have hnil : rem listed (idx 0 A.toList) = [] := List.length_eq_zero_iff.1 hf
    have hall : ∀ i o, A[i]? = some o → listed.getD i true = true := by
      intro i o ho
      apply Classical.byContradiction
      intro hn
      have : (i, o) ∈ rem listed (idx 0 A.toList) := List.mem_filter.2 ⟨(mem_idx _ _ _ _).2 ⟨Nat.zero_le _, by simpa using ho⟩, by simpa using hn⟩
      rw [hnil] at this
      simp at this
    refine ⟨?_, hend _ e w (fun j hj => ?_) h⟩
    · apply List.eq_nil_iff_forall_not_mem.2
      intro i hi
      obtain ⟨hu, o, ho, _⟩ := mem_ready.1 hi
      have := hall i o ho
      rw [hu] at this; cases this
    · show listed.getD j false = true
      rw [← getD_bool _ _ (by omega)]
      exact hall j A[j] (by simp [hj])
  | succ fuel ih =>
    intro listed e w hsz hf h
    refine ⟨fun hr => ?_, fun i hi => ?_⟩
    · exfalso
      obtain ⟨⟨i, o⟩, l, hl⟩ : ∃ p l, rem listed (idx 0 A.toList) = p :: l := by
        cases hx : rem listed (idx 0 A.toList) with
        | nil => rw [hx] at hf; simp at hf
        | cons p l => exact ⟨p, l, rfl⟩
      have hm : (i, o) ∈ rem listed (idx 0 A.toList) := by rw [hl]; simp
      obtain ⟨hm1, hm2⟩ := List.mem_filter.1 hm
      have ho : A[i]? = some o := by simpa using ((mem_idx _ _ _ _).1 hm1).2
      have hil : i < A.size := (Array.getElem?_eq_some_iff.1 ho).1
      have key : ∀ i, i < A.size → listed.getD i true = false → ∃ k, k ∈ Region.ready .any A listed := by
        intro i
        induction i using Nat.strongRecOn with
        | _ i ih2 =>
          intro hil hu
          by_cases hall : ∀ o, A[i]? = some o → ∀ x ∈ o.after, Region.binds .any x = true → listed.getD x.on false = true
          · exact ⟨i, mem_ready.2 ⟨hu, A[i], by simp [hil], hall _ (by simp [hil])⟩⟩
          · have hall' : ∃ o, A[i]? = some o ∧ ∃ x, x ∈ o.after ∧ Region.binds .any x = true ∧ listed.getD x.on false ≠ true := by
              apply Classical.byContradiction
              intro hno
              exact hall fun o ho x hx hb => Classical.byContradiction fun hn => hno ⟨o, ho, x, hx, hb, hn⟩
            obtain ⟨o, ho, x, hx, hb, hn⟩ := hall'
            have hlt := (okI_back hok ho).2 x hx hb
            have hxs : x.on < A.size := by omega
            refine ih2 x.on hlt hxs ?_
            rw [getD_bool _ _ (by omega)]
            simpa using hn
      obtain ⟨k, hk⟩ := key i hil (by simpa using hm2)
      rw [hr] at hk
      simp at hk
    · obtain ⟨hu, o, ho, hed⟩ := mem_ready.1 hi
      have hil : i < A.size := (Array.getElem?_eq_some_iff.1 ho).1
      obtain ⟨l1, l2, hs, hl1, hl2⟩ := idx_split A.toList 0 i o ((mem_idx _ _ _ _).2 ⟨Nat.zero_le _, by simpa using ho⟩)
      obtain ⟨hr1, hr2⟩ := rem_set (o := o) (by omega) hu hl1 hl2
      rw [← hs] at hr1 hr2
      have hsz' : (listed.setIfInBounds i true).size = A.size := by simpa using hsz
      have hf' : (rem (listed.setIfInBounds i true) (idx 0 A.toList)).length = fuel := by
        rw [hr1] at hf; rw [hr2]; simp at hf ⊢; omega
      have hL : (fun k => (listed.setIfInBounds i true).getD k false) = fun k => k == i || listed.getD k false := by
        funext k
        by_cases hki : k = i
        · subst hki
          rw [Array.getD_eq_getD_getElem?, Array.getElem?_setIfInBounds_self_of_lt (by omega)]; simp
        · rw [Array.getD_eq_getD_getElem?, Array.getElem?_setIfInBounds_ne (Ne.symm hki), ← Array.getD_eq_getD_getElem?]; simp [hki]
      have hLi : listed.getD i false = false := by rw [← getD_bool _ _ (by omega)]; exact hu
      have hdep : ((edges A i).all fun x => !binds x || listed.getD x.on false) = true := by
        rw [List.all_eq_true]
        intro x hx
        have hx : x ∈ o.after := by simpa [edges, ho] using hx
        cases hb : Region.binds .any x with
        | false => simp [binds, hb]
        | true => simp only [Bool.or_eq_true]; exact .inr (hed x hx hb)
      have hop := StepAll.get A.toList 0 i o step (by simpa using ho) (fun k => listed.getD k false) e w (by simpa using hLi) (by rw [Nat.zero_add]; exact hdep) h
      rw [Nat.zero_add] at hop
      obtain ⟨⟨hn1, hn2⟩, _⟩ := okI_back hok ho
      simp only [Flow, Region.wanted, hn2, if_true] at hop
      unfold wpOpIn
      rw [ho]
      simp only
      rw [show Region.wanted o (yielded A (fr n e ds).tmps) = true from by simp [Region.wanted, hn2], if_pos rfl]
      refine wpIn_of_OpW (notSel_noDefer hn1) hop fun v w' hv => ?_
      rw [fr_put]
      exact ih _ _ w' hsz' hf' (by rw [hL]; exact hv)

theorem W.regionI {r : Option Nat} {q : Post} {ds : List Nat} {e : Env} {w : World} {id : Nat} {ops : List Oper} (I : (Nat → Bool) → Env → World → Prop) (hm : P.follows .mixedOrders = true) (hok : okI ops.toArray = true)
    (h0 : ∀ w0, Chg [] w w0 → w0.heap = w.heap → I (fun _ => false) e w0) (step : StepAll P n ops.toArray I 0 ops)
    (hend : ∀ L e w, (∀ j, j < ops.length → L j = true) → I L e w → q.nrm ds e w) : W P n r (.region id ops.toArray true) q ds e w := by
  refine wpIn_region_any hm ?_
  have h' := h0 { w with drawn := w.drawn + 1 } (Chg.drew [] w _) rfl
  refine wpAny_of_I hok step (fun L e w hL hI => ⟨ds, e, rfl, hend L e w (by simpa using hL) hI⟩) _ _ e _ (by simp) ?_ ?_
  · have : rem (Array.replicate ops.toArray.size false) (idx 0 ops.toArray.toList) = idx 0 ops := by
      apply List.filter_eq_self.2
      rintro ⟨i, o⟩ hm
      have hx := ((mem_idx _ _ _ _).1 hm).2
      have hil : i < ops.length := by simpa using (List.getElem?_eq_some_iff.1 hx).1
      simp [Array.getD_eq_getD_getElem?, hil]
    rw [this]
    have hlen : ∀ (l : List Oper) k, (idx k l).length = l.length := by
      intro l; induction l with
      | nil => intro k; rfl
      | cons x l ih => intro k; simp [idx, ih]
    simp [hlen]
  · have : (fun k => (Array.replicate ops.toArray.size false).getD k false) = fun _ => false := by
      funext k
      rw [Array.getD_eq_getD_getElem?]
      by_cases hk : k < ops.length <;> simp [hk]
    rw [this]; exact h'

end
end Sg
end Go.Proofs.YtkoejelglinmnaaGreat

/-
  The program logic: slices that are written out.
-/
namespace Go.Proofs.YtkoejelglinmnaaGreat
namespace Sg

section
variable {P : Program} {n : Nat} {ops rest : List Oper} {A : Array Oper} {e : Env} {w : World} {K : Env → World → Prop} {d : Option Tmp} {ty : TypeId} {pos : String} {aft : Array Edge}

theorem fill_congr {f g : Nat → Option (Nat × Nat)} (h : ∀ i p, f i = some p → g i = some p) : ∀ (parts : List (Nat × Value)) (cells cs : Array Value), Instr.fill f cells parts = some cs → Instr.fill g cells parts = some cs
  | [], _, _, hf => hf
  | (i, v) :: rest, cells, cs, hf => by
    simp only [Instr.fill] at hf ⊢
    cases hi : f i with
    | none => rw [hi] at hf; cases hf
    | some p =>
      obtain ⟨off, size⟩ := p
      rw [hi] at hf
      rw [h i _ hi]
      simp only at hf ⊢
      split at hf
      · cases hf
      · rename_i hc
        rw [if_neg hc]
        exact fill_congr h rest _ cs hf

/-- A slice that is written out. -/
theorem Flow.buildSliceL {t el : TypeId} {sz by_ m : Nat} {z : Value} {xs : Array (Nat × Operand)} {l : List (Nat × Operand)} {zs cs : List Value} (ht : SliceTy P t sz by_ z) (hu : P.underlying t = some (.slice el)) (h0 : m * sz ≠ 0) (hle : m * sz ≤ 1000)
    (hl : xs = l.toArray) (hzs : ((Array.range (m * sz)).map fun x => z.cells[x % z.cells.size]!) = zs.toArray) (hf : fillL ((List.range m).map fun i => (i * sz, sz)) zs (l.map fun p => (p.1, ev n e p.2)) = some cs)
    (h : ∀ w', Chg [] w w' → w'.heap.size = w.heap.size + 1 → Blk w' w.heap.size cs el → Flow P n A rest (updO e d (.slice (some ⟨w.heap.size, 0, none⟩) m m)) w' K) :
    Flow P n A (⟨d, .buildSlice t m xs, ty, pos, aft, none⟩ :: rest) e w K := by
  subst hl
  obtain ⟨el', i, hu', hi, hs', hby, hz⟩ := ht.ex
  rw [hu] at hu'
  obtain rfl : el = el' := by simpa using hu'
  refine Flow.val rfl (v := .slice (some ⟨w.heap.size, 0, none⟩) m m) (w' := w.alloc (.cells cs.toArray el)) ?_ (h _ (Chg.alloc _ _ _) (by simp) (Blk.alloc w cs el))
  have hfl := fill_list _ _ _ _ hf
  have hfc := fill_congr (g := fun i => some (i * sz, sz)) (fun i p hp => by
    simp only [List.getElem?_toArray, List.getElem?_map] at hp
    by_cases hi : i < m
    · rw [List.getElem?_range hi] at hp; simpa using hp
    · rw [List.getElem?_eq_none (by simp; omega)] at hp; cases hp) _ _ _ hfl
  rw [← hzs] at hfc
  have h24 : ¬ (2 ^ 24 < m * sz) := by omega
  simp only [execOp, Instr.buildSlice, Sem.run_bind, Go.run_underlying hu, Result.andThen, run_sizeOf hi, hs', gt_iff_lt, h24, if_false, h0, run_zeroValue hi hz, List.map_toArray, pure, Sem.run]
  simp [hfc, Sem.run_bind, run_newRow, Result.andThen, pure, Sem.run]

end
end Sg
end Go.Proofs.YtkoejelglinmnaaGreat

/-
  Plain data, second part: what each function of the program computes.
-/
namespace Go.Proofs.YtkoejelglinmnaaGreat

/-! ### tours -/
def badClosed (days : Int) : Option Int → List Int → Bool
  | _, [] => false
  | prev, d :: l => !(decide (0 ≤ d ∧ d ≤ days - 1)) || (match prev with | none => false | some p => decide (d ≤ p)) || badClosed days (some d) l

def spanOk (days lo hi : Int) : Bool := decide (0 ≤ lo ∧ lo ≤ hi ∧ hi < days)

def flawErr (days : Int) : List Int → List Flaw → Int
  | _, [] => 0
  | had, f :: l =>
    if ¬ (1 ≤ f.id ∧ f.id ≤ 1099511627776) ∨ spanOk days f.lo f.hi = false ∨ ¬ (1 ≤ f.merit ∧ f.merit ≤ 1000) then 1
    else if f.id ∈ had then 6 else flawErr days (f.id :: had) l

/-- The first error of a tour. -/
def chk (t : Tour) : Int :=
  if ¬ (1 ≤ t.days ∧ t.days ≤ 60) then 1
  else if badClosed t.days none t.closed then 1
  else if 40 < t.flaws.length then 2
  else flawErr t.days [] t.flaws

structure Valid (t : Tour) : Prop where
  d1 : 1 ≤ t.days
  d2 : t.days ≤ 60
  cr : ∀ d ∈ t.closed, 0 ≤ d ∧ d < t.days
  cs : t.closed.Pairwise (· < ·)
  fn : t.flaws.length ≤ 40
  fi : ∀ f ∈ t.flaws, 1 ≤ f.id ∧ f.id ≤ 1099511627776
  fs : ∀ f ∈ t.flaws, 0 ≤ f.lo ∧ f.lo ≤ f.hi ∧ f.hi < t.days
  fm : ∀ f ∈ t.flaws, 1 ≤ f.merit ∧ f.merit ≤ 1000
  nd : (t.flaws.map (·.id)).Nodup

/-- What the walks need of a tour. -/
structure Small (t : Tour) : Prop where
  dl : 0 ≤ t.days
  dh : t.days ≤ 60
  cl : t.closed.length ≤ 1000
  fl : t.flaws.length ≤ 1000
  sp : ∀ f ∈ t.flaws, 0 ≤ f.lo ∧ f.hi < t.days
  me : ∀ f ∈ t.flaws, 0 ≤ f.merit ∧ f.merit ≤ 4194304

theorem badClosed_ok {days : Int} : ∀ {l : List Int} {prev : Option Int}, badClosed days prev l = false →
    (∀ d ∈ l, 0 ≤ d ∧ d < days) ∧ (∀ p, prev = some p → ∀ d ∈ l, p < d) ∧ l.Pairwise (· < ·)
  | [], _, _ => ⟨by simp, by simp, .nil⟩
  | d :: l, prev, h => by
    simp only [badClosed, Bool.or_eq_false_iff, Bool.not_eq_false', decide_eq_true_eq] at h
    obtain ⟨⟨h1, h2⟩, h3⟩ := h
    obtain ⟨i1, i2, i3⟩ := badClosed_ok h3
    refine ⟨?_, ?_, ?_⟩
    · intro x hx
      rcases List.mem_cons.1 hx with rfl | hx
      · omega
      · exact i1 x hx
    · rintro p rfl x hx
      simp only [decide_eq_false_iff_not] at h2
      rcases List.mem_cons.1 hx with rfl | hx
      · omega
      · have := i2 d rfl x hx; omega
    · exact List.pairwise_cons.2 ⟨fun x hx => i2 d rfl x hx, i3⟩

theorem flawErr_ok {days : Int} : ∀ {l : List Flaw} {had : List Int}, flawErr days had l = 0 →
    (∀ f ∈ l, 1 ≤ f.id ∧ f.id ≤ 1099511627776) ∧ (∀ f ∈ l, 0 ≤ f.lo ∧ f.lo ≤ f.hi ∧ f.hi < days) ∧ (∀ f ∈ l, 1 ≤ f.merit ∧ f.merit ≤ 1000) ∧ (l.map (·.id)).Nodup ∧ ∀ f ∈ l, f.id ∉ had
  | [], _, _ => ⟨by simp, by simp, by simp, by simp, by simp⟩
  | f :: l, had, h => by
    simp only [flawErr] at h
    split at h
    · cases h
    · rename_i h1
      split at h
      · cases h
      · rename_i h2
        obtain ⟨i1, i2, i3, i4, i5⟩ := flawErr_ok h
        simp only [not_or, Decidable.not_not, Bool.not_eq_false, spanOk, decide_eq_true_eq] at h1
        obtain ⟨a1, a2, a3⟩ := h1
        refine ⟨?_, ?_, ?_, ?_, ?_⟩
        · intro x hx; rcases List.mem_cons.1 hx with rfl | hx; exact a1; exact i1 x hx
        · intro x hx; rcases List.mem_cons.1 hx with rfl | hx; exact a2; exact i2 x hx
        · intro x hx; rcases List.mem_cons.1 hx with rfl | hx; exact a3; exact i3 x hx
        · rw [List.map_cons, List.nodup_cons]
          refine ⟨fun hm => ?_, i4⟩
          obtain ⟨g, hg, he⟩ := List.mem_map.1 hm
          exact i5 g hg (by rw [he]; exact List.mem_cons_self ..)
        · intro x hx
          rcases List.mem_cons.1 hx with rfl | hx
          · exact h2
          · exact fun hm => i5 x hx (List.mem_cons_of_mem _ hm)

theorem chk_valid {t : Tour} (h : chk t = 0) : Valid t := by
  unfold chk at h
  split at h
  · cases h
  · rename_i h1
    split at h
    · cases h
    · rename_i h2
      split at h
      · cases h
      · rename_i h3
        simp only [Decidable.not_not] at h1
        obtain ⟨c1, _, c3⟩ := badClosed_ok (by simpa using h2)
        obtain ⟨f1, f2, f3, f4, _⟩ := flawErr_ok h
        exact ⟨h1.1, h1.2, c1, c3, by omega, f1, f2, f3, f4⟩

theorem sorted_len : ∀ (l : List Int) (lo hi : Int), l.Pairwise (· < ·) → (∀ d ∈ l, lo ≤ d ∧ d < hi) → (l.length : Int) ≤ max 0 (hi - lo)
  | [], _, _, _, _ => by simp; omega
  | x :: l, lo, hi, hp, hr => by
    have hp' := List.pairwise_cons.1 hp
    have h := sorted_len l (x + 1) hi hp'.2 (fun d hd => ⟨by have := hp'.1 d hd; omega, (hr d (List.mem_cons_of_mem _ hd)).2⟩)
    have hx := hr x (by simp)
    simp only [List.length_cons]
    omega

theorem Valid.small {t : Tour} (h : Valid t) : Small t := by
  have hl := sorted_len t.closed 0 t.days h.cs h.cr
  have := h.d1; have := h.d2; have := h.fn
  exact ⟨by omega, h.d2, by omega, by omega, fun f hf => ⟨(h.fs f hf).1, (h.fs f hf).2.2⟩, fun f hf => ⟨by have := h.fm f hf; omega, by have := h.fm f hf; omega⟩⟩

/-! ### days for the flaws -/
/-- The place of the first flaw whose day is wrong; -1 if there is none. -/
def wrongS (closed : List Int) : Nat → List Flaw → List Int → List Int → Int
  | k, f :: fs, d :: on, tk =>
    if d = -1 then wrongS closed (k + 1) fs on tk
    else if (f.lo ≤ d ∧ d ≤ f.hi ∧ d ∉ closed) ∧ d ∉ tk then wrongS closed (k + 1) fs on (d :: tk)
    else k
  | _, _, _, _ => -1

def worthS : List Flaw → List Int → Int
  | f :: fs, d :: on => (if 0 ≤ d then f.merit else 0) + worthS fs on
  | _, _ => 0

/-- The place of the flaw with an ID; -1 if there is none. -/
def findS (id : Int) : Nat → List Flaw → Int
  | _, [] => -1
  | k, f :: fs => if f.id = id then k else findS id (k + 1) fs

/-- The places of a list of flaws; none unless the IDs are one. -/
def listedS (fl : List Flaw) : Option Int → List Int → Option (List Int)
  | _, [] => some []
  | prev, id :: ids =>
    if (decide (findS id 0 fl < 0) || (match prev with | none => false | some p => decide (id ≤ p))) then none
    else (listedS fl (some id) ids).map (findS id 0 fl :: ·)

def flawAt (t : Tour) (i : Int) : Flaw := t.flaws.getD i.toNat ⟨0, 0, 0, 0⟩

/-- How many of some flaws lie within a span. -/
def withinS (t : Tour) (lo hi : Int) (l : List Int) : Nat := (l.filter fun i => decide (lo ≤ (flawAt t i).lo ∧ (flawAt t i).hi ≤ hi)).length

def roomS (t : Tour) (lo hi : Int) : Nat := (opens t.closed lo hi).length

def jamS (t : Tour) (l : List Int) (lo hi : Int) : Bool := decide (roomS t lo hi < withinS t lo hi l)

/-! ### giving a flaw a day -/
/-- The days that a flaw may have. -/
def adjT (t : Tour) (i : Int) : List Int := opens t.closed (flawAt t i).lo (flawAt t i).hi

def giveScan (go : Int → List Int → List Int → Bool × List Int × List Int) (i : Int) : List Int → List Int → List Int → Bool × List Int × List Int
  | [], has, tr => (false, has, tr)
  | d :: ds, has, tr =>
    if d ∈ tr then giveScan go i ds has tr
    else if has.getD d.toNat (-1) < 0 then (true, has.set d.toNat i, d :: tr)
    else
      let r := go (has.getD d.toNat (-1)) has (d :: tr)
      if r.1 then (true, r.2.1.set d.toNat i, r.2.2) else giveScan go i ds r.2.1 r.2.2

def give (adj : Int → List Int) : Nat → Int → List Int → List Int → Bool × List Int × List Int
  | 0, _, has, tr => (false, has, tr)
  | f + 1, i, has, tr => giveScan (give adj f) i (adj i) has tr

/-- One more flaw: which flaw has each day then, if it can be. -/
def addS (adj : Int → List Int) (f : Nat) (has : List Int) (i : Int) : Option (List Int) :=
  let r := give adj f i has []
  if r.1 then some r.2.1 else none

/-! ### orders -/
/-- Where a thing is put: behind all, ahead of those at the end that it goes ahead of. -/
def putAt (less : Int → Int → Bool) (i : Int) (l : List Int) : Nat := l.length - (l.reverse.takeWhile fun j => less i j).length

def putIn (less : Int → Int → Bool) (i : Int) (l : List Int) : List Int := l.take (putAt less i l) ++ i :: l.drop (putAt less i l)

def sortS (less : Int → Int → Bool) (l : List Int) : List Int := l.foldl (fun acc x => putIn less x acc) []

def places (n : Nat) : List Int := (List.range n).map fun (k : Nat) => (k : Int)

def orderS (less : Int → Int → Bool) (n : Nat) : List Int := sortS less (places n)

def lessW (t : Tour) (i j : Int) : Bool := decide ((flawAt t j).merit < (flawAt t i).merit)

/-! ### best mendings -/
def fuel : Nat := 130

def addAll (adj : Int → List Int) (has : List Int) : List Int → List Int
  | [] => has
  | i :: l => addAll adj ((addS adj fuel has i).getD has) l

def noDays (t : Tour) : List Int := List.replicate t.days.toNat (-1)

def bestHas (t : Tour) : List Int := addAll (adjT t) (noDays t) (orderS (lessW t) t.flaws.length)

def meritOf (t : Tour) (has : List Int) : Int := (has.map fun i => if 0 ≤ i then (flawAt t i).merit else 0).sum

def meritS (t : Tour) : Int := meritOf t (bestHas t)

def onF : List Int → Nat → List Int → List Int
  | out, _, [] => out
  | out, d, i :: has => onF (if 0 ≤ i then out.set i.toNat d else out) (d + 1) has

def onOf (n : Nat) (has : List Int) : List Int := onF (List.replicate n (-1)) 0 has

def fullS (t : Tour) (on : List Int) (lo hi merit : Int) : Bool :=
  ((List.range on.length).all fun i => !(decide (0 ≤ on.getD i (-1) ∧ lo ≤ (flawAt t i).lo ∧ (flawAt t i).hi ≤ hi)) || decide (merit ≤ (flawAt t i).merit)) &&
  decide (((List.range on.length).filter fun i => decide (0 ≤ on.getD i (-1) ∧ lo ≤ (flawAt t i).lo ∧ (flawAt t i).hi ≤ hi)).length = roomS t lo hi)

/-- All spans of a tour, by their first and then by their last day. -/
def spansS (t : Tour) : List (Int × Int) :=
  (List.range t.days.toNat).flatMap fun lo => (List.range (t.days.toNat - lo)).map fun (k : Nat) => ((lo : Int), ((lo + k : Nat) : Int))

def closedS (t : Tour) (day : Int) : Tour :=
  { t with closed := if day ∈ t.closed then t.closed else t.closed.filter (· < day) ++ day :: t.closed.filter (fun d => !decide (d < day)) }

def withoutS (t : Tour) (l : List Int) : Tour :=
  { t with flaws := ((List.range t.flaws.length).filter fun (i : Nat) => !(l.contains (i : Int))).map fun (i : Nat) => flawAt t (i : Int) }

def onS (t : Tour) (i day : Int) : Int := (flawAt t i).merit + meritS (closedS (withoutS t [i]) day)

def daysOfS (t : Tour) (i : Int) : List Int := (opens t.closed (flawAt t i).lo (flawAt t i).hi).filter fun d => decide (onS t i d = meritS t)

end Go.Proofs.YtkoejelglinmnaaGreat

/-
  Plain facts about giving a flaw a day.
-/
namespace Go.Proofs.YtkoejelglinmnaaGreat

/-- n days, m flaws: which flaw has each day; the days that were tried. -/
structure GInv (n m : Nat) (has tr : List Int) : Prop where
  len : has.length = n
  ok : ∀ x ∈ has, x = -1 ∨ (0 ≤ x ∧ x < m)
  nd : tr.Nodup
  rg : ∀ d ∈ tr, 0 ≤ d ∧ d < n

theorem GInv.get {n m : Nat} {has tr : List Int} (h : GInv n m has tr) {d : Int} (hd : 0 ≤ d) (hn : d < n) (h0 : ¬ has.getD d.toNat (-1) < 0) : 0 ≤ has.getD d.toNat (-1) ∧ has.getD d.toNat (-1) < m := by
  have hl : d.toNat < has.length := by rw [h.len]; omega
  have he : has.getD d.toNat (-1) = has[d.toNat] := by rw [List.getD_eq_getElem?_getD]; simp [hl]
  rw [he] at h0 ⊢
  rcases h.ok _ (List.getElem_mem hl) with e | e
  · rw [e] at h0; exact absurd (by decide) h0
  · exact e

theorem GInv.set {n m : Nat} {has tr : List Int} (h : GInv n m has tr) {i : Int} (hi : 0 ≤ i ∧ i < m) (k : Nat) : GInv n m (has.set k i) tr :=
  ⟨by simp [h.len], fun x hx => by
    rcases List.mem_or_eq_of_mem_set hx with hx | rfl
    · exact h.ok x hx
    · exact .inr hi, h.nd, h.rg⟩

theorem GInv.cons {n m : Nat} {has tr : List Int} (h : GInv n m has tr) {d : Int} (hd : 0 ≤ d ∧ d < n) (hn : d ∉ tr) : GInv n m has (d :: tr) :=
  ⟨h.len, h.ok, List.nodup_cons.2 ⟨hn, h.nd⟩, fun x hx => by
    rcases List.mem_cons.1 hx with rfl | hx
    · exact hd
    · exact h.rg x hx⟩

theorem giveScan_cons (go : Int → List Int → List Int → Bool × List Int × List Int) (i d : Int) (ds has tr : List Int) : giveScan go i (d :: ds) has tr =
    if d ∈ tr then giveScan go i ds has tr
    else if has.getD d.toNat (-1) < 0 then (true, has.set d.toNat i, d :: tr)
    else if (go (has.getD d.toNat (-1)) has (d :: tr)).1 then (true, (go (has.getD d.toNat (-1)) has (d :: tr)).2.1.set d.toNat i, (go (has.getD d.toNat (-1)) has (d :: tr)).2.2)
      else giveScan go i ds (go (has.getD d.toNat (-1)) has (d :: tr)).2.1 (go (has.getD d.toNat (-1)) has (d :: tr)).2.2 := rfl

theorem give_inv {n m : Nat} {adj : Int → List Int} (hadj : ∀ i : Int, 0 ≤ i ∧ i < m → ∀ d ∈ adj i, 0 ≤ d ∧ d < n) : ∀ (f : Nat) (i : Int) (has tr : List Int), 0 ≤ i ∧ i < m → GInv n m has tr →
    GInv n m (give adj f i has tr).2.1 (give adj f i has tr).2.2 ∧ tr.length ≤ (give adj f i has tr).2.2.length
  | 0, i, has, tr, _, h => ⟨h, Nat.le_refl _⟩
  | f + 1, i, has, tr, hi, h => by
    have key : ∀ (ds has tr : List Int), (∀ d ∈ ds, 0 ≤ d ∧ d < n) → GInv n m has tr →
        GInv n m (giveScan (give adj f) i ds has tr).2.1 (giveScan (give adj f) i ds has tr).2.2 ∧ tr.length ≤ (giveScan (give adj f) i ds has tr).2.2.length := by
      intro ds
      induction ds with
      | nil => intro has tr _ h; exact ⟨h, Nat.le_refl _⟩
      | cons d ds ih =>
        intro has tr hd h
        have hdd := hd d (by simp)
        have hds : ∀ x ∈ ds, 0 ≤ x ∧ x < n := fun x hx => hd x (List.mem_cons_of_mem _ hx)
        rw [giveScan_cons]
        split
        · exact ih has tr hds h
        · rename_i hnt
          split
          · exact ⟨(h.cons hdd hnt).set hi _, by simp⟩
          · rename_i h0
            obtain ⟨g1, g2⟩ := give_inv hadj f _ has (d :: tr) (h.get hdd.1 hdd.2 h0) (h.cons hdd hnt)
            simp only [List.length_cons] at g2
            split
            · exact ⟨g1.set hi _, by simp only; omega⟩
            · obtain ⟨k1, k2⟩ := ih _ _ hds g1
              exact ⟨k1, by omega⟩
    exact key _ has tr (hadj i hi) h

/-- Numbers below n, no two alike: at most n. -/
theorem nodup_len {α : Type} [DecidableEq α] : ∀ {l1 l2 : List α}, l1.Nodup → (∀ x ∈ l1, x ∈ l2) → l1.length ≤ l2.length := by
  intro l1
  induction l1 with
  | nil => intro l2 _ _; simp
  | cons a l ih =>
    intro l2 hn hs
    have ha : a ∈ l2 := hs a (by simp)
    have hn' := List.nodup_cons.1 hn
    have h := ih (l2 := l2.erase a) hn'.2 (fun x hx => by
      have hx2 := hs x (List.mem_cons_of_mem _ hx)
      have hne : x ≠ a := fun e => hn'.1 (e ▸ hx)
      exact (List.mem_erase_of_ne hne).2 hx2)
    have he := List.length_erase_of_mem ha
    have hp : 0 < l2.length := List.length_pos_of_mem ha
    simp only [List.length_cons]
    omega

theorem GInv.le {n m : Nat} {has tr : List Int} (h : GInv n m has tr) : tr.length ≤ n := by
  have := nodup_len (l2 := (List.range n).map fun (k : Nat) => (k : Int)) h.nd (fun x hx => List.mem_map.2 ⟨x.toNat, List.mem_range.2 (by have := h.rg x hx; omega), by have := h.rg x hx; omega⟩)
  simpa using this

end Go.Proofs.YtkoejelglinmnaaGreat

/-
  Plain facts about insertion.
-/
namespace Go.Proofs.YtkoejelglinmnaaGreat

theorem putAt_le (less : Int → Int → Bool) (x : Int) (l : List Int) : putAt less x l ≤ l.length := Nat.sub_le _ _

theorem putIn_len (less : Int → Int → Bool) (x : Int) (l : List Int) : (putIn less x l).length = l.length + 1 := by
  have := putAt_le less x l
  simp only [putIn, List.length_append, List.length_take, List.length_cons, List.length_drop]; omega

theorem sortS_snoc (less : Int → Int → Bool) (l : List Int) (x : Int) : sortS less (l ++ [x]) = putIn less x (sortS less l) := by simp [sortS, List.foldl_append]

theorem sortS_len (less : Int → Int → Bool) (l : List Int) : (sortS less l).length = l.length := by
  have key : ∀ (l acc : List Int), (l.foldl (fun acc x => putIn less x acc) acc).length = acc.length + l.length := by
    intro l
    induction l with
    | nil => intro acc; simp
    | cons x l ih => intro acc; rw [List.foldl_cons, ih, putIn_len, List.length_cons]; omega
  have := key l []
  simpa [sortS] using this

/-- What the inner loop of the insertion has found. -/
theorem putIn_at {less : Int → Int → Bool} {x : Int} {l : List Int} {j : Nat} (hj : j ≤ l.length) (h1 : ∀ y ∈ l.drop j, less x y = true) (h2 : ∀ (h : 0 < j), less x (l[j - 1]'(by omega)) = false) :
    putIn less x l = l.take j ++ x :: l.drop j := by
  have h : putAt less x l = j := by
    unfold putAt
    have hl : l = l.take j ++ l.drop j := (List.take_append_drop j l).symm
    have hr : l.reverse = (l.drop j).reverse ++ (l.take j).reverse := by rw [← List.reverse_append, List.take_append_drop]
    rw [hr, List.takeWhile_append_of_pos (fun y hy => h1 y (List.mem_reverse.1 hy))]
    have h3 : (l.take j).reverse.takeWhile (fun y => less x y) = [] := by
      by_cases h0 : 0 < j
      · have ht : l.take j = l.take (j - 1) ++ [l[j - 1]'(by omega)] := by
          obtain ⟨k, rfl⟩ : ∃ k, j = k + 1 := ⟨j - 1, by omega⟩
          have hk : k < l.length := by omega
          simp only [Nat.add_sub_cancel]
          rw [List.take_add_one]
          simp [hk]
        rw [ht, List.reverse_append, List.reverse_singleton, List.singleton_append, List.takeWhile_cons, h2 h0]
        rfl
      · have : j = 0 := by omega
        subst this; simp
    rw [h3]
    simp; omega
  rw [putIn, h]

theorem swap_list {α : Type} (A B : List α) (y x : α) : ((A ++ y :: x :: B).set (A.length + 1) y).set A.length x = A ++ x :: y :: B := by
  rw [List.set_append_right _ _ (by omega), List.set_append_right _ _ (by omega)]
  simp

theorem places_len (n : Nat) : (places n).length = n := by simp [places]

theorem mem_putIn {less : Int → Int → Bool} {x y : Int} {l : List Int} : y ∈ putIn less x l ↔ y = x ∨ y ∈ l := by
  simp only [putIn, List.mem_append, List.mem_cons]
  constructor
  · rintro (h | h | h)
    · exact .inr (List.mem_of_mem_take h)
    · exact .inl h
    · exact .inr (List.mem_of_mem_drop h)
  · rintro (h | h)
    · exact .inr (.inl h)
    · have : y ∈ l.take (putAt less x l) ++ l.drop (putAt less x l) := by rw [List.take_append_drop]; exact h
      rcases List.mem_append.1 this with h | h
      · exact .inl h
      · exact .inr (.inr h)

theorem mem_sortS {less : Int → Int → Bool} {y : Int} (l : List Int) : y ∈ sortS less l ↔ y ∈ l := by
  have key : ∀ (l acc : List Int), y ∈ l.foldl (fun acc x => putIn less x acc) acc ↔ y ∈ acc ∨ y ∈ l := by
    intro l
    induction l with
    | nil => intro acc; simp
    | cons x l ih =>
      intro acc
      rw [List.foldl_cons, ih, mem_putIn, List.mem_cons]
      constructor
      · rintro ((h | h) | h)
        · exact .inr (.inl h)
        · exact .inl h
        · exact .inr (.inr h)
      · rintro (h | h | h)
        · exact .inl (.inr h)
        · exact .inl (.inl h)
        · exact .inr h
  have := key l []
  simpa [sortS] using this

theorem mem_places {n : Nat} {y : Int} : y ∈ places n ↔ 0 ≤ y ∧ y < n := by
  simp only [places, List.mem_map, List.mem_range]
  constructor
  · rintro ⟨k, h, rfl⟩; omega
  · intro h; exact ⟨y.toNat, by omega, by omega⟩

end Go.Proofs.YtkoejelglinmnaaGreat

/-
  Contracts of small functions.
-/
namespace Go.Proofs.YtkoejelglinmnaaGreat
open Sg
set_option maxRecDepth 100000

theorem within_ok (w : World) (a lo hi : Int) :
    Ret Tryz.prog 111 #[.int .i64 a, .int .i64 lo, .int .i64 hi] w fun v w' => v = .bool (decide (lo ≤ a ∧ a ≤ hi)) ∧ Chg [] w w' := by
  by_cases h : lo ≤ a
  · refine Ret.of_W (n := 15) Tryz.func111 rfl rfl (Nat.le_of_ble_eq_true rfl) ?_
    refine W.seq fun K hK => ?_
    refine W.region (by rfl) ?_
    refine Flow.assignC ?_
    refine hK _ _ _ ?_
    clear hK K
    refine W.seq fun K hK => ?_
    refine W.region (by rfl) ?_
    refine Flow.move (v := .int _ _) rfl ?_
    refine Flow.move (v := .int _ _) rfl ?_
    refine Flow.leqD (c := true) rfl rfl (decide_eq_true (by omega)) ?_
    refine Flow.move (v := .bool _) rfl ?_
    refine Flow.on rfl rfl ?_
    refine Flow.move (v := .int _ _) rfl ?_
    refine Flow.on rfl rfl ?_
    refine Flow.move (v := .int _ _) rfl ?_
    refine Flow.on rfl rfl ?_
    refine Flow.leq rfl rfl ?_
    refine Flow.pickT rfl rfl ?_
    refine Flow.assign (v := .bool _) rfl ?_
    refine hK _ _ _ ?_
    clear hK K
    refine W.ret ⟨_, res1 rfl (v := .bool _) rfl, ?_, Chg.refl _ _⟩
    simp [h]
  · refine Ret.of_W (n := 15) Tryz.func111 rfl rfl (Nat.le_of_ble_eq_true rfl) ?_
    refine W.seq fun K hK => ?_
    refine W.region (by rfl) ?_
    refine Flow.assignC ?_
    refine hK _ _ _ ?_
    clear hK K
    refine W.seq fun K hK => ?_
    refine W.region (by rfl) ?_
    refine Flow.move (v := .int _ _) rfl ?_
    refine Flow.move (v := .int _ _) rfl ?_
    refine Flow.leqD (c := false) rfl rfl (decide_eq_false (by omega)) ?_
    refine Flow.move (v := .bool _) rfl ?_
    refine Flow.off (c := false) rfl rfl rfl ?_
    refine Flow.off (c := false) rfl rfl rfl ?_
    refine Flow.off (c := false) rfl rfl rfl ?_
    refine Flow.pickF rfl rfl ?_
    refine Flow.assign (v := .bool _) rfl ?_
    refine hK _ _ _ ?_
    clear hK K
    refine W.ret ⟨_, res1 rfl (v := .bool _) rfl, ?_, Chg.refl _ _⟩
    simp [h]

end Go.Proofs.YtkoejelglinmnaaGreat

/-
  Contracts: slices.Index, slices.Contains.
-/
namespace Go.Proofs.YtkoejelglinmnaaGreat
open Sg
set_option maxRecDepth 100000

theorem index_ok (w : World) (a : Option Addr) (c : Nat) (l : List Int) (x : Int) (hl : IL w a l) (hn : l.length ≤ 1000000) :
    Ret Tryz.prog 155 #[.slice a l.length c, .int .i64 x] w fun v w' => (∃ i : Int, v = .int .i64 i ∧ (0 ≤ i ↔ x ∈ l)) ∧ Chg [] w w' := by
  refine Ret.of_W (n := 19) Tryz.func155 rfl rfl (Nat.le_of_ble_eq_true rfl) ?_
  refine W.seq fun K hK => ?_
  refine W.region (by rfl) ?_
  refine Flow.assignC ?_
  refine hK _ _ _ ?_
  clear hK K
  refine W.seq fun K0 hK0 => ?_
  refine W.seq fun K hK => ?_
  refine W.region (by rfl) ?_
  refine Flow.move (v := .slice _ _ _) rfl ?_
  refine Flow.len rfl Tf.us_22 rfl rfl ?_
  refine Flow.moveC ?_
  refine hK _ _ _ ?_
  clear hK K
  refine W.block ?_
  refine W.loop (ι := Nat) (fun k ds e w' => ds = [] ∧ k ≤ l.length ∧ AllAt e [(0, .slice a l.length c), (1, .int .i64 x), (7, .int .i64 l.length), (8, .int .i64 k)] ∧ Chg [] w w' ∧ ∀ j (h : j < l.length), j < k → l[j] ≠ x)
    (fun k => l.length - k) (i0 := 0) ⟨rfl, by omega, ⟨rfl, rfl, rfl, rfl, trivial⟩, Chg.refl _ _, fun _ _ h => absurd h (by omega)⟩ ?_
  rintro k ds e w' ⟨rfl, hk, hE, hc, hno⟩
  obtain ⟨e, rfl⟩ : ∃ e0, e = putL e0 _ := ⟨e, putL_self hE⟩
  clear hE
  refine W.seq fun K hK => ?_
  refine W.region (by rfl) ?_
  refine Flow.lss rfl rfl ?_
  refine hK _ _ _ ?_
  clear hK K
  refine W.seq fun K2 hK2 => ?_
  refine W.cond rfl (fun h => W.skip (hK2 _ _ _ ?_)) (fun h => W.exit ?_)
  · have hlt : k < l.length := by simpa using h
    obtain ⟨b, o, rfl, hcell⟩ := (hl.ext hc).get hlt
    refine W.seq fun K3 hK3 => ?_
    refine W.block ?_
    refine W.seq fun K hK => ?_
    refine W.region (by rfl) ?_
    refine Flow.move (v := .int _ _) rfl ?_
    refine Flow.assign (v := .int _ _) rfl ?_
    refine hK _ _ _ ?_
    clear hK K
    refine W.seq fun K hK => ?_
    refine W.region (by rfl) ?_
    refine Flow.move (v := .int _ _) rfl ?_
    refine Flow.move (v := .slice _ _ _) rfl ?_
    refine Flow.move (v := .int _ _) rfl ?_
    refine Flow.indexAddr1 Tf.sl_22 rfl rfl (by omega) (by omega) ?_
    refine Flow.load1 Tf.ty_3 rfl (hcell k hlt) ?_
    refine Flow.eql rfl rfl ?_
    refine hK _ _ _ ?_
    clear hK K
    refine W.cond rfl (fun h => ?_) (fun h => W.skip (hK3 _ _ _ ?_))
    · refine W.seq fun K hK => ?_
      refine W.region (by rfl) ?_
      refine Flow.move (v := .int _ _) rfl ?_
      refine Flow.assign (v := .int _ _) rfl ?_
      refine hK _ _ _ ?_
      clear hK K
      refine W.ret ⟨_, res1 rfl (v := .int _ _) rfl, ⟨_, rfl, ?_⟩, hc⟩
      have hx : x = l[k] := by simpa using h
      exact ⟨fun _ => hx ▸ List.getElem_mem hlt, fun _ => by omega⟩
    · have hx : x ≠ l[k] := by simpa using h
      refine W.region (by rfl) ?_
      refine Flow.add rfl rfl (by omega) (by omega) ?_
      refine Flow.move (v := .int _ _) rfl ?_
      refine Flow.nil ⟨k + 1, by omega, rfl, by omega, ⟨rfl, rfl, rfl, rfl, trivial⟩, hc, fun j hj hjk => ?_⟩
      by_cases e : j = k
      · subst e; exact fun h => hx h.symm
      · exact hno j hj (by omega)
  · have hge : k = l.length := by simp at h; omega
    refine hK0 _ _ _ ?_
    refine W.seq fun K hK => ?_
    refine W.region (by rfl) ?_
    refine Flow.assignC ?_
    refine hK _ _ _ ?_
    clear hK K
    refine W.ret ⟨_, res1 rfl (v := .int _ _) rfl, ⟨_, rfl, ?_⟩, hc⟩
    refine ⟨fun h => by simp at h, fun h => ?_⟩
    obtain ⟨j, hj, he⟩ := List.getElem_of_mem h
    exact absurd he (hno j hj (by omega))

theorem contains_ok (w : World) (a : Option Addr) (c : Nat) (l : List Int) (x : Int) (hl : IL w a l) (hn : l.length ≤ 1000000) :
    Ret Tryz.prog 129 #[.slice a l.length c, .int .i64 x] w fun v w' => v = .bool (decide (x ∈ l)) ∧ Chg [] w w' := by
  refine Ret.of_W (n := 9) Tryz.func129 rfl rfl (Nat.le_of_ble_eq_true rfl) ?_
  refine W.seq fun K hK => ?_
  refine W.region (by rfl) ?_
  refine Flow.assignC ?_
  refine hK _ _ _ ?_
  clear hK K
  refine W.seq fun K hK => ?_
  refine W.region (by rfl) ?_
  refine Flow.move (v := .slice _ _ _) rfl ?_
  refine Flow.move (v := .int _ _) rfl ?_
  refine Flow.call2 Tf.hb_155 (v1 := .slice _ _ _) rfl (v2 := .int _ _) rfl ?_
  refine Ret.mono (index_ok _ _ _ _ _ hl hn) ?_
  rintro _ w1 ⟨⟨i, rfl, hi⟩, hc⟩
  refine Flow.geq rfl rfl ?_
  refine Flow.assign (v := .bool _) rfl ?_
  refine hK _ _ _ ?_
  clear hK K
  refine W.ret ⟨_, res1 rfl (v := .bool _) rfl, ?_, hc⟩
  simp [hi]

end Go.Proofs.YtkoejelglinmnaaGreat

/-
  Contracts: open (an iterator over the open days of a span) and the loops over it.
-/
namespace Go.Proofs.YtkoejelglinmnaaGreat
open Sg
set_option maxRecDepth 100000

/-- What the iterator has captured. -/
structure OpenB (w : World) (bs bt : Nat) (ac : Option Addr) (cc : Nat) (closed : List Int) (lo hi : Int) : Prop where
  clo : w.cell? ⟨bs, 0, none⟩ = some (.int .i64 lo)
  chi : w.cell? ⟨bs, 1, none⟩ = some (.int .i64 hi)
  ccl : w.cell? ⟨bt, 1, none⟩ = some (.slice ac closed.length cc)
  il : IL w ac closed
  len : closed.length ≤ 1000000
  bd : -1000000 ≤ lo ∧ hi ≤ 1000000

theorem OpenB.chg {w w' : World} {bs bt : Nat} {ac : Option Addr} {cc : Nat} {closed : List Int} {lo hi : Int} {S : List Nat} (h : OpenB w bs bt ac cc closed lo hi) (hc : Chg S w w')
    (h1 : bs ∉ S) (h2 : bt ∉ S) (h3 : Off ac closed S) : OpenB w' bs bt ac cc closed lo hi :=
  ⟨cell_chg h.clo hc h1, cell_chg h.chi hc h1, cell_chg h.ccl hc h2, h.il.chg hc h3, h.len, h.bd⟩

/-- The iterator: it calls yield at each open day, till a round says no more. -/
theorem open1_ok (w : World) (l bs bt : Nat) (ac : Option Addr) (cc : Nat) (closed : List Int) (lo hi : Int) (J : List Int → World → Prop) (Jx : World → Prop)
    (hJB : ∀ rest w1, J rest w1 → OpenB w1 bs bt ac cc closed lo hi) (hJc : ∀ rest w1 w2, J rest w1 → Chg [] w1 w2 → J rest w2)
    (round : ∀ x rest w1, J (x :: rest) w1 → x ∉ closed → lo ≤ x → x ≤ hi → ∃ r, (w1.heap[l]? = some (.loop r) ∧ r.params.size = 1) ∧
      Rnd Tryz.prog l r.fn ((r.params.zip #[.int .i64 x]).foldl (fun tmps (t, a) => tmps.setIfInBounds t a) r.tmps) r.assign r.body w1 fun v w2 => (v = .bool true ∧ J rest w2) ∨ (v = .bool false ∧ Jx w2))
    (h0 : J (opens closed lo hi) w) :
    Ret Tryz.prog 135 #[.func (.yield l) #[] #[], .pointer (some ⟨bs, 0, none⟩), .pointer (some ⟨bt, 0, none⟩)] w fun _ w' => J [] w' ∨ Jx w' := by
  have hB := hJB _ _ h0
  have hbd := hB.bd
  refine Ret.of_W (n := 24) Tryz.func135 rfl rfl (Nat.le_of_ble_eq_true rfl) ?_
  refine W.seq fun K hK => ?_
  refine W.region (by rfl) ?_
  refine Flow.fieldAddr Tf.fo_44_0 rfl ?_
  refine Flow.load1 Tf.ty_3 rfl (hB.clo) ?_
  refine Flow.assign (v := .int _ _) rfl ?_
  refine hK _ _ _ ?_
  clear hK K
  refine W.block ?_
  refine W.loop (ι := Int) (fun d ds e w' => ds = [] ∧ -1000000 ≤ d ∧ lo ≤ d ∧ AllAt e [(0, .func (.yield l) #[] #[]), (1, .pointer (some ⟨bs, 0, none⟩)), (2, .pointer (some ⟨bt, 0, none⟩)), (4, .int .i64 d)] ∧ J (opens closed d hi) w')
    (fun d => (hi + 1 - d).toNat) (i0 := lo) ⟨rfl, by omega, by omega, ⟨rfl, rfl, rfl, rfl, trivial⟩, h0⟩ ?_
  rintro d ds e w' ⟨rfl, hd0, hd1, hE, hJ⟩
  obtain ⟨e, rfl⟩ : ∃ e0, e = putL e0 _ := ⟨e, putL_self hE⟩
  clear hE
  have hB' := hJB _ _ hJ
  refine W.seq fun K1 hK1 => ?_
  refine W.seq fun K hK => ?_
  refine W.region (by rfl) ?_
  refine Flow.move (v := .int _ _) rfl ?_
  refine Flow.fieldAddr Tf.fo_44_1 rfl ?_
  refine Flow.load1 Tf.ty_3 rfl (hB'.chi) ?_
  refine Flow.leq rfl rfl ?_
  refine hK _ _ _ ?_
  clear hK K
  refine W.cond rfl (fun h => W.skip (hK1 _ _ _ ?_)) (fun h => W.exit ?_)
  · have hle : d ≤ hi := by simpa using h
    refine W.seq fun K2 hK2 => ?_
    refine W.block ?_
    have hstep := opens_step (closed := closed) hle
    by_cases hcl : d ∈ closed
    · rw [if_pos (by simpa using hcl)] at hstep
      rw [hstep] at hJ
      refine W.seq fun K hK => ?_
      refine W.region (by rfl) ?_
      refine Flow.fieldAddr Tf.fo_25_1 rfl ?_
      refine Flow.load1 Tf.ty_22 rfl (hB'.ccl) ?_
      refine Flow.move (v := .int _ _) rfl ?_
      refine Flow.call2 Tf.hb_129 (v1 := .slice _ _ _) rfl (v2 := .int _ _) rfl ?_
      refine Ret.mono (contains_ok _ _ _ _ _ hB'.il hB'.len) ?_
      rintro _ w2 ⟨rfl, hc2⟩
      rw [show decide (d ∈ closed) = true from by simpa using hcl]
      refine Flow.not rfl ?_
      refine Flow.move (v := .bool _) rfl ?_
      refine Flow.off (c := false) rfl rfl rfl ?_
      refine Flow.off (c := false) rfl rfl rfl ?_
      refine Flow.off (c := false) rfl rfl rfl ?_
      refine Flow.off (c := false) rfl rfl rfl ?_
      refine Flow.pickF rfl rfl ?_
      refine hK _ _ _ ?_
      clear hK K
      refine W.cond (t := false) rfl (fun h => by simp at h) (fun _ => W.skip (hK2 _ _ _ ?_))
      refine W.region (by rfl) ?_
      refine Flow.move (v := .int _ _) rfl ?_
      refine Flow.add rfl rfl (by omega) (by omega) ?_
      refine Flow.assign (v := .int _ _) rfl ?_
      exact Flow.nil ⟨d + 1, by omega, rfl, by omega, by omega, ⟨rfl, rfl, rfl, rfl, trivial⟩, hJc _ _ _ hJ hc2⟩
    · rw [if_neg (by simpa using hcl)] at hstep
      rw [hstep] at hJ
      refine W.seq fun K hK => ?_
      refine W.region (by rfl) ?_
      refine Flow.fieldAddr Tf.fo_25_1 rfl ?_
      refine Flow.load1 Tf.ty_22 rfl (hB'.ccl) ?_
      refine Flow.move (v := .int _ _) rfl ?_
      refine Flow.call2 Tf.hb_129 (v1 := .slice _ _ _) rfl (v2 := .int _ _) rfl ?_
      refine Ret.mono (contains_ok _ _ _ _ _ hB'.il hB'.len) ?_
      rintro _ w2 ⟨rfl, hc2⟩
      rw [show decide (d ∈ closed) = false from by simpa using hcl]
      obtain ⟨r, hr, hR⟩ := round d _ w2 (hJc _ _ _ hJ hc2) hcl hd1 hle
      refine Flow.not rfl ?_
      refine Flow.move (v := .bool _) rfl ?_
      refine Flow.on rfl rfl ?_
      refine Flow.move (v := .func _ _ _) rfl ?_
      refine Flow.on rfl rfl ?_
      refine Flow.move (v := .int _ _) rfl ?_
      refine Flow.on rfl rfl ?_
      refine Flow.callY1 rfl (hr) (v1 := .int _ _) rfl ?_
      refine RoundIn.mono hR ?_
      rintro x w3 ⟨v, rfl, hv⟩
      refine ⟨v, rfl, ?_⟩
      rcases hv with ⟨rfl, hJ3⟩ | ⟨rfl, hJx⟩
      · refine Flow.on rfl rfl ?_
        refine Flow.not rfl ?_
        refine Flow.pickT rfl rfl ?_
        refine hK _ _ _ ?_
        clear hK K
        refine W.cond (t := false) rfl (fun h => by simp at h) (fun _ => W.skip (hK2 _ _ _ ?_))
        refine W.region (by rfl) ?_
        refine Flow.move (v := .int _ _) rfl ?_
        refine Flow.add rfl rfl (by omega) (by omega) ?_
        refine Flow.assign (v := .int _ _) rfl ?_
        exact Flow.nil ⟨d + 1, by omega, rfl, by omega, by omega, ⟨rfl, rfl, rfl, rfl, trivial⟩, hJ3⟩
      · refine Flow.on rfl rfl ?_
        refine Flow.not rfl ?_
        refine Flow.pickT rfl rfl ?_
        refine hK _ _ _ ?_
        clear hK K
        refine W.cond (t := true) rfl (fun _ => W.ret ⟨_, res0 rfl, .inr hJx⟩) (fun h => by simp at h)
  · have hgt : hi < d := by simpa using h
    rw [opens_nil hgt] at hJ
    exact ⟨_, res0 rfl, .inl hJ⟩

end Go.Proofs.YtkoejelglinmnaaGreat

/-
  The statement 'for d := range open(t, s) { .. }'.
-/
namespace Go.Proofs.YtkoejelglinmnaaGreat
open Sg
set_option maxRecDepth 100000

theorem tmps_put (n : Nat) (e : Env) (ds : List Nat) (p : Nat) (v : Value) :
    ((#[p].zip #[v]).foldl (fun tmps (x : Tmp × Value) => tmps.setIfInBounds x.1 x.2) (fr n e ds).tmps) = (fr n (upd e p v) []).tmps := by
  have h := congrArg Act.tmps (fr_put n e ds (some p) v)
  simp only [Act.put, updO] at h
  simpa [fr] using h

section
variable {n : Nat} {q : Post} {ds : List Nat} {e : Env} {w : World}

/-- A piece of code in a round: what is asked where it is left. -/
def InRound (S : List Nat) (w1 : World) (I : World → Prop) (Ir : World → Prop) (Ie : Nat → World → Prop) : Post where
  nrm := fun _ _ w2 => Chg S w1 w2 ∧ I w2
  ret := fun _ _ w2 => Chg S w1 w2 ∧ Ir w2
  ex := fun i _ _ w2 => Chg S w1 w2 ∧ Ie i w2

theorem W.range_open {g : Operand} {p : Tmp} {assign body : Code} {bs bt : Nat} {ac : Option Addr} {cc : Nat} {closed : List Int} {lo hi : Int} {S : List Nat}
    (hg : ev n e g = .func (.func 135) #[] #[.pointer (some ⟨bs, 0, none⟩), .pointer (some ⟨bt, 0, none⟩)])
    (hB : OpenB w bs bt ac cc closed lo hi) (hS : ∀ b ∈ S, b < w.heap.size) (h1 : bs ∉ S) (h2 : bt ∉ S) (h3 : Off ac closed S)
    (I : List Int → World → Prop) (Ir : World → Prop) (Ie : Nat → World → Prop) (A : Int → List Int → Env → World → Prop)
    (hI : ∀ rest T w1 w2, I rest w1 → Chg T w1 w2 → (∀ b ∈ T, w.heap.size ≤ b) → I rest w2)
    (hIr : ∀ T w1 w2, Ir w1 → Chg T w1 w2 → (∀ b ∈ T, w.heap.size ≤ b) → Ir w2)
    (hIe : ∀ i T w1 w2, Ie i w1 → Chg T w1 w2 → (∀ b ∈ T, w.heap.size ≤ b) → Ie i w2)
    (hA : ∀ x rest e' l w1 w2, w.heap.size ≤ l → w1.heap[l]?.isSome = true → (∀ cs t f, w1.heap[l]? ≠ some (.cells cs t f)) → A x rest e' w1 → Chg [l] w1 w2 → w1.heap.size = w2.heap.size → A x rest e' w2)
    (h0 : I (opens closed lo hi) w)
    (hassign : ∀ x rest l w1, w.heap.size ≤ l → l < w1.heap.size → Chg S w w1 → I (x :: rest) w1 → x ∉ closed → lo ≤ x → x ≤ hi →
      W Tryz.prog n (some l) assign ⟨fun _ e' w2 => Chg S w1 w2 ∧ A x rest e' w2, fun _ _ _ => False, fun _ _ _ _ => False⟩ [] (upd e p (.int .i64 x)) w1)
    (hbody : ∀ x rest l w1 ds' e', w.heap.size ≤ l → l < w1.heap.size → Chg S w w1 → A x rest e' w1 → x ∉ closed → lo ≤ x → x ≤ hi →
      W Tryz.prog n (some l) body (InRound S w1 (I rest) Ir Ie) ds' e' w1)
    (hdone : ∀ w' D, Chg S w w' → w.heap.size ≤ D → D < w'.heap.size → w'.heap[D]? = some (.deferred (some [])) → I [] w' → q.nrm (D :: ds) e w')
    (hret : ∀ w' D, Chg S w w' → w.heap.size ≤ D → D < w'.heap.size → w'.heap[D]? = some (.deferred (some [])) → Ir w' → q.ret (D :: ds) e w')
    (hex : ∀ i w' D, Chg S w w' → w.heap.size ≤ D → D < w'.heap.size → w'.heap[D]? = some (.deferred (some [])) → Ie i w' → q.ex i (D :: ds) e w') :
    W Tryz.prog n none (.rangeFunc g #[p] assign body) q ds e w := by
  refine W.rangeFunc hg (Tf.hb_135).call ?_
  rintro ⟨st, pe, fn0, tm, pa, asg, bo, df⟩ rfl rfl rfl rfl rfl rfl
  let rec0 : LoopState → Option Code → Loop := fun st pe => { state := st, pending := pe, fn := fn0, tmps := (fr n e ds).tmps, params := #[p], assign := asg, body := bo, defers := df }
  have hw : ∀ b, b ∈ ([w.heap.size + 1] : List Nat) → w.heap.size ≤ b := by simp
  let D := w.heap.size
  let l := w.heap.size + 1
  let J : List Int → World → Prop := fun rest w1 => Chg S w w1 ∧ I rest w1 ∧ w1.heap[l]? = some (.loop (rec0 .ready none)) ∧ w1.heap[D]? = some (.deferred (some []))
  let Jx : World → Prop := fun w1 => Chg S w w1 ∧ ∃ c, w1.heap[l]? = some (.loop (rec0 .done (some c))) ∧ w1.heap[D]? = some (.deferred (some [])) ∧ ((c = .ret ∧ Ir w1) ∨ ∃ i, c = .exit i ∧ Ie i w1)
  have hlS : l ∉ S := fun h => by have := hS _ h; simp only [l] at this; omega
  have hDS : D ∉ S := fun h => by have := hS _ h; simp only [D] at this; omega
  -- the record is turned: nothing else
  have hput : ∀ (w1 : World) (o : Obj), Chg S w w1 → Chg S w (w1.putObj l o) := fun w1 o hc =>
    hc.trans (Chg.putObj w1 l o) (fun b hb hm => by simp at hm; simp only [l] at hm; omega)
  let w1 : World := (w.alloc (.deferred (some []))).alloc (.loop (rec0 .ready none))
  have hw1 : Chg [] w w1 := (Chg.alloc w _ []).then (Chg.alloc _ _ [])
  have hw1s : w1.heap.size = w.heap.size + 2 := by simp [w1]
  have hl1 : w1.heap[l]? = some (.loop (rec0 .ready none)) := by
    have := World.alloc_heap_new (w.alloc (.deferred (some []))) (.loop (rec0 .ready none))
    rwa [World.size_alloc] at this
  have hD1 : w1.heap[D]? = some (.deferred (some [])) := by
    have h := (Chg.alloc (w.alloc (.deferred (some []))) (.loop (rec0 .ready none)) []).same D (by simp [D]) (by simp)
    exact h.trans (World.alloc_heap_new w _)
  have hargs : (#[.func (.yield (w.heap.size + 1)) #[] #[]] ++ #[.pointer (some ⟨bs, 0, none⟩), .pointer (some ⟨bt, 0, none⟩)] : Array Value) =
      #[.func (.yield l) #[] #[], .pointer (some ⟨bs, 0, none⟩), .pointer (some ⟨bt, 0, none⟩)] := by simp [l]
  rw [hargs]
  refine Ret.mono (open1_ok w1 l bs bt ac cc closed lo hi J Jx ?_ ?_ ?_ ?_) ?_
  · rintro rest w2 ⟨hc, _⟩
    exact hB.chg hc h1 h2 h3
  · rintro rest w2 w3 ⟨hc, hi', hl, hD⟩ h
    refine ⟨hc.trans h (fun _ _ h => by simp at h), hI _ [] _ _ hi' h (by simp), ?_, ?_⟩
    · exact (h.same l (Array.getElem?_eq_some_iff.1 hl).1 (by simp)).trans hl
    · exact (h.same D (Array.getElem?_eq_some_iff.1 hD).1 (by simp)).trans hD
  · rintro x rest w2 ⟨hc, hi', hl, hD⟩ hx1 hx2 hx3
    refine ⟨rec0 .ready none, ⟨hl, by simp [rec0]⟩, ?_⟩
    have hll : l < w2.heap.size := (Array.getElem?_eq_some_iff.1 hl).1
    have hDl : D < w2.heap.size := (Array.getElem?_eq_some_iff.1 hD).1
    have ht := tmps_put n e ds p (.int .i64 x)
    show Rnd _ l fn0 ((#[p].zip #[Value.int .i64 x]).foldl (fun tmps (x : Tmp × Value) => tmps.setIfInBounds x.1 x.2) (fr n e ds).tmps) asg bo w2 _
    rw [ht]
    refine Rnd.of_W ?_
    refine W.mono (hassign x rest l w2 (by simp [l]) hll hc hi' hx1 hx2 hx3) ?_ (fun _ _ _ h => h.elim) (fun _ _ _ _ h => h.elim)
    rintro ds' e' w3 ⟨hc3, hA3⟩
    have hl3 : w3.heap[l]? = some (.loop (rec0 .ready none)) := (hc3.same l hll hlS).trans hl
    have hD3 : w3.heap[D]? = some (.deferred (some [])) := (hc3.same D hDl hDS).trans hD
    refine ⟨_, hl3, rfl, ?_⟩
    have hll3 : l < w3.heap.size := (Array.getElem?_eq_some_iff.1 hl3).1
    let w4 := w3.putObj l (.loop { rec0 .ready none with state := .busy })
    have hl4 : w4.heap[l]? = some (.loop (rec0 .busy none)) := World.putObj_heap_same hll3
    have hD4 : w4.heap[D]? = some (.deferred (some [])) := (World.putObj_heap_other (by simp [l, D])).trans hD3
    have hc4 : Chg S w w4 := hput _ _ (hc.trans hc3 (fun _ _ h => h))
    have hs4 : w4.heap.size = w3.heap.size := by simp [w4]
    have hA4 : A x rest e' w4 := hA _ _ _ l _ _ (by simp [l]) (by rw [hl3]; rfl) (by rw [hl3]; intro _ _ _ h; simp at h) hA3 (Chg.putObj _ _ _) hs4.symm
    refine W.mono (hbody x rest l w4 ds' e' (by simp [l]) (by omega) hc4 hA4 hx1 hx2 hx3) ?_ ?_ ?_
    · rintro ds5 e5 w5 ⟨hc5, hi5⟩
      have hl5 := (hc5.same l (by omega) hlS).trans hl4
      have hD5 := (hc5.same D (by have := (Array.getElem?_eq_some_iff.1 hD4).1; exact this) hDS).trans hD4
      refine ⟨_, hl5, .inl ⟨rfl, hput _ _ (hc4.trans hc5 (fun _ _ h => h)), hI _ [l] _ _ hi5 (Chg.putObj _ _ _) hw, ?_, ?_⟩⟩
      · exact World.putObj_heap_same (Array.getElem?_eq_some_iff.1 hl5).1
      · exact (World.putObj_heap_other (by simp [l, D])).trans hD5
    · rintro ds5 e5 w5 ⟨hc5, hi5⟩
      have hl5 := (hc5.same l (by omega) hlS).trans hl4
      have hD5 := (hc5.same D (by have := (Array.getElem?_eq_some_iff.1 hD4).1; exact this) hDS).trans hD4
      refine ⟨_, hl5, .inr ⟨rfl, hput _ _ (hc4.trans hc5 (fun _ _ h => h)), .ret, ?_, ?_, .inl ⟨rfl, hIr [l] _ _ hi5 (Chg.putObj _ _ _) hw⟩⟩⟩
      · exact World.putObj_heap_same (Array.getElem?_eq_some_iff.1 hl5).1
      · exact (World.putObj_heap_other (by simp [l, D])).trans hD5
    · rintro i ds5 e5 w5 ⟨hc5, hi5⟩
      have hl5 := (hc5.same l (by omega) hlS).trans hl4
      have hD5 := (hc5.same D (by have := (Array.getElem?_eq_some_iff.1 hD4).1; exact this) hDS).trans hD4
      refine ⟨_, hl5, .inr ⟨rfl, hput _ _ (hc4.trans hc5 (fun _ _ h => h)), .exit i, ?_, ?_, .inr ⟨i, rfl, hIe i [l] _ _ hi5 (Chg.putObj _ _ _) hw⟩⟩⟩
      · exact World.putObj_heap_same (Array.getElem?_eq_some_iff.1 hl5).1
      · exact (World.putObj_heap_other (by simp [l, D])).trans hD5
  · exact ⟨hw1.mono (by simp), hI _ [] _ _ h0 hw1 (by simp), hl1, hD1⟩
  · rintro v w3 (⟨hc, hi', hl, hD⟩ | ⟨hc, c, hl, hD, hcx⟩)
    · refine ⟨_, hl, by simp [rec0], ?_⟩
      have hDl : D < w3.heap.size := (Array.getElem?_eq_some_iff.1 hD).1
      exact hdone _ D (hput _ _ hc) (Nat.le_refl _) (by simpa using hDl) ((World.putObj_heap_other (by simp [D])).trans hD) (hI _ [l] _ _ hi' (Chg.putObj _ _ _) hw)
    · refine ⟨_, hl, by simp [rec0], ?_⟩
      have hDl : D < w3.heap.size := (Array.getElem?_eq_some_iff.1 hD).1
      rcases hcx with ⟨rfl, hr⟩ | ⟨i, rfl, hr⟩
      · exact hret _ D (hput _ _ hc) (Nat.le_refl _) (by simpa using hDl) ((World.putObj_heap_other (by simp [D])).trans hD) (hIr [l] _ _ hr (Chg.putObj _ _ _) hw)
      · exact hex i _ D (hput _ _ hc) (Nat.le_refl _) (by simpa using hDl) ((World.putObj_heap_other (by simp [D])).trans hD) (hIe i [l] _ _ hr (Chg.putObj _ _ _) hw)

end
end Go.Proofs.YtkoejelglinmnaaGreat

/-
  The statement 'for x := range f { .. }' over an iterator that is known by a contract.
-/
namespace Go.Proofs.YtkoejelglinmnaaGreat
open Sg
set_option maxRecDepth 100000

/-- An iterator: it calls yield at each thing of a list, in order, till a round says no more. -/
def IterOk {α : Type} (f : FuncId) (caps : Array Value) (B : World → Prop) (enc : α → Value) (ok : α → Prop) (xs : List α) : Prop :=
  ∀ (w : World) (l : Nat) (J : List α → World → Prop) (Jx : World → Prop), (∀ rest w1, J rest w1 → B w1) → (∀ rest w1 w2, J rest w1 → Chg [] w1 w2 → J rest w2) →
    (∀ x rest w1, J (x :: rest) w1 → ok x → ∃ r, (w1.heap[l]? = some (.loop r) ∧ r.params.size = 1) ∧
      Rnd Tryz.prog l r.fn ((r.params.zip #[enc x]).foldl (fun tmps (t, a) => tmps.setIfInBounds t a) r.tmps) r.assign r.body w1 fun v w2 => (v = .bool true ∧ J rest w2) ∨ (v = .bool false ∧ Jx w2)) →
    J xs w → Ret Tryz.prog f (#[.func (.yield l) #[] #[]] ++ caps) w fun _ w' => J [] w' ∨ Jx w'

theorem open_iter (bs bt : Nat) (ac : Option Addr) (cc : Nat) (closed : List Int) (lo hi : Int) :
    IterOk 135 #[.pointer (some ⟨bs, 0, none⟩), .pointer (some ⟨bt, 0, none⟩)] (fun w => OpenB w bs bt ac cc closed lo hi) (fun x : Int => .int .i64 x) (fun x => x ∉ closed ∧ lo ≤ x ∧ x ≤ hi) (opens closed lo hi) := by
  intro w l J Jx h1 h2 h3 h4
  have h := open1_ok w l bs bt ac cc closed lo hi J Jx h1 h2 (fun x rest w1 hj a b c => h3 x rest w1 hj ⟨a, b, c⟩) h4
  simpa using h

/-- What a round may change: blocks of S, and what rounds have made. -/
def Chg2 (S : List Nat) (w0 w1 w2 : World) : Prop := ∃ T, Chg T w1 w2 ∧ ∀ b ∈ T, b ∈ S ∨ w0.heap.size + 2 ≤ b

theorem Chg2.refl (S : List Nat) (w0 w1 : World) : Chg2 S w0 w1 w1 := ⟨[], Chg.refl _ _, by simp⟩
theorem Chg2.of {S : List Nat} {w0 w1 w2 : World} (h : Chg S w1 w2) : Chg2 S w0 w1 w2 := ⟨S, h, fun _ h => .inl h⟩
theorem Chg2.ext {S : List Nat} {w0 w1 w2 : World} (h : Chg [] w1 w2) : Chg2 S w0 w1 w2 := ⟨[], h, by simp⟩
theorem Chg2.trans {S : List Nat} {w0 w1 w2 w3 : World} (h : Chg2 S w0 w1 w2) (k : Chg2 S w0 w2 w3) : Chg2 S w0 w1 w3 := by
  obtain ⟨T, h1, h2⟩ := h
  obtain ⟨U, k1, k2⟩ := k
  refine ⟨T ++ U, (h1.mono (fun b _ hb => List.mem_append.2 (.inl hb))).trans k1 (fun b _ hb => List.mem_append.2 (.inr hb)), fun b hb => ?_⟩
  rcases List.mem_append.1 hb with hb | hb
  · exact h2 b hb
  · exact k2 b hb
theorem Chg2.step {S T : List Nat} {w0 w1 w2 w3 : World} (h : Chg2 S w0 w1 w2) (k : Chg T w2 w3) (hT : ∀ b ∈ T, b ∈ S ∨ w0.heap.size + 2 ≤ b) : Chg2 S w0 w1 w3 := h.trans ⟨T, k, hT⟩
theorem Chg2.chg {S : List Nat} {w0 w1 w2 : World} (h : Chg S w0 w1) (k : Chg2 S w0 w1 w2) : Chg S w0 w2 := by
  obtain ⟨T, k1, k2⟩ := k
  exact h.trans k1 (fun b hb hT => by rcases k2 b hT with h | h; exact h; omega)
theorem Chg2.keep {S : List Nat} {w0 w1 w2 : World} (k : Chg2 S w0 w1 w2) {b : Nat} (hb : b < w1.heap.size) (hS : b ∉ S) (h2 : b < w0.heap.size + 2) : w2.heap[b]? = w1.heap[b]? := by
  obtain ⟨T, k1, k2⟩ := k
  exact k1.same b hb (fun hT => by rcases k2 b hT with h | h; exact hS h; omega)
theorem Chg2.size {S : List Nat} {w0 w1 w2 : World} (k : Chg2 S w0 w1 w2) : w1.heap.size ≤ w2.heap.size := let ⟨_, k1, _⟩ := k; k1.size

section
variable {n : Nat} {q : Post} {ds : List Nat} {e : Env} {w : World}

def InRound2 (S : List Nat) (w w1 : World) (I : World → Prop) (Ir : World → Prop) (Ie : Nat → World → Prop) : Post where
  nrm := fun _ _ w2 => Chg2 S w w1 w2 ∧ I w2
  ret := fun _ _ w2 => Chg2 S w w1 w2 ∧ Ir w2
  ex := fun i _ _ w2 => Chg2 S w w1 w2 ∧ Ie i w2

theorem W.range_it {α : Type} {g : Operand} {p : Tmp} {assign body : Code} {f : FuncId} {caps : Array Value} {B : World → Prop} {enc : α → Value} {ok : α → Prop} {xs : List α} {S : List Nat}
    (hg : ev n e g = .func (.func f) #[] caps) (hb : HasBody Tryz.prog f) (hit : IterOk f caps B enc ok xs)
    (hB : ∀ w1, Chg S w w1 → B w1) (hS : ∀ b ∈ S, b < w.heap.size)
    (I : List α → World → Prop) (Ir : World → Prop) (Ie : Nat → World → Prop) (A : α → List α → Env → World → Prop)
    (hI : ∀ rest T w1 w2, I rest w1 → Chg T w1 w2 → (∀ b ∈ T, w.heap.size ≤ b ∧ b < w.heap.size + 2) → I rest w2)
    (hIr : ∀ T w1 w2, Ir w1 → Chg T w1 w2 → (∀ b ∈ T, w.heap.size ≤ b ∧ b < w.heap.size + 2) → Ir w2)
    (hIe : ∀ i T w1 w2, Ie i w1 → Chg T w1 w2 → (∀ b ∈ T, w.heap.size ≤ b ∧ b < w.heap.size + 2) → Ie i w2)
    (hA : ∀ x rest e' w1 w2, A x rest e' w1 → Chg [w.heap.size + 1] w1 w2 → A x rest e' w2)
    (h0 : I xs w)
    (hassign : ∀ x rest w1, w.heap.size + 2 ≤ w1.heap.size → Chg S w w1 → I (x :: rest) w1 → ok x →
      W Tryz.prog n (some (w.heap.size + 1)) assign ⟨fun _ e' w2 => Chg2 S w w1 w2 ∧ A x rest e' w2, fun _ _ _ => False, fun _ _ _ _ => False⟩ [] (upd e p (enc x)) w1)
    (hbody : ∀ x rest w1 ds' e', w.heap.size + 2 ≤ w1.heap.size → Chg S w w1 → A x rest e' w1 → ok x →
      W Tryz.prog n (some (w.heap.size + 1)) body (InRound2 S w w1 (I rest) Ir Ie) ds' e' w1)
    (hdone : ∀ w', Chg S w w' → w.heap.size + 2 ≤ w'.heap.size → w'.heap[w.heap.size]? = some (.deferred (some [])) → I [] w' → q.nrm (w.heap.size :: ds) e w')
    (hret : ∀ w', Chg S w w' → w.heap.size + 2 ≤ w'.heap.size → w'.heap[w.heap.size]? = some (.deferred (some [])) → Ir w' → q.ret (w.heap.size :: ds) e w')
    (hex : ∀ i w', Chg S w w' → w.heap.size + 2 ≤ w'.heap.size → w'.heap[w.heap.size]? = some (.deferred (some [])) → Ie i w' → q.ex i (w.heap.size :: ds) e w') :
    W Tryz.prog n none (.rangeFunc g #[p] assign body) q ds e w := by
  refine W.rangeFunc hg hb.call ?_
  rintro ⟨st, pe, fn0, tm, pa, asg, bo, df⟩ rfl rfl rfl rfl rfl rfl
  let rec0 : LoopState → Option Code → Loop := fun st pe => { state := st, pending := pe, fn := fn0, tmps := (fr n e ds).tmps, params := #[p], assign := asg, body := bo, defers := df }
  have hw : ∀ b, b ∈ ([w.heap.size + 1] : List Nat) → w.heap.size ≤ b ∧ b < w.heap.size + 2 := by simp
  let D := w.heap.size
  let l := w.heap.size + 1
  let J : List α → World → Prop := fun rest w1 => Chg S w w1 ∧ I rest w1 ∧ w1.heap[l]? = some (.loop (rec0 .ready none)) ∧ w1.heap[D]? = some (.deferred (some []))
  let Jx : World → Prop := fun w1 => Chg S w w1 ∧ ∃ c, w1.heap[l]? = some (.loop (rec0 .done (some c))) ∧ w1.heap[D]? = some (.deferred (some [])) ∧ ((c = .ret ∧ Ir w1) ∨ ∃ i, c = .exit i ∧ Ie i w1)
  have hlS : l ∉ S := fun h => by have := hS _ h; simp only [l] at this; omega
  have hDS : D ∉ S := fun h => by have := hS _ h; simp only [D] at this; omega
  have hput : ∀ (w1 : World) (o : Obj), Chg S w w1 → Chg S w (w1.putObj l o) := fun w1 o hc =>
    hc.trans (Chg.putObj w1 l o) (fun b hb hm => by simp at hm; simp only [l] at hm; omega)
  let w1 : World := (w.alloc (.deferred (some []))).alloc (.loop (rec0 .ready none))
  have hw1 : Chg [] w w1 := (Chg.alloc w _ []).then (Chg.alloc _ _ [])
  have hl1 : w1.heap[l]? = some (.loop (rec0 .ready none)) := by
    have := World.alloc_heap_new (w.alloc (.deferred (some []))) (.loop (rec0 .ready none))
    rwa [World.size_alloc] at this
  have hD1 : w1.heap[D]? = some (.deferred (some [])) := by
    have h := (Chg.alloc (w.alloc (.deferred (some []))) (.loop (rec0 .ready none)) []).same D (by simp [D]) (by simp)
    exact h.trans (World.alloc_heap_new w _)
  refine Ret.mono (hit w1 l J Jx ?_ ?_ ?_ ?_) ?_
  · rintro rest w2 ⟨hc, _⟩
    exact hB _ hc
  · rintro rest w2 w3 ⟨hc, hi', hl, hD⟩ h
    refine ⟨hc.trans h (fun _ _ h => by simp at h), hI _ [] _ _ hi' h (by simp), ?_, ?_⟩
    · exact (h.same l (Array.getElem?_eq_some_iff.1 hl).1 (by simp)).trans hl
    · exact (h.same D (Array.getElem?_eq_some_iff.1 hD).1 (by simp)).trans hD
  · rintro x rest w2 ⟨hc, hi', hl, hD⟩ hx
    refine ⟨rec0 .ready none, ⟨hl, by simp [rec0]⟩, ?_⟩
    have hll : l < w2.heap.size := (Array.getElem?_eq_some_iff.1 hl).1
    have hDl : D < w2.heap.size := (Array.getElem?_eq_some_iff.1 hD).1
    have hsz2 : w.heap.size + 2 ≤ w2.heap.size := hll
    have ht := tmps_put n e ds p (enc x)
    show Rnd _ l fn0 ((#[p].zip #[enc x]).foldl (fun tmps (x : Tmp × Value) => tmps.setIfInBounds x.1 x.2) (fr n e ds).tmps) asg bo w2 _
    rw [ht]
    refine Rnd.of_W ?_
    refine W.mono (hassign x rest w2 hsz2 hc hi' hx) ?_ (fun _ _ _ h => h.elim) (fun _ _ _ _ h => h.elim)
    rintro ds' e' w3 ⟨hc3, hA3⟩
    have hl3 : w3.heap[l]? = some (.loop (rec0 .ready none)) := (hc3.keep hll hlS (by simp only [l]; omega)).trans hl
    have hD3 : w3.heap[D]? = some (.deferred (some [])) := (hc3.keep hDl hDS (by simp only [D]; omega)).trans hD
    refine ⟨_, hl3, rfl, ?_⟩
    have hll3 : l < w3.heap.size := (Array.getElem?_eq_some_iff.1 hl3).1
    let w4 := w3.putObj l (.loop { rec0 .ready none with state := .busy })
    have hl4 : w4.heap[l]? = some (.loop (rec0 .busy none)) := World.putObj_heap_same hll3
    have hD4 : w4.heap[D]? = some (.deferred (some [])) := (World.putObj_heap_other (by simp [l, D])).trans hD3
    have hc4 : Chg S w w4 := hput _ _ (hc3.chg hc)
    have hs4 : w4.heap.size = w3.heap.size := by simp [w4]
    have hA4 : A x rest e' w4 := hA _ _ _ _ _ hA3 (Chg.putObj _ _ _)
    have hsz4 : w.heap.size + 2 ≤ w4.heap.size := by rw [hs4]; exact hll3
    refine W.mono (hbody x rest w4 ds' e' hsz4 hc4 hA4 hx) ?_ ?_ ?_
    · rintro ds5 e5 w5 ⟨hc5, hi5⟩
      have hl5 := (hc5.keep (by omega) hlS (by simp only [l]; omega)).trans hl4
      have hD5 := (hc5.keep (Array.getElem?_eq_some_iff.1 hD4).1 hDS (by simp only [D]; omega)).trans hD4
      refine ⟨_, hl5, .inl ⟨rfl, hput _ _ (hc5.chg hc4), hI _ [l] _ _ hi5 (Chg.putObj _ _ _) hw, ?_, ?_⟩⟩
      · exact World.putObj_heap_same (Array.getElem?_eq_some_iff.1 hl5).1
      · exact (World.putObj_heap_other (by simp [l, D])).trans hD5
    · rintro ds5 e5 w5 ⟨hc5, hi5⟩
      have hl5 := (hc5.keep (by omega) hlS (by simp only [l]; omega)).trans hl4
      have hD5 := (hc5.keep (Array.getElem?_eq_some_iff.1 hD4).1 hDS (by simp only [D]; omega)).trans hD4
      refine ⟨_, hl5, .inr ⟨rfl, hput _ _ (hc5.chg hc4), .ret, ?_, ?_, .inl ⟨rfl, hIr [l] _ _ hi5 (Chg.putObj _ _ _) hw⟩⟩⟩
      · exact World.putObj_heap_same (Array.getElem?_eq_some_iff.1 hl5).1
      · exact (World.putObj_heap_other (by simp [l, D])).trans hD5
    · rintro i ds5 e5 w5 ⟨hc5, hi5⟩
      have hl5 := (hc5.keep (by omega) hlS (by simp only [l]; omega)).trans hl4
      have hD5 := (hc5.keep (Array.getElem?_eq_some_iff.1 hD4).1 hDS (by simp only [D]; omega)).trans hD4
      refine ⟨_, hl5, .inr ⟨rfl, hput _ _ (hc5.chg hc4), .exit i, ?_, ?_, .inr ⟨i, rfl, hIe i [l] _ _ hi5 (Chg.putObj _ _ _) hw⟩⟩⟩
      · exact World.putObj_heap_same (Array.getElem?_eq_some_iff.1 hl5).1
      · exact (World.putObj_heap_other (by simp [l, D])).trans hD5
  · exact ⟨hw1.mono (by simp), hI _ [] _ _ h0 hw1 (by simp), hl1, hD1⟩
  · rintro v w3 (⟨hc, hi', hl, hD⟩ | ⟨hc, c, hl, hD, hcx⟩)
    · refine ⟨_, hl, by simp [rec0], ?_⟩
      have hDl : l < w3.heap.size := (Array.getElem?_eq_some_iff.1 hl).1
      exact hdone _ (hput _ _ hc) (by simp only [l] at hDl; simp; omega) ((World.putObj_heap_other (by simp)).trans hD) (hI _ [l] _ _ hi' (Chg.putObj _ _ _) hw)
    · refine ⟨_, hl, by simp [rec0], ?_⟩
      have hDl : l < w3.heap.size := (Array.getElem?_eq_some_iff.1 hl).1
      rcases hcx with ⟨rfl, hr⟩ | ⟨i, rfl, hr⟩
      · exact hret _ (hput _ _ hc) (by simp only [l] at hDl; simp; omega) ((World.putObj_heap_other (by simp)).trans hD) (hIr [l] _ _ hr (Chg.putObj _ _ _) hw)
      · exact hex i _ (hput _ _ hc) (by simp only [l] at hDl; simp; omega) ((World.putObj_heap_other (by simp)).trans hD) (hIe i [l] _ _ hr (Chg.putObj _ _ _) hw)

end
end Go.Proofs.YtkoejelglinmnaaGreat

/-
  Contracts: open, room, in, span, all, isOpen.
-/
namespace Go.Proofs.YtkoejelglinmnaaGreat
open Sg
set_option maxRecDepth 100000

theorem open_ok (w : World) (t : Tour) (ac af : Option Addr) (cc cf : Nat) (lo hi : Int) (hC : IL w ac t.closed) (hs : t.closed.length ≤ 1000000) (hb : -1000000 ≤ lo ∧ hi ≤ 1000000) :
    Ret Tryz.prog 79 #[.agg #[.int .i64 t.days, .slice ac t.closed.length cc, .slice af t.flaws.length cf], .agg #[.int .i64 lo, .int .i64 hi]] w fun v w' =>
      Chg [] w w' ∧ ∃ bs bt, v = .func (.func 135) #[] #[.pointer (some ⟨bs, 0, none⟩), .pointer (some ⟨bt, 0, none⟩)] ∧ OpenB w' bs bt ac cc t.closed lo hi ∧
        w.heap.size ≤ bs ∧ w.heap.size ≤ bt ∧ bs < w'.heap.size ∧ bt < w'.heap.size := by
  refine Ret.of_W (n := 6) Tryz.func79 rfl rfl (Nat.le_of_ble_eq_true rfl) ?_
  refine W.seq fun K hK => ?_
  refine W.region (by rfl) ?_
  refine Flow.box rfl (cs := [_, _, _]) rfl fun w1 c1 s1 b1 => ?_
  refine Flow.box rfl (cs := [_, _]) rfl fun w2 c2 s2 b2 => ?_
  refine Flow.assignC ?_
  refine hK _ _ _ ?_
  clear hK K
  refine W.seq fun K hK => ?_
  refine W.region (by rfl) ?_
  refine Flow.makeFunc2 rfl rfl ?_
  refine Flow.assign (v := .func _ _ _) rfl ?_
  refine hK _ _ _ ?_
  clear hK K
  refine W.ret ⟨_, res1 rfl (v := .func _ _ _) rfl, c1.then c2, w1.heap.size, w.heap.size, rfl, ⟨b2.cell 0, b2.cell 1, ?_, (hC.ext c1).ext c2, hs, hb⟩, by omega, by omega, by omega, by omega⟩
  exact (b1.chg c2 (by simp)).cell 1

theorem room_ok (w : World) (t : Tour) (ac af : Option Addr) (cc cf : Nat) (lo hi : Int) (hC : IL w ac t.closed) (hs : t.closed.length ≤ 1000000) (hb : -1000000 ≤ lo ∧ hi ≤ 1000000) :
    Ret Tryz.prog 144 #[.agg #[.int .i64 t.days, .slice ac t.closed.length cc, .slice af t.flaws.length cf], .agg #[.int .i64 lo, .int .i64 hi]] w fun v w' =>
      v = .int .i64 (opens t.closed lo hi).length ∧ Chg [] w w' := by
  have hlen : (opens t.closed lo hi).length ≤ 2000001 := by
    have : ∀ (k : Nat) (d : Int), (daysFrom t.closed k d).length ≤ k := by
      intro k
      induction k with
      | zero => intro d; simp [daysFrom]
      | succ k ih => intro d; simp only [daysFrom]; split; exact Nat.le_succ_of_le (ih _); simpa using ih _
    have := this (hi + 1 - lo).toNat lo
    unfold opens; omega
  refine Ret.of_W (n := 13) Tryz.func144 rfl rfl (Nat.le_of_ble_eq_true rfl) ?_
  refine W.seq fun K hK => ?_
  refine W.region (by rfl) ?_
  refine Flow.box rfl (cs := [_, _, _]) rfl fun w1 c1 s1 b1 => ?_
  refine Flow.box rfl (cs := [_, _]) rfl fun w2 c2 s2 b2 => ?_
  refine Flow.assignC ?_
  refine hK _ _ _ ?_
  clear hK K
  refine W.seq fun K hK => ?_
  refine W.region (by rfl) ?_
  refine Flow.alloc Tf.ty_3 (cs := [_]) rfl fun w3 c3 s3 b3 => ?_
  refine Flow.store1 Tf.ty_3 rfl (v := .int _ _) rfl (b3) (by simp) rfl fun w4 c4 s4 b4 => ?_
  refine hK _ _ _ ?_
  clear hK K
  refine W.seq fun K1 hK1 => ?_
  have h34 : Chg [] w w4 := (c1.then (c2.then c3)).step c4 (by simp; omega)
  have bt4 := (b1.chg (c2.then c3) (by simp)).chg c4 (by simp; omega)
  have bs4 := (b2.chg c3 (by simp)).chg c4 (by simp; omega)
  refine W.seq fun K hK => ?_
  refine W.region (by rfl) ?_
  refine Flow.loadA Tf.ty_25 rfl rfl (bt4.cells0) ?_
  refine Flow.loadA Tf.ty_44 rfl rfl (bs4.cells0) ?_
  refine Flow.call2 Tf.hb_79 (v1 := .agg _) rfl (v2 := .agg _) rfl ?_
  refine Ret.mono (open_ok _ t ac af cc cf lo hi (hC.ext h34) hs hb) ?_
  rintro _ w5 ⟨c5, bs, bt, rfl, hB, hl1, hl2, hl3, hl4⟩
  refine hK _ _ _ ?_
  clear hK K
  refine W.block ?_
  refine W.range_open (S := [w2.heap.size]) rfl hB (by simp; have := c5.size; omega) (by simp; omega) (by simp; omega) (hC.off (by simp; omega))
    (fun rest w' => Chg [] w w' ∧ ∃ k : Nat, Blk w' w2.heap.size [.int .i64 k] 3 ∧ k + rest.length = (opens t.closed lo hi).length) (fun _ => False) (fun _ _ => False)
    (fun x rest e' w' => AllAt e' [(5, .pointer (some ⟨w2.heap.size, 0, none⟩))] ∧ Chg [] w w' ∧ ∃ k : Nat, Blk w' w2.heap.size [.int .i64 k] 3 ∧ k + (x :: rest).length = (opens t.closed lo hi).length)
    ?_ (fun _ _ _ h _ _ => h) (fun _ _ _ _ h _ _ => h) ?_ ⟨h34.then c5, 0, b4.chg c5 (by simp), by simp⟩ ?_ ?_ ?_ (fun _ _ _ _ _ _ h => h.elim) (fun _ _ _ _ _ _ _ h => h.elim)
  · have := c5.size
    rintro rest T w6 w7 ⟨hc, k, hb', hk⟩ hT hTb
    exact ⟨hc.step hT (fun b hb => by have := hTb b hb; omega), k, hb'.chg hT (fun h => by have := hTb _ h; omega), hk⟩
  · have := c5.size
    rintro x rest e' l w6 w7 hl _ _ ⟨hE, hc, k, hb', hk⟩ hT _
    exact ⟨hE, hc.step hT (by simp; omega), k, hb'.chg hT (by simp; omega), hk⟩
  · rintro x rest l w6 _ _ _ ⟨hc, h⟩ _ _ _
    exact W.skip ⟨Chg.refl _ _, ⟨rfl, trivial⟩, hc, h⟩
  · rintro x rest l w6 ds6 e6 hl hll hc6 ⟨hE, hc, k, hb', hk⟩ _ _ _
    obtain ⟨e6, rfl⟩ : ∃ e0, e6 = putL e0 _ := ⟨e6, putL_self hE⟩
    simp only [List.length_cons] at hk
    refine W.block ?_
    refine W.region (by rfl) ?_
    refine Flow.load1 Tf.ty_3 rfl (hb'.cell 0) ?_
    refine Flow.add rfl rfl (by omega) (by omega) ?_
    refine Flow.store1 Tf.ty_3 rfl (v := .int _ _) rfl (hb') (by simp) rfl fun w7 c7 s7 b7 => ?_
    exact Flow.nil ⟨c7, hc.step c7 (by simp; omega), k + 1, b7, by omega⟩
  · rintro w6 D hc6 hD hDl hDc ⟨hc, k, hb', hk⟩
    refine hK1 _ _ _ ?_
    refine W.seq fun K hK => ?_
    refine W.region (by rfl) ?_
    refine Flow.load1 Tf.ty_3 rfl (hb'.cell 0) ?_
    refine Flow.assign (v := .int _ _) rfl ?_
    refine hK _ _ _ ?_
    clear hK K
    have hk' : k = (opens t.closed lo hi).length := by simpa using hk
    refine W.ret ⟨hDc, _, res1 rfl (v := .int _ _) rfl, by rw [hk'], hc.step (Chg.putObj _ _ _) (by have := c5.size; simp; omega)⟩

end Go.Proofs.YtkoejelglinmnaaGreat

/-
  Contracts: in, span, isOpen, wrong.
-/
namespace Go.Proofs.YtkoejelglinmnaaGreat
open Sg
set_option maxRecDepth 100000

/-- n cells of bools. -/
def boolCells (n : Nat) (p : Nat → Bool) : List Value := (List.range n).map fun i => .bool (p i)

theorem boolCells_get {n : Nat} {p : Nat → Bool} {i : Nat} (h : i < n) : (boolCells n p)[i]? = some (.bool (p i)) := by simp [boolCells, h]
theorem boolCells_len (n : Nat) (p : Nat → Bool) : (boolCells n p).length = n := by simp [boolCells]
theorem boolCells_set {n : Nat} {p q : Nat → Bool} {i : Nat} (h : ∀ j, q j = (decide (j = i) || p j)) : (boolCells n p).set i (.bool true) = boolCells n q := by
  apply List.ext_getElem?
  intro j
  rw [List.getElem?_set]
  by_cases hj : j < n
  · rw [boolCells_get hj, boolCells_get hj]
    by_cases e : i = j
    · subst e; simp [boolCells_len, hj, h]
    · have e' : ¬ j = i := fun h => e h.symm
      simp [e, e', h]
  · have h1 : (boolCells n p)[j]? = none := by simp [boolCells]; omega
    have h2 : (boolCells n q)[j]? = none := by simp [boolCells]; omega
    rw [h1, h2]
    split
    · rename_i e; subst e; simp [boolCells_len, hj]
    · rfl
theorem boolCells_none (n : Nat) : List.replicate n (Value.bool false) = boolCells n fun _ => false := by
  apply List.ext_getElem?
  intro j
  by_cases hj : j < n
  · rw [boolCells_get hj]; simp [hj]
  · simp [boolCells, hj]

theorem in_ok (w : World) (slo shi tlo thi : Int) :
    Ret Tryz.prog 143 #[.agg #[.int .i64 slo, .int .i64 shi], .agg #[.int .i64 tlo, .int .i64 thi]] w fun v w' => v = .bool (decide (tlo ≤ slo ∧ shi ≤ thi)) ∧ Chg [] w w' := by
  by_cases h : tlo ≤ slo
  · refine Ret.of_W (n := 17) Tryz.func143 rfl rfl (Nat.le_of_ble_eq_true rfl) ?_
    refine W.seq fun K hK => ?_
    refine W.region (by rfl) ?_
    refine Flow.box rfl (cs := [_, _]) rfl fun w1 c1 s1 b1 => ?_
    refine Flow.box rfl (cs := [_, _]) rfl fun w2 c2 s2 b2 => ?_
    refine Flow.assignC ?_
    refine hK _ _ _ ?_
    clear hK K
    refine W.seq fun K hK => ?_
    refine W.region (by rfl) ?_
    refine Flow.fieldAddr Tf.fo_44_0 rfl ?_
    refine Flow.load1 Tf.ty_3 rfl (b2.cell 0) ?_
    refine Flow.fieldAddr Tf.fo_44_0 rfl ?_
    refine Flow.load1 Tf.ty_3 rfl ((b1.chg c2 (by simp)).cell 0) ?_
    refine Flow.leqD (c := true) rfl rfl (decide_eq_true (by omega)) ?_
    refine Flow.move (v := .bool _) rfl ?_
    refine Flow.on rfl rfl ?_
    refine Flow.fieldAddr Tf.fo_44_1 rfl ?_
    refine Flow.on rfl rfl ?_
    refine Flow.load1 Tf.ty_3 rfl ((b1.chg c2 (by simp)).cell 1) ?_
    refine Flow.on rfl rfl ?_
    refine Flow.fieldAddr Tf.fo_44_1 rfl ?_
    refine Flow.on rfl rfl ?_
    refine Flow.load1 Tf.ty_3 rfl (b2.cell 1) ?_
    refine Flow.on rfl rfl ?_
    refine Flow.leq rfl rfl ?_
    refine Flow.pickT rfl rfl ?_
    refine Flow.assign (v := .bool _) rfl ?_
    refine hK _ _ _ ?_
    clear hK K
    refine W.ret ⟨_, res1 rfl (v := .bool _) rfl, by simp [h], c1.then c2⟩
  · refine Ret.of_W (n := 17) Tryz.func143 rfl rfl (Nat.le_of_ble_eq_true rfl) ?_
    refine W.seq fun K hK => ?_
    refine W.region (by rfl) ?_
    refine Flow.box rfl (cs := [_, _]) rfl fun w1 c1 s1 b1 => ?_
    refine Flow.box rfl (cs := [_, _]) rfl fun w2 c2 s2 b2 => ?_
    refine Flow.assignC ?_
    refine hK _ _ _ ?_
    clear hK K
    refine W.seq fun K hK => ?_
    refine W.region (by rfl) ?_
    refine Flow.fieldAddr Tf.fo_44_0 rfl ?_
    refine Flow.load1 Tf.ty_3 rfl (b2.cell 0) ?_
    refine Flow.fieldAddr Tf.fo_44_0 rfl ?_
    refine Flow.load1 Tf.ty_3 rfl ((b1.chg c2 (by simp)).cell 0) ?_
    refine Flow.leqD (c := false) rfl rfl (decide_eq_false (by omega)) ?_
    refine Flow.move (v := .bool _) rfl ?_
    refine Flow.off (c := false) rfl rfl rfl ?_
    refine Flow.off (c := false) rfl rfl rfl ?_
    refine Flow.off (c := false) rfl rfl rfl ?_
    refine Flow.off (c := false) rfl rfl rfl ?_
    refine Flow.off (c := false) rfl rfl rfl ?_
    refine Flow.pickF rfl rfl ?_
    refine Flow.assign (v := .bool _) rfl ?_
    refine hK _ _ _ ?_
    clear hK K
    refine W.ret ⟨_, res1 rfl (v := .bool _) rfl, by simp [h], c1.then c2⟩

theorem span_ok (w : World) (days slo shi : Int) (ac af : Option Addr) (lc cc lf cf : Nat) :
    Ret Tryz.prog 88 #[.agg #[.int .i64 days, .slice ac lc cc, .slice af lf cf], .agg #[.int .i64 slo, .int .i64 shi]] w fun v w' => v = .bool (spanOk days slo shi) ∧ Chg [] w w' := by
  by_cases h1 : 0 ≤ slo
  · by_cases h2 : slo ≤ shi
    · refine Ret.of_W (n := 22) Tryz.func88 rfl rfl (Nat.le_of_ble_eq_true rfl) ?_
      refine W.seq fun K hK => ?_
      refine W.region (by rfl) ?_
      refine Flow.box rfl (cs := [_, _, _]) rfl fun w1 c1 s1 b1 => ?_
      refine Flow.box rfl (cs := [_, _]) rfl fun w2 c2 s2 b2 => ?_
      refine Flow.assignC ?_
      refine hK _ _ _ ?_
      clear hK K
      refine W.seq fun K hK => ?_
      refine W.region (by rfl) ?_
      refine Flow.fieldAddr Tf.fo_44_0 rfl ?_
      refine Flow.load1 Tf.ty_3 rfl (b2.cell 0) ?_
      refine Flow.leqD (c := true) rfl rfl (decide_eq_true (by omega)) ?_
      refine Flow.move (v := .bool _) rfl ?_
      refine Flow.on rfl rfl ?_
      refine Flow.fieldAddr Tf.fo_44_0 rfl ?_
      refine Flow.on rfl rfl ?_
      refine Flow.load1 Tf.ty_3 rfl (b2.cell 0) ?_
      refine Flow.on rfl rfl ?_
      refine Flow.fieldAddr Tf.fo_44_1 rfl ?_
      refine Flow.on rfl rfl ?_
      refine Flow.load1 Tf.ty_3 rfl (b2.cell 1) ?_
      refine Flow.on rfl rfl ?_
      refine Flow.leqD (c := true) rfl rfl (decide_eq_true (by omega)) ?_
      refine Flow.pickT rfl rfl ?_
      refine Flow.move (v := .bool _) rfl ?_
      refine Flow.on rfl rfl ?_
      refine Flow.fieldAddr Tf.fo_44_1 rfl ?_
      refine Flow.on rfl rfl ?_
      refine Flow.load1 Tf.ty_3 rfl (b2.cell 1) ?_
      refine Flow.on rfl rfl ?_
      refine Flow.fieldAddr Tf.fo_25_0 rfl ?_
      refine Flow.on rfl rfl ?_
      refine Flow.load1 Tf.ty_3 rfl ((b1.chg c2 (by simp)).cell 0) ?_
      refine Flow.on rfl rfl ?_
      refine Flow.lss rfl rfl ?_
      refine Flow.pickT rfl rfl ?_
      refine Flow.assign (v := .bool _) rfl ?_
      refine hK _ _ _ ?_
      clear hK K
      refine W.ret ⟨_, res1 rfl (v := .bool _) rfl, by simp [h1, h2, spanOk], c1.then c2⟩
    · refine Ret.of_W (n := 22) Tryz.func88 rfl rfl (Nat.le_of_ble_eq_true rfl) ?_
      refine W.seq fun K hK => ?_
      refine W.region (by rfl) ?_
      refine Flow.box rfl (cs := [_, _, _]) rfl fun w1 c1 s1 b1 => ?_
      refine Flow.box rfl (cs := [_, _]) rfl fun w2 c2 s2 b2 => ?_
      refine Flow.assignC ?_
      refine hK _ _ _ ?_
      clear hK K
      refine W.seq fun K hK => ?_
      refine W.region (by rfl) ?_
      refine Flow.fieldAddr Tf.fo_44_0 rfl ?_
      refine Flow.load1 Tf.ty_3 rfl (b2.cell 0) ?_
      refine Flow.leqD (c := true) rfl rfl (decide_eq_true (by omega)) ?_
      refine Flow.move (v := .bool _) rfl ?_
      refine Flow.on rfl rfl ?_
      refine Flow.fieldAddr Tf.fo_44_0 rfl ?_
      refine Flow.on rfl rfl ?_
      refine Flow.load1 Tf.ty_3 rfl (b2.cell 0) ?_
      refine Flow.on rfl rfl ?_
      refine Flow.fieldAddr Tf.fo_44_1 rfl ?_
      refine Flow.on rfl rfl ?_
      refine Flow.load1 Tf.ty_3 rfl (b2.cell 1) ?_
      refine Flow.on rfl rfl ?_
      refine Flow.leqD (c := false) rfl rfl (decide_eq_false (by omega)) ?_
      refine Flow.pickT rfl rfl ?_
      refine Flow.move (v := .bool _) rfl ?_
      refine Flow.off (c := false) rfl rfl rfl ?_
      refine Flow.off (c := false) rfl rfl rfl ?_
      refine Flow.off (c := false) rfl rfl rfl ?_
      refine Flow.off (c := false) rfl rfl rfl ?_
      refine Flow.off (c := false) rfl rfl rfl ?_
      refine Flow.pickF rfl rfl ?_
      refine Flow.assign (v := .bool _) rfl ?_
      refine hK _ _ _ ?_
      clear hK K
      refine W.ret ⟨_, res1 rfl (v := .bool _) rfl, by simp [h1, h2, spanOk], c1.then c2⟩
  · refine Ret.of_W (n := 22) Tryz.func88 rfl rfl (Nat.le_of_ble_eq_true rfl) ?_
    refine W.seq fun K hK => ?_
    refine W.region (by rfl) ?_
    refine Flow.box rfl (cs := [_, _, _]) rfl fun w1 c1 s1 b1 => ?_
    refine Flow.box rfl (cs := [_, _]) rfl fun w2 c2 s2 b2 => ?_
    refine Flow.assignC ?_
    refine hK _ _ _ ?_
    clear hK K
    refine W.seq fun K hK => ?_
    refine W.region (by rfl) ?_
    refine Flow.fieldAddr Tf.fo_44_0 rfl ?_
    refine Flow.load1 Tf.ty_3 rfl (b2.cell 0) ?_
    refine Flow.leqD (c := false) rfl rfl (decide_eq_false (by omega)) ?_
    refine Flow.move (v := .bool _) rfl ?_
    refine Flow.off (c := false) rfl rfl rfl ?_
    refine Flow.off (c := false) rfl rfl rfl ?_
    refine Flow.off (c := false) rfl rfl rfl ?_
    refine Flow.off (c := false) rfl rfl rfl ?_
    refine Flow.off (c := false) rfl rfl rfl ?_
    refine Flow.pickF rfl rfl ?_
    refine Flow.move (v := .bool _) rfl ?_
    refine Flow.off (c := false) rfl rfl rfl ?_
    refine Flow.off (c := false) rfl rfl rfl ?_
    refine Flow.off (c := false) rfl rfl rfl ?_
    refine Flow.off (c := false) rfl rfl rfl ?_
    refine Flow.off (c := false) rfl rfl rfl ?_
    refine Flow.pickF rfl rfl ?_
    refine Flow.assign (v := .bool _) rfl ?_
    refine hK _ _ _ ?_
    clear hK K
    refine W.ret ⟨_, res1 rfl (v := .bool _) rfl, by simp [h1, spanOk], c1.then c2⟩

theorem isOpen_ok (w : World) (t : Tour) (ac af : Option Addr) (cc cf : Nat) (lo hi d : Int) (hC : IL w ac t.closed) (hs : t.closed.length ≤ 1000000) :
    Ret Tryz.prog 121 #[.agg #[.int .i64 t.days, .slice ac t.closed.length cc, .slice af t.flaws.length cf], .agg #[.int .i64 lo, .int .i64 hi], .int .i64 d] w fun v w' =>
      v = .bool (decide ((lo ≤ d ∧ d ≤ hi) ∧ d ∉ t.closed)) ∧ Chg [] w w' := by
  by_cases h : lo ≤ d ∧ d ≤ hi
  · refine Ret.of_W (n := 20) Tryz.func121 rfl rfl (Nat.le_of_ble_eq_true rfl) ?_
    refine W.seq fun K hK => ?_
    refine W.region (by rfl) ?_
    refine Flow.box rfl (cs := [_, _, _]) rfl fun w1 c1 s1 b1 => ?_
    refine Flow.box rfl (cs := [_, _]) rfl fun w2 c2 s2 b2 => ?_
    refine Flow.assignC ?_
    refine hK _ _ _ ?_
    clear hK K
    refine W.seq fun K hK => ?_
    refine W.region (by rfl) ?_
    refine Flow.move (v := .int _ _) rfl ?_
    refine Flow.fieldAddr Tf.fo_44_0 rfl ?_
    refine Flow.load1 Tf.ty_3 rfl (b2.cell 0) ?_
    refine Flow.fieldAddr Tf.fo_44_1 rfl ?_
    refine Flow.load1 Tf.ty_3 rfl (b2.cell 1) ?_
    refine Flow.call3 Tf.hb_111 (v1 := .int _ _) rfl (v2 := .int _ _) rfl (v3 := .int _ _) rfl ?_
    refine Ret.mono (within_ok _ _ _ _) ?_
    rintro _ w3 ⟨rfl, c3⟩
    rw [decide_eq_true h]
    refine Flow.move (v := .bool _) rfl ?_
    refine Flow.on rfl rfl ?_
    refine Flow.fieldAddr Tf.fo_25_1 rfl ?_
    refine Flow.on rfl rfl ?_
    refine Flow.load1 Tf.ty_22 rfl ((b1.chg (c2.then c3) (by simp)).cell 1) ?_
    refine Flow.on rfl rfl ?_
    refine Flow.move (v := .int _ _) rfl ?_
    refine Flow.on rfl rfl ?_
    refine Flow.call2 Tf.hb_129 (v1 := .slice _ _ _) rfl (v2 := .int _ _) rfl ?_
    refine Ret.mono (contains_ok _ _ _ _ _ (hC.ext (c1.then (c2.then c3))) hs) ?_
    rintro _ w4 ⟨rfl, c4⟩
    refine Flow.on rfl rfl ?_
    refine Flow.not rfl ?_
    refine Flow.pickT rfl rfl ?_
    refine Flow.assign (v := .bool _) rfl ?_
    refine hK _ _ _ ?_
    clear hK K
    refine W.ret ⟨_, res1 rfl (v := .bool _) rfl, by simp [h], c1.then (c2.then (c3.then c4))⟩
  · refine Ret.of_W (n := 20) Tryz.func121 rfl rfl (Nat.le_of_ble_eq_true rfl) ?_
    refine W.seq fun K hK => ?_
    refine W.region (by rfl) ?_
    refine Flow.box rfl (cs := [_, _, _]) rfl fun w1 c1 s1 b1 => ?_
    refine Flow.box rfl (cs := [_, _]) rfl fun w2 c2 s2 b2 => ?_
    refine Flow.assignC ?_
    refine hK _ _ _ ?_
    clear hK K
    refine W.seq fun K hK => ?_
    refine W.region (by rfl) ?_
    refine Flow.move (v := .int _ _) rfl ?_
    refine Flow.fieldAddr Tf.fo_44_0 rfl ?_
    refine Flow.load1 Tf.ty_3 rfl (b2.cell 0) ?_
    refine Flow.fieldAddr Tf.fo_44_1 rfl ?_
    refine Flow.load1 Tf.ty_3 rfl (b2.cell 1) ?_
    refine Flow.call3 Tf.hb_111 (v1 := .int _ _) rfl (v2 := .int _ _) rfl (v3 := .int _ _) rfl ?_
    refine Ret.mono (within_ok _ _ _ _) ?_
    rintro _ w3 ⟨rfl, c3⟩
    rw [decide_eq_false h]
    refine Flow.move (v := .bool _) rfl ?_
    refine Flow.off (c := false) rfl rfl rfl ?_
    refine Flow.off (c := false) rfl rfl rfl ?_
    refine Flow.off (c := false) rfl rfl rfl ?_
    refine Flow.off (c := false) rfl rfl rfl ?_
    refine Flow.off (c := false) rfl rfl rfl ?_
    refine Flow.pickF rfl rfl ?_
    refine Flow.assign (v := .bool _) rfl ?_
    refine hK _ _ _ ?_
    clear hK K
    refine W.ret ⟨_, res1 rfl (v := .bool _) rfl, by simp [h], c1.then (c2.then c3)⟩

theorem fId {w : World} {b o : Nat} {f : Flaw} (h : Cells w b o (flawCells f)) : w.cell? ⟨b, o, none⟩ = some (.int .i64 f.id) := h.1
theorem fSpan {w : World} {b o : Nat} {f : Flaw} (h : Cells w b o (flawCells f)) : Cells w b (o + 1) [.int .i64 f.lo, .int .i64 f.hi] := ⟨h.2.1, h.2.2.1, trivial⟩
theorem fMerit {w : World} {b o : Nat} {f : Flaw} (h : Cells w b o (flawCells f)) : w.cell? ⟨b, o + 3, none⟩ = some (.int .i64 f.merit) := h.2.2.2.1

theorem wrongS_nil (c : List Int) (k : Nat) (fl : List Flaw) (tk : List Int) : wrongS c k fl [] tk = -1 := by cases fl <;> rfl

theorem wrong_ok (w : World) (t : Tour) (ac af ao : Option Addr) (cc cf co : Nat) (on : List Int) (hC : IL w ac t.closed) (hF : FL w af t.flaws) (hO : IL w ao on) (hs : Small t) (hn : on.length ≤ t.flaws.length) :
    Ret Tryz.prog 90 #[.agg #[.int .i64 t.days, .slice ac t.closed.length cc, .slice af t.flaws.length cf], .slice ao on.length co] w fun v w' =>
      v = .int .i64 (wrongS t.closed 0 t.flaws on []) ∧ Chg [] w w' := by
  have hcl := hs.cl
  have hfl := hs.fl
  refine Ret.of_W (n := 36) Tryz.func90 rfl rfl (Nat.le_of_ble_eq_true rfl) ?_
  refine W.seq fun K hK => ?_
  refine W.region (by rfl) ?_
  refine Flow.box rfl (cs := [_, _, _]) rfl fun w1 c1 s1 b1 => ?_
  refine Flow.assignC ?_
  refine hK _ _ _ ?_
  clear hK K
  refine W.seq fun K hK => ?_
  refine W.region (by rfl) ?_
  refine Flow.alloc Tf.ty_155 (cs := List.replicate 60 (.bool false)) (by simp [Value.cells]) fun w2 c2 s2 b2 => ?_
  refine hK _ _ _ ?_
  clear hK K
  rw [boolCells_none] at b2
  refine W.seq fun K1 hK1 => ?_
  refine W.seq fun K hK => ?_
  refine W.region (by rfl) ?_
  refine Flow.move (v := .slice _ _ _) rfl ?_
  refine Flow.len rfl Tf.us_22 rfl rfl ?_
  refine Flow.moveC ?_
  refine hK _ _ _ ?_
  clear hK K
  refine W.block ?_
  refine W.loop (ι := Nat × List Int) (fun k ds e w' => ds = [] ∧ k.1 ≤ on.length ∧ AllAt e [(1, .slice ao on.length co), (2, .pointer (some ⟨w.heap.size, 0, none⟩)), (5, .pointer (some ⟨w1.heap.size, 0, none⟩)), (8, .slice ao on.length co), (9, .int .i64 on.length), (10, .int .i64 k.1)] ∧
      Chg [] w w' ∧ Chg [w1.heap.size] w2 w' ∧ Blk w' w1.heap.size (boolCells 60 fun i => decide ((i : Int) ∈ k.2)) 155 ∧ wrongS t.closed 0 t.flaws on [] = wrongS t.closed k.1 (t.flaws.drop k.1) (on.drop k.1) k.2)
    (fun k => on.length - k.1) (i0 := (0, [])) ⟨rfl, by omega, ⟨rfl, rfl, rfl, rfl, rfl, rfl, trivial⟩, c1.then c2, Chg.refl _ _, by simpa using b2, by simp⟩ ?_
  rintro ⟨k, tk⟩ ds e w' ⟨rfl, hk, hE, hc, hc2, hb, hw⟩
  obtain ⟨e, rfl⟩ : ∃ e0, e = putL e0 _ := ⟨e, putL_self hE⟩
  clear hE
  simp only at hk hw hb ⊢
  refine W.seq fun K hK => ?_
  refine W.region (by rfl) ?_
  refine Flow.lss rfl rfl ?_
  refine hK _ _ _ ?_
  clear hK K
  refine W.seq fun K2 hK2 => ?_
  refine W.cond rfl (fun h => W.skip (hK2 _ _ _ ?_)) (fun h => W.exit ?_)
  · have hlt : k < on.length := by simpa using h
    have hltf : k < t.flaws.length := by omega
    obtain ⟨b, o, rfl, hcell⟩ := (hO.ext hc).get hlt
    obtain ⟨bf, of_, rfl, hflaw⟩ := (hF.ext hc).get hltf
    have hf := hflaw k hltf
    have hsp := hs.sp _ (List.getElem_mem hltf)
    have hdl := hs.dl
    have hdh := hs.dh
    rw [List.drop_eq_getElem_cons hlt, List.drop_eq_getElem_cons hltf] at hw
    refine W.seq fun K3 hK3 => ?_
    refine W.block ?_
    refine W.seq fun K hK => ?_
    refine W.region (by rfl) ?_
    refine Flow.move (v := .int _ _) rfl ?_
    refine Flow.indexAddr1 Tf.sl_22 rfl rfl (by omega) (by omega) ?_
    refine Flow.load1 Tf.ty_3 rfl (hcell k hlt) ?_
    refine Flow.assign (v := .int _ _) rfl ?_
    refine Flow.assign (v := .int _ _) rfl ?_
    refine hK _ _ _ ?_
    clear hK K
    refine W.seq fun K5 hK5 => ?_
    refine W.seq fun K hK => ?_
    refine W.region (by rfl) ?_
    refine Flow.move (v := .int _ _) rfl ?_
    refine Flow.eql rfl rfl ?_
    refine hK _ _ _ ?_
    clear hK K
    refine W.cond rfl (fun h => W.exit (hK3 _ _ _ ?_)) (fun h => W.skip (hK5 _ _ _ ?_))
    · have he : on[k] = -1 := by simpa using h
      rw [wrongS, if_pos he] at hw
      refine W.region (by rfl) ?_
      refine Flow.add rfl rfl (by omega) (by omega) ?_
      refine Flow.move (v := .int _ _) rfl ?_
      exact Flow.nil ⟨(k + 1, tk), by omega, rfl, by simp only; omega, ⟨rfl, rfl, rfl, rfl, rfl, rfl, trivial⟩, hc, hc2, hb, hw⟩
    · have he : on[k] ≠ -1 := by simpa using h
      rw [wrongS, if_neg he] at hw
      refine W.seq fun K6 hK6 => ?_
      have b1' : Blk w' w.heap.size _ _ := (b1.chg c2 (by simp)).chg hc2 (by simp; omega)
      by_cases ho : (t.flaws[k].lo ≤ on[k] ∧ on[k] ≤ t.flaws[k].hi) ∧ on[k] ∉ t.closed
      · refine W.seq fun K hK => ?_
        refine W.regionD [8] [] (by kernel_rfl) (by kernel_rfl) fun w0 c0 h0 => ?_
        refine FD.val (fun _ hw => Rn.loadA Tf.ty_25 rfl rfl ((b1'.chg c0 (by simp)).cells0) (hw rfl rfl)) ?_
        refine FD.val (fun _ hw => Rn.fieldAddr Tf.fo_25_2 rfl) ?_
        refine FD.val (fun _ hw => Rn.load1 Tf.ty_23 rfl ((b1'.chg c0 (by simp)).cell 2) (hw rfl rfl)) ?_
        refine FD.val (fun _ hw => Rn.move (v := .int _ _) rfl) ?_
        refine FD.val (fun _ hw => Rn.indexAddr Tf.sl_23 rfl rfl (by omega) (by omega)) ?_
        refine FD.val (fun _ hw => Rn.fieldAddr Tf.fo_81_1 rfl) ?_
        refine FD.val (fun _ hw => Rn.loadA Tf.ty_44 rfl rfl (Cells.chg c0 (by simp) (fSpan hf)) (hw rfl rfl)) ?_
        refine FD.val (fun _ hw => Rn.move (v := .int _ _) rfl) ?_
        refine FD.eff (by rfl) (Chg.refl _ _) ?_
        refine Flow.call3 Tf.hb_121 (v1 := .agg _) rfl (v2 := .agg _) rfl (v3 := .int _ _) rfl ?_
        refine Ret.mono (isOpen_ok _ t _ _ _ _ _ _ _ (hC.ext (hc.then c0)) (by omega)) ?_
        rintro _ w3 ⟨rfl, c3⟩
        refine Flow.nil ⟨c3, ?_⟩
        rw [decide_eq_true ho]
        have h0 : (((on[k] : Int).toNat : Nat) : Int) = on[k] := Int.toNat_of_nonneg (by omega)
        refine FD.val (fun _ hw => Rn.not rfl) ?_
        refine FD.val (fun _ hw => Rn.move (v := .bool _) rfl) ?_
        refine FD.on rfl rfl ?_
        refine FD.val (fun _ hw => Rn.move (v := .int _ _) rfl) ?_
        refine FD.on rfl rfl ?_
        refine FD.val (fun _ hw => Rn.indexAddrA Tf.ua_155 rfl rfl (by omega) (by omega)) ?_
        refine FD.on rfl rfl ?_
        refine FD.val (fun _ hw => Rn.load1 Tf.ty_4 rfl (((hb.chg c0 (by simp)).cell _).trans (boolCells_get (by omega))) (hw rfl rfl)) ?_
        refine FD.val (fun _ hw => Rn.pickF rfl rfl) ?_
        refine FD.nil ?_
        refine hK _ _ _ ?_
        clear hK K
        refine W.cond rfl (fun h => ?_) (fun h => W.skip (hK6 _ _ _ ?_))
        · have ht : on[k] ∈ tk := by simpa [h0] using h
          refine W.seq fun K hK => ?_
          refine W.region (by rfl) ?_
          refine Flow.move (v := .int _ _) rfl ?_
          refine Flow.assign (v := .int _ _) rfl ?_
          refine hK _ _ _ ?_
          clear hK K
          rw [if_neg (fun h => h.2 ht)] at hw
          refine W.ret ⟨_, res1 rfl (v := .int _ _) rfl, by rw [hw], hc.then (c0.then c3)⟩
        · have ht : on[k] ∉ tk := by simpa [h0] using h
          rw [if_pos ⟨⟨ho.1.1, ho.1.2, ho.2⟩, ht⟩] at hw
          have hb3 := hb.chg (c0.then c3) (by simp)
          refine W.region (by rfl) ?_
          refine Flow.move (v := .int _ _) rfl ?_
          refine Flow.indexAddrA Tf.ua_155 rfl rfl (by omega) (by omega) ?_
          refine Flow.store1 Tf.ty_4 rfl (v := .bool _) rfl (hb3) (by simp [boolCells_len]; omega) rfl fun w4 c4 s4 b4 => ?_
          rw [Nat.zero_add, boolCells_set (q := fun i => decide ((i : Int) ∈ on[k] :: tk)) (fun j => ?_)] at b4
          · refine Flow.nil (hK3 _ _ _ ?_)
            refine W.region (by rfl) ?_
            refine Flow.add rfl rfl (by omega) (by omega) ?_
            refine Flow.move (v := .int _ _) rfl ?_
            refine Flow.nil ⟨(k + 1, on[k] :: tk), by omega, rfl, by simp only; omega, ⟨rfl, rfl, rfl, rfl, rfl, rfl, trivial⟩, (hc.then (c0.then c3)).step c4 (by simp; omega), (hc2.trans (c0.then c3) (by simp)).trans c4 (fun _ _ h => h), b4, hw⟩
          · simp only [List.mem_cons]
            by_cases e : j = (on[k]).toNat
            · subst e; simp [h0]
            · have : ¬ (j : Int) = on[k] := by omega
              simp [e, this]
      · refine W.seq fun K hK => ?_
        refine W.regionD [8] [] (by kernel_rfl) (by kernel_rfl) fun w0 c0 h0 => ?_
        refine FD.val (fun _ hw => Rn.loadA Tf.ty_25 rfl rfl ((b1'.chg c0 (by simp)).cells0) (hw rfl rfl)) ?_
        refine FD.val (fun _ hw => Rn.fieldAddr Tf.fo_25_2 rfl) ?_
        refine FD.val (fun _ hw => Rn.load1 Tf.ty_23 rfl ((b1'.chg c0 (by simp)).cell 2) (hw rfl rfl)) ?_
        refine FD.val (fun _ hw => Rn.move (v := .int _ _) rfl) ?_
        refine FD.val (fun _ hw => Rn.indexAddr Tf.sl_23 rfl rfl (by omega) (by omega)) ?_
        refine FD.val (fun _ hw => Rn.fieldAddr Tf.fo_81_1 rfl) ?_
        refine FD.val (fun _ hw => Rn.loadA Tf.ty_44 rfl rfl (Cells.chg c0 (by simp) (fSpan hf)) (hw rfl rfl)) ?_
        refine FD.val (fun _ hw => Rn.move (v := .int _ _) rfl) ?_
        refine FD.eff (by rfl) (Chg.refl _ _) ?_
        refine Flow.call3 Tf.hb_121 (v1 := .agg _) rfl (v2 := .agg _) rfl (v3 := .int _ _) rfl ?_
        refine Ret.mono (isOpen_ok _ t _ _ _ _ _ _ _ (hC.ext (hc.then c0)) (by omega)) ?_
        rintro _ w3 ⟨rfl, c3⟩
        refine Flow.nil ⟨c3, ?_⟩
        rw [decide_eq_false ho]
        refine FD.val (fun _ hw => Rn.not rfl) ?_
        refine FD.val (fun _ hw => Rn.move (v := .bool _) rfl) ?_
        refine FD.off (c := true) rfl rfl rfl ?_
        refine FD.off (c := true) rfl rfl rfl ?_
        refine FD.off (c := true) rfl rfl rfl ?_
        refine FD.val (fun _ hw => Rn.pickT rfl rfl) ?_
        refine FD.nil ?_
        refine hK _ _ _ ?_
        clear hK K
        refine W.cond (t := true) rfl (fun _ => ?_) (fun h => by simp at h)
        refine W.seq fun K hK => ?_
        refine W.region (by rfl) ?_
        refine Flow.move (v := .int _ _) rfl ?_
        refine Flow.assign (v := .int _ _) rfl ?_
        refine hK _ _ _ ?_
        clear hK K
        rw [if_neg (fun h => ho ⟨⟨h.1.1, h.1.2.1⟩, h.1.2.2⟩)] at hw
        refine W.ret ⟨_, res1 rfl (v := .int _ _) rfl, by rw [hw], hc.then (c0.then c3)⟩
  · have hge : k = on.length := by simp at h; omega
    subst hge
    rw [List.drop_length, wrongS_nil] at hw
    refine hK1 _ _ _ ?_
    refine W.seq fun K hK => ?_
    refine W.region (by rfl) ?_
    refine Flow.assignC ?_
    refine hK _ _ _ ?_
    clear hK K
    refine W.ret ⟨_, res1 rfl (v := .int _ _) rfl, by rw [hw], hc⟩

end Go.Proofs.YtkoejelglinmnaaGreat

/-
  Contracts: IndexFunc over flaws, find, listed.
-/
namespace Go.Proofs.YtkoejelglinmnaaGreat
open Sg
set_option maxRecDepth 100000

/-- The first place of what has a property; -1 if there is none. -/
def idxS {α : Type} (p : α → Bool) : Nat → List α → Int
  | _, [] => -1
  | k, x :: l => if p x then k else idxS p (k + 1) l

theorem findS_eq (id : Int) : ∀ (k : Nat) (l : List Flaw), findS id k l = idxS (fun f => decide (f.id = id)) k l
  | _, [] => rfl
  | k, f :: l => by simp only [findS, idxS, findS_eq id (k + 1) l, decide_eq_true_eq]

theorem idxS_ge {α : Type} (p : α → Bool) : ∀ (k : Nat) (l : List α), idxS p k l = -1 ∨ ((k : Int) ≤ idxS p k l ∧ idxS p k l < k + l.length)
  | _, [] => .inl rfl
  | k, x :: l => by
    simp only [idxS, List.length_cons]
    split
    · right; omega
    · rcases idxS_ge p (k + 1) l with h | h
      · exact .inl h
      · right; omega

theorem findS_ge (id : Int) (l : List Flaw) : findS id 0 l = -1 ∨ (0 ≤ findS id 0 l ∧ findS id 0 l < l.length) := by
  rw [findS_eq]
  rcases idxS_ge (fun f : Flaw => decide (f.id = id)) 0 l with h | h
  · exact .inl h
  · exact .inr ⟨by omega, by omega⟩

theorem indexFuncF_ok (w : World) (a : Option Addr) (c : Nat) (l : List Flaw) (fn : FuncId) (caps : Array Value) (p : Flaw → Bool) (hl : FL w a l) (hn : l.length ≤ 1000000) (hb : HasBody Tryz.prog fn)
    (hp : ∀ f ∈ l, ∀ w1, Chg [] w w1 → Ret Tryz.prog fn (#[.agg #[.int .i64 f.id, .int .i64 f.lo, .int .i64 f.hi, .int .i64 f.merit]] ++ caps) w1 fun v w2 => v = .bool (p f) ∧ Chg [] w1 w2) :
    Ret Tryz.prog 133 #[.slice a l.length c, .func (.func fn) #[] caps] w fun v w' => v = .int .i64 (idxS p 0 l) ∧ Chg [] w w' := by
  refine Ret.of_W (n := 19) Tryz.func133 rfl rfl (Nat.le_of_ble_eq_true rfl) ?_
  refine W.seq fun K hK => ?_
  refine W.region (by rfl) ?_
  refine Flow.assignC ?_
  refine hK _ _ _ ?_
  clear hK K
  refine W.seq fun K0 hK0 => ?_
  refine W.seq fun K hK => ?_
  refine W.region (by rfl) ?_
  refine Flow.move (v := .slice _ _ _) rfl ?_
  refine Flow.len rfl Tf.us_23 rfl rfl ?_
  refine Flow.moveC ?_
  refine hK _ _ _ ?_
  clear hK K
  refine W.block ?_
  refine W.loop (ι := Nat) (fun k ds e w' => ds = [] ∧ k ≤ l.length ∧ AllAt e [(0, .slice a l.length c), (1, .func (.func fn) #[] caps), (7, .int .i64 l.length), (8, .int .i64 k)] ∧ Chg [] w w' ∧ idxS p 0 l = idxS p k (l.drop k))
    (fun k => l.length - k) (i0 := 0) ⟨rfl, by omega, ⟨rfl, rfl, rfl, rfl, trivial⟩, Chg.refl _ _, by simp⟩ ?_
  rintro k ds e w' ⟨rfl, hk, hE, hc, hw⟩
  obtain ⟨e, rfl⟩ : ∃ e0, e = putL e0 _ := ⟨e, putL_self hE⟩
  clear hE
  refine W.seq fun K hK => ?_
  refine W.region (by rfl) ?_
  refine Flow.lss rfl rfl ?_
  refine hK _ _ _ ?_
  clear hK K
  refine W.seq fun K2 hK2 => ?_
  refine W.cond rfl (fun h => W.skip (hK2 _ _ _ ?_)) (fun h => W.exit ?_)
  · have hlt : k < l.length := by simpa using h
    obtain ⟨b, o, rfl, hcell⟩ := (hl.ext hc).get hlt
    rw [List.drop_eq_getElem_cons hlt, idxS] at hw
    refine W.seq fun K3 hK3 => ?_
    refine W.block ?_
    refine W.seq fun K hK => ?_
    refine W.region (by rfl) ?_
    refine Flow.move (v := .int _ _) rfl ?_
    refine Flow.assign (v := .int _ _) rfl ?_
    refine hK _ _ _ ?_
    clear hK K
    refine W.seq fun K hK => ?_
    refine W.region (by rfl) ?_
    refine Flow.move (v := .func _ _ _) rfl ?_
    refine Flow.move (v := .slice _ _ _) rfl ?_
    refine Flow.move (v := .int _ _) rfl ?_
    refine Flow.indexAddr Tf.sl_23 rfl rfl (by omega) (by omega) ?_
    refine Flow.loadA Tf.ty_81 rfl rfl (hcell k hlt) ?_
    refine Flow.callV1 rfl hb (v1 := .agg _) rfl ?_
    refine Ret.mono (hp _ (List.getElem_mem hlt) _ hc) ?_
    rintro _ w3 ⟨rfl, c3⟩
    refine hK _ _ _ ?_
    clear hK K
    refine W.cond rfl (fun h => ?_) (fun h => W.skip (hK3 _ _ _ ?_))
    · refine W.seq fun K hK => ?_
      refine W.region (by rfl) ?_
      refine Flow.move (v := .int _ _) rfl ?_
      refine Flow.assign (v := .int _ _) rfl ?_
      refine hK _ _ _ ?_
      clear hK K
      rw [if_pos h] at hw
      refine W.ret ⟨_, res1 rfl (v := .int _ _) rfl, by rw [hw], hc.then c3⟩
    · rw [if_neg (by simp [h])] at hw
      refine W.region (by rfl) ?_
      refine Flow.add rfl rfl (by omega) (by omega) ?_
      refine Flow.move (v := .int _ _) rfl ?_
      exact Flow.nil ⟨k + 1, by omega, rfl, by omega, ⟨rfl, rfl, rfl, rfl, trivial⟩, hc.then c3, hw⟩
  · have hge : k = l.length := by simp at h; omega
    subst hge
    rw [List.drop_length, idxS] at hw
    refine hK0 _ _ _ ?_
    refine W.seq fun K hK => ?_
    refine W.region (by rfl) ?_
    refine Flow.assignC ?_
    refine hK _ _ _ ?_
    clear hK K
    refine W.ret ⟨_, res1 rfl (v := .int _ _) rfl, by rw [hw], hc⟩

theorem find1_ok (w : World) (id : Int) (bi : Nat) (f : Flaw) (hi : w.cell? ⟨bi, 0, none⟩ = some (.int .i64 id)) :
    Ret Tryz.prog 134 #[.agg #[.int .i64 f.id, .int .i64 f.lo, .int .i64 f.hi, .int .i64 f.merit], .pointer (some ⟨bi, 0, none⟩)] w fun v w' => v = .bool (decide (f.id = id)) ∧ Chg [] w w' := by
  refine Ret.of_W (n := 8) Tryz.func134 rfl rfl (Nat.le_of_ble_eq_true rfl) ?_
  refine W.seq fun K hK => ?_
  refine W.region (by rfl) ?_
  refine Flow.box rfl (cs := [_, _, _, _]) rfl fun w1 c1 s1 b1 => ?_
  refine Flow.assignC ?_
  refine hK _ _ _ ?_
  clear hK K
  refine W.seq fun K hK => ?_
  refine W.region (by rfl) ?_
  refine Flow.fieldAddr Tf.fo_81_0 rfl ?_
  refine Flow.load1 Tf.ty_3 rfl (b1.cell 0) ?_
  refine Flow.load1 Tf.ty_3 rfl (cell_chg hi c1 (by simp)) ?_
  refine Flow.eql rfl rfl ?_
  refine Flow.assign (v := .bool _) rfl ?_
  refine hK _ _ _ ?_
  clear hK K
  refine W.ret ⟨_, res1 rfl (v := .bool _) rfl, rfl, c1⟩

theorem find_ok (w : World) (t : Tour) (ac af : Option Addr) (cc cf : Nat) (id : Int) (hF : FL w af t.flaws) (hs : Small t) :
    Ret Tryz.prog 76 #[.agg #[.int .i64 t.days, .slice ac t.closed.length cc, .slice af t.flaws.length cf], .int .i64 id] w fun v w' => v = .int .i64 (findS id 0 t.flaws) ∧ Chg [] w w' := by
  have := hs.fl
  refine Ret.of_W (n := 9) Tryz.func76 rfl rfl (Nat.le_of_ble_eq_true rfl) ?_
  refine W.seq fun K hK => ?_
  refine W.region (by rfl) ?_
  refine Flow.box rfl (cs := [_, _, _]) rfl fun w1 c1 s1 b1 => ?_
  refine Flow.box rfl (cs := [_]) rfl fun w2 c2 s2 b2 => ?_
  refine Flow.assignC ?_
  refine hK _ _ _ ?_
  clear hK K
  refine W.seq fun K hK => ?_
  refine W.region (by rfl) ?_
  refine Flow.fieldAddr Tf.fo_25_2 rfl ?_
  refine Flow.load1 Tf.ty_23 rfl ((b1.chg c2 (by simp)).cell 2) ?_
  refine Flow.makeFunc1 rfl ?_
  refine Flow.call2 Tf.hb_133 (v1 := .slice _ _ _) rfl (v2 := .func _ _ _) rfl ?_
  refine Ret.mono (indexFuncF_ok _ _ _ _ _ _ _ (hF.ext (c1.then c2)) (by omega) Tf.hb_134 (fun f _ w3 c3 => find1_ok w3 id _ f ((b2.chg c3 (by simp)).cell 0))) ?_
  rintro _ w4 ⟨rfl, c4⟩
  refine Flow.assign (v := .int _ _) rfl ?_
  refine hK _ _ _ ?_
  clear hK K
  refine W.ret ⟨_, res1 rfl (v := .int _ _) rfl, by rw [findS_eq], c1.then (c2.then c4)⟩

end Go.Proofs.YtkoejelglinmnaaGreat

/-
  Contracts: listed, flaws; own lists of ints.
-/
namespace Go.Proofs.YtkoejelglinmnaaGreat
open Sg
set_option maxRecDepth 100000

/-- A list of ints that began behind the world's first s blocks. -/
def ints (l : List Int) : List Value := l.map (Value.int .i64)

def Mine (s : Nat) (w : World) (a : Option Addr) (cap : Nat) (l : List Int) : Prop := Own w 3 1 a l.length cap (ints l) ∧ ∀ b ∈ ownB a, s ≤ b

theorem Mine.nil (s : Nat) (w : World) : Mine s w none 0 [] := ⟨Own.nil _ _ _, by simp [ownB]⟩

theorem Mine.ext {s : Nat} {w w' : World} {a : Option Addr} {cap : Nat} {l : List Int} (h : Mine s w a cap l) (hc : Chg [] w w') : Mine s w' a cap l := ⟨h.1.ext hc, h.2⟩

theorem Mine.chg {s : Nat} {w w' : World} {a : Option Addr} {cap : Nat} {l : List Int} {S : List Nat} (h : Mine s w a cap l) (hc : Chg S w w') (hS : ∀ b ∈ ownB a, b ∉ S) : Mine s w' a cap l := ⟨h.1.chg hc hS, h.2⟩

theorem Cells.ofGet {w : World} {b : Nat} : ∀ {l : List Value} {o : Nat}, (∀ (j : Nat) (v : Value), l[j]? = some v → w.cell? ⟨b, o + j, none⟩ = some v) → Cells w b o l
  | [], _, _ => trivial
  | v :: l, o, h => ⟨h 0 v rfl, Cells.ofGet fun j x hx => by have := h (j + 1) x (by simpa using hx); rwa [show o + 1 + j = o + (j + 1) from by omega]⟩

theorem Mine.il {s : Nat} {w : World} {a : Option Addr} {cap : Nat} {l : List Int} (h : Mine s w a cap l) : IL w a l := by
  rcases h.1.2 with ⟨_, hl, _⟩ | ⟨g, cs, rfl, hb, _, _, _, ht⟩
  · exact .inl (List.length_eq_zero_iff.1 hl)
  · refine .inr ⟨g, 0, rfl, fun i hi => ?_⟩
    rw [hb.cell]
    have h1 : (cs.take (l.length * 1))[i]? = some (.int .i64 l[i]) := by rw [ht]; simp [ints, hi]
    rw [List.getElem?_take] at h1
    split at h1
    · simpa using h1
    · cases h1

theorem Mine.cells {s : Nat} {w : World} {b o : Nat} {cap : Nat} {l : List Int} (h : Mine s w (some ⟨b, o, none⟩) cap l) : Cells w b o (ints l) := by
  refine Cells.ofGet fun j v hj => ?_
  rcases h.il with rfl | ⟨b', o', he, hc⟩
  · simp [ints] at hj
  · cases he
    have hjl : j < l.length := by
      have := (List.getElem?_eq_some_iff.1 hj).1
      simpa [ints] using this
    rw [hc j hjl]
    simpa [ints, hjl] using hj

/-- What append leaves, by one int. -/
theorem Mine.app {s : Nat} {w w' : World} {a a' : Option Addr} {cap cap' : Nat} {l : List Int} {v : Int} (h : Mine s w a cap l) (hs : s ≤ w.heap.size) (ho : Own w' 3 1 a' (l.length + 1) cap' (ints l ++ [.int .i64 v]))
    (hd : a' = a ∨ ∃ g, a' = some ⟨g, 0, none⟩ ∧ w.heap.size ≤ g) : Mine s w' a' cap' (l ++ [v]) := by
  refine ⟨by simpa [ints] using ho, ?_⟩
  rcases hd with rfl | ⟨g, rfl, hg⟩
  · exact h.2
  · intro b hb; simp [ownB] at hb; omega

theorem slen {a : Option Addr} {l : List Int} {v : Int} {c : Nat} : Value.slice a (l.length + 1) c = Value.slice a (l ++ [v]).length c := by simp

/-! ### listed -/
def okL (t : Tour) (ids : List Int) : Bool := (listedS t.flaws none ids).isSome
def plL (t : Tour) (ids : List Int) : List Int := (listedS t.flaws none ids).getD []

def prevAt (l : List Int) : Nat → Option Int
  | 0 => none
  | k + 1 => l[k]?

theorem prevAt_pos {l : List Int} {k : Nat} (h0 : 0 < k) (h : k < l.length) : prevAt l k = some l[k - 1] := by
  obtain ⟨j, rfl⟩ : ∃ j, k = j + 1 := ⟨k - 1, by omega⟩
  simp [prevAt]

theorem prevAt_succ {l : List Int} {k : Nat} (h : k < l.length) : prevAt l (k + 1) = some l[k] := by simp [prevAt, h]

theorem listedS_nil (fl : List Flaw) (p : Option Int) : listedS fl p [] = some [] := by cases p <;> rfl
theorem listedS_cons (fl : List Flaw) (p : Option Int) (id : Int) (ids : List Int) : listedS fl p (id :: ids) =
    if (decide (findS id 0 fl < 0) || (match p with | none => false | some p => decide (id ≤ p))) then none else (listedS fl (some id) ids).map (findS id 0 fl :: ·) := by cases p <;> rfl

/-- A slice that begins in no block that was there. -/
def NewA (s : Nat) (a : Option Addr) : Prop := ∀ x, a = some x → s ≤ x.block

theorem listed_ok (w : World) (t : Tour) (ac af : Option Addr) (cc cf : Nat) (ai : Option Addr) (ci : Nat) (ids : List Int) (hC : IL w ac t.closed) (hF : FL w af t.flaws) (hs : Small t) (hI : IL w ai ids) (hn : ids.length ≤ 1000) :
    Ret Tryz.prog 140 #[.agg #[.int .i64 t.days, .slice ac t.closed.length cc, .slice af t.flaws.length cf], .slice ai ids.length ci] w fun v w' =>
      (∃ a c, v = .tuple #[.slice a (plL t ids).length c, .bool (okL t ids)] ∧ IL w' a (plL t ids) ∧ NewA w.heap.size a) ∧ Chg [] w w' := by
  have hfl := hs.fl
  refine Ret.of_W (n := 41) Tryz.func140 rfl rfl (Nat.le_of_ble_eq_true rfl) ?_
  refine W.seq fun K hK => ?_
  refine W.region (by rfl) ?_
  refine Flow.box rfl (cs := [_, _, _]) rfl fun w1 c1 s1 b1 => ?_
  refine Flow.assignC ?_
  refine Flow.assignC ?_
  refine hK _ _ _ ?_
  clear hK K
  refine W.seq fun K hK => ?_
  refine W.region (by rfl) ?_
  refine Flow.assignC ?_
  refine hK _ _ _ ?_
  clear hK K
  refine W.seq fun K0 hK0 => ?_
  refine W.seq fun K hK => ?_
  refine W.region (by rfl) ?_
  refine Flow.move (v := .slice _ _ _) rfl ?_
  refine Flow.len rfl Tf.us_22 rfl rfl ?_
  refine Flow.moveC ?_
  refine hK _ _ _ ?_
  clear hK K
  refine W.block ?_
  refine W.loop (ι := Nat × List Int × Option Addr × Nat) (fun k ds e w' => ds = [] ∧ k.1 ≤ ids.length ∧ AllAt e [(1, .slice ai ids.length ci), (2, .pointer (some ⟨w.heap.size, 0, none⟩)), (6, .slice k.2.2.1 k.2.1.length k.2.2.2), (10, .slice ai ids.length ci), (11, .int .i64 ids.length), (12, .int .i64 k.1)] ∧
      Chg [] w1 w' ∧ k.2.1.length = k.1 ∧ Mine w1.heap.size w' k.2.2.1 k.2.2.2 k.2.1 ∧ listedS t.flaws none ids = (listedS t.flaws (prevAt ids k.1) (ids.drop k.1)).map (k.2.1 ++ ·))
    (fun k => ids.length - k.1) (i0 := (0, [], none, 0)) ⟨rfl, by omega, ⟨rfl, rfl, rfl, rfl, rfl, rfl, trivial⟩, Chg.refl _ _, rfl, Mine.nil _ _, by simp [prevAt]⟩ ?_
  rintro ⟨k, out, ao, co⟩ ds e w' ⟨rfl, hk, hE, hc, hol, ho, hw⟩
  obtain ⟨e, rfl⟩ : ∃ e0, e = putL e0 _ := ⟨e, putL_self hE⟩
  clear hE
  simp only at hk hw ho hol ⊢
  refine W.seq fun K hK => ?_
  refine W.region (by rfl) ?_
  refine Flow.lss rfl rfl ?_
  refine hK _ _ _ ?_
  clear hK K
  refine W.seq fun K2 hK2 => ?_
  refine W.cond rfl (fun h => W.skip (hK2 _ _ _ ?_)) (fun h => W.exit ?_)
  · have hlt : k < ids.length := by simpa using h
    have hI' := hI.ext (c1.then hc)
    obtain ⟨b, o, hai, hcell⟩ := hI'.get hlt
    rw [List.drop_eq_getElem_cons hlt, listedS_cons] at hw
    subst hai
    refine W.seq fun K3 hK3 => ?_
    refine W.block ?_
    refine W.seq fun K hK => ?_
    refine W.region (by rfl) ?_
    refine Flow.move (v := .int _ _) rfl ?_
    refine Flow.indexAddr1 Tf.sl_22 rfl rfl (by omega) (by omega) ?_
    refine Flow.load1 Tf.ty_3 rfl (hcell k hlt) ?_
    refine Flow.assign (v := .int _ _) rfl ?_
    refine Flow.assign (v := .int _ _) rfl ?_
    refine hK _ _ _ ?_
    clear hK K
    refine W.seq fun K hK => ?_
    refine W.region (by rfl) ?_
    refine Flow.loadA Tf.ty_25 rfl rfl ((b1.chg hc (by simp)).cells0) ?_
    refine Flow.move (v := .int _ _) rfl ?_
    refine Flow.call2 Tf.hb_76 (v1 := .agg _) rfl (v2 := .int _ _) rfl ?_
    refine Ret.mono (find_ok _ t ac af cc cf _ (hF.ext (c1.then hc)) hs) ?_
    rintro _ w3 ⟨rfl, c3⟩
    refine Flow.assign (v := .int _ _) rfl ?_
    refine hK _ _ _ ?_
    clear hK K
    refine W.seq fun K4 hK4 => ?_
    have hno : listedS t.flaws none ids = none → okL t ids = false ∧ plL t ids = [] := fun h => by simp [okL, plL, h]
    rcases findS_ge ids[k] t.flaws with hneg | ⟨hge, hlt2⟩
    · refine W.seq fun K hK => ?_
      refine W.region (by rfl) ?_
      refine Flow.move (v := .int _ _) rfl ?_
      refine Flow.lssD (c := true) rfl rfl (decide_eq_true (by omega)) ?_
      refine Flow.move (v := .bool _) rfl ?_
      refine Flow.off (c := true) rfl rfl rfl ?_
      refine Flow.off (c := true) rfl rfl rfl ?_
      refine Flow.off (c := true) rfl rfl rfl ?_
      refine Flow.offU rfl rfl ?_
      refine Flow.offU rfl rfl ?_
      refine Flow.offU rfl rfl ?_
      refine Flow.offU rfl rfl ?_
      refine Flow.offU rfl rfl ?_
      refine Flow.offU rfl rfl ?_
      refine Flow.offU rfl rfl ?_
      refine Flow.off (c := true) rfl rfl rfl ?_
      refine Flow.pickT rfl rfl ?_
      refine hK _ _ _ ?_
      clear hK K
      refine W.cond (t := true) rfl (fun _ => ?_) (fun h => by simp at h)
      refine W.seq fun K hK => ?_
      refine W.region (by rfl) ?_
      refine Flow.assignC ?_
      refine Flow.assignC ?_
      refine hK _ _ _ ?_
      clear hK K
      obtain ⟨h1, h2⟩ := hno (by rw [hw]; simp [hneg])
      refine W.ret ⟨_, res2 rfl (v := .slice _ _ _) (v' := .bool _) rfl rfl, ⟨none, 0, by rw [h1, h2]; rfl, .inl h2, by simp [NewA]⟩, c1.then (hc.then c3)⟩
    · have hnn : ¬ findS ids[k] 0 t.flaws < 0 := by omega
      have hgo : listedS t.flaws none ids = (listedS t.flaws (some ids[k]) (ids.drop (k + 1))).map ((out ++ [findS ids[k] 0 t.flaws]) ++ ·) →
          ∀ e, AllAt e [(1, .slice (some ⟨b, o, none⟩) ids.length ci), (2, .pointer (some ⟨w.heap.size, 0, none⟩)), (6, .slice ao out.length co), (9, .int .i64 (findS ids[k] 0 t.flaws)), (10, .slice (some ⟨b, o, none⟩) ids.length ci), (11, .int .i64 ids.length), (12, .int .i64 k)] →
          K4 [] e w3 := by
        intro hw' e hE
        obtain ⟨e, rfl⟩ : ∃ e0, e = putL e0 _ := ⟨e, putL_self hE⟩
        clear hE
        refine hK4 _ _ _ ?_
        have ho3 := ho.ext c3
        refine W.region (by rfl) ?_
        refine Flow.move (v := .slice _ _ _) rfl ?_
        refine Flow.move (v := .int _ _) rfl ?_
        refine Flow.buildSlice1 Tf.sl_22 Tf.us_22 rfl (by decide) (by decide) rfl (cs := [_]) rfl rfl fun w4 c4 s4 b4 => ?_
        refine Flow.append Tf.sl_22 Tf.us_22 rfl (by decide) rfl rfl ((ho3.ext c4).1) (b4.cells0) rfl rfl (by omega) (by omega) fun a5 cap5 w5 o5 c5 hd5 hn5 => ?_
        refine Flow.assign (v := .slice _ _ _) rfl ?_
        refine Flow.nil (hK3 _ _ _ ?_)
        have hm5 := (ho3.ext c4).app (by have := c1.size; have := hc.size; have := c3.size; have := c4.size; omega) o5 hd5
        have hh : Chg [] w1 w5 := (hc.then (c3.then c4)).step c5 ho.2
        refine W.region (by rfl) ?_
        refine Flow.add rfl rfl (by omega) (by omega) ?_
        refine Flow.move (v := .int _ _) rfl ?_
        refine Flow.nil ⟨(k + 1, out ++ [findS ids[k] 0 t.flaws], a5, cap5), by simp only; omega, rfl, by simp only; omega, ⟨rfl, rfl, slen, rfl, rfl, rfl, trivial⟩, hh, by simp [hol], hm5, ?_⟩
        rw [prevAt_succ hlt]; exact hw'
      by_cases hk0 : k = 0
      · refine W.seq fun K hK => ?_
        refine W.region (by rfl) ?_
        refine Flow.move (v := .int _ _) rfl ?_
        refine Flow.lssD (c := false) rfl rfl (decide_eq_false (by omega)) ?_
        refine Flow.move (v := .bool _) rfl ?_
        refine Flow.on rfl rfl ?_
        refine Flow.move (v := .int _ _) rfl ?_
        refine Flow.on rfl rfl ?_
        refine Flow.gtrD (c := false) rfl rfl (decide_eq_false (by omega)) ?_
        refine Flow.on rfl rfl ?_
        refine Flow.move (v := .bool _) rfl ?_
        refine Flow.off (c := false) rfl rfl rfl ?_
        refine Flow.off (c := false) rfl rfl rfl ?_
        refine Flow.off (c := false) rfl rfl rfl ?_
        refine Flow.off (c := false) rfl rfl rfl ?_
        refine Flow.off (c := false) rfl rfl rfl ?_
        refine Flow.off (c := false) rfl rfl rfl ?_
        refine Flow.off (c := false) rfl rfl rfl ?_
        refine Flow.on rfl rfl ?_
        refine Flow.pickF rfl rfl ?_
        refine Flow.pickF rfl rfl ?_
        refine hK _ _ _ ?_
        clear hK K
        refine W.cond (t := false) rfl (fun h => by simp at h) (fun _ => W.skip (hgo ?_ _ ⟨rfl, rfl, rfl, rfl, rfl, rfl, rfl, trivial⟩))
        rw [hw]; subst hk0
        simp [prevAt, hnn, Function.comp_def]
      · rw [prevAt_pos (by omega) hlt] at hw
        have hcell' : w3.cell? ⟨b, o + (k - 1), none⟩ = _ := cell_chg (hcell (k - 1) (by omega)) c3 (by simp)
        have hkk : ((k : Int) - 1).toNat = k - 1 := by omega
        refine W.seq fun K hK => ?_
        refine W.region (by rfl) ?_
        refine Flow.move (v := .int _ _) rfl ?_
        refine Flow.lssD (c := false) rfl rfl (decide_eq_false (by omega)) ?_
        refine Flow.move (v := .bool _) rfl ?_
        refine Flow.on rfl rfl ?_
        refine Flow.move (v := .int _ _) rfl ?_
        refine Flow.on rfl rfl ?_
        refine Flow.gtrD (c := true) rfl rfl (decide_eq_true (by omega)) ?_
        refine Flow.on rfl rfl ?_
        refine Flow.move (v := .bool _) rfl ?_
        refine Flow.on rfl rfl ?_
        refine Flow.move (v := .int _ _) rfl ?_
        refine Flow.on rfl rfl ?_
        refine Flow.move (v := .slice _ _ _) rfl ?_
        refine Flow.on rfl rfl ?_
        refine Flow.move (v := .int _ _) rfl ?_
        refine Flow.on rfl rfl ?_
        refine Flow.sub rfl rfl (by omega) (by omega) ?_
        refine Flow.on rfl rfl ?_
        refine Flow.indexAddr1 Tf.sl_22 rfl rfl (by omega) (by omega) ?_
        refine Flow.on rfl rfl ?_
        refine Flow.load1 Tf.ty_3 rfl (by rw [hkk]; exact hcell') ?_
        refine Flow.on rfl rfl ?_
        refine Flow.leq rfl rfl ?_
        refine Flow.on rfl rfl ?_
        refine Flow.pickT rfl rfl ?_
        refine Flow.pickF rfl rfl ?_
        refine hK _ _ _ ?_
        clear hK K
        refine W.cond rfl (fun h => ?_) (fun h => W.skip (hgo ?_ _ ⟨rfl, rfl, rfl, rfl, rfl, rfl, rfl, trivial⟩))
        · refine W.seq fun K hK => ?_
          refine W.region (by rfl) ?_
          refine Flow.assignC ?_
          refine Flow.assignC ?_
          refine hK _ _ _ ?_
          clear hK K
          obtain ⟨h1, h2⟩ := hno (by rw [hw]; simp [show ids[k] ≤ ids[k - 1] from by simpa using h])
          refine W.ret ⟨_, res2 rfl (v := .slice _ _ _) (v' := .bool _) rfl rfl, ⟨none, 0, by rw [h1, h2]; rfl, .inl h2, by simp [NewA]⟩, c1.then (hc.then c3)⟩
        · have hle : ¬ ids[k] ≤ ids[k - 1] := by simpa using h
          rw [hw]
          simp [hnn, hle, Function.comp_def]
  · have hge : k = ids.length := by simp at h; omega
    subst hge
    rw [List.drop_length, listedS_nil] at hw
    refine hK0 _ _ _ ?_
    refine W.seq fun K hK => ?_
    refine W.region (by rfl) ?_
    refine Flow.move (v := .slice _ _ _) rfl ?_
    refine Flow.assign (v := .slice _ _ _) rfl ?_
    refine Flow.assignC ?_
    refine hK _ _ _ ?_
    clear hK K
    have hl : listedS t.flaws none ids = some out := by simpa using hw
    have hp : plL t ids = out := by simp [plL, hl]
    refine W.ret ⟨_, res2 rfl (v := .slice _ _ _) (v' := .bool _) rfl rfl, ⟨ao, co, by rw [hp]; simp [okL, hl], by rw [hp]; exact ho.il, fun x hx => by have := ho.2 x.block (by simp [ownB, hx]); have := c1.size; omega⟩, c1.then hc⟩

end Go.Proofs.YtkoejelglinmnaaGreat

/-
  Contract: Check.
-/
namespace Go.Proofs.YtkoejelglinmnaaGreat
open Sg
set_option maxRecDepth 100000

theorem badClosed_nil (days : Int) (p : Option Int) : badClosed days p [] = false := by cases p <;> rfl
theorem badClosed_cons (days : Int) (p : Option Int) (d : Int) (l : List Int) : badClosed days p (d :: l) =
    (!(decide (0 ≤ d ∧ d ≤ days - 1)) || (match p with | none => false | some p => decide (d ≤ p)) || badClosed days (some d) l) := by cases p <;> rfl

theorem look_app {kv : List (Int × Value)} {k x : Int} {v : Value} (h : Sg.look kv k = none) : Sg.look (kv ++ [(k, v)]) x = if x = k then some v else Sg.look kv x := by
  unfold Sg.look at *
  rw [List.find?_append]
  by_cases hx : x = k
  · subst hx
    have : kv.find? (fun p => p.1 == x) = none := by simpa using h
    rw [this]; simp
  · simp only [if_neg hx]
    have : ([(k, v)] : List (Int × Value)).find? (fun p => p.1 == x) = none := by
      simp only [List.find?_cons, List.find?_nil]
      have : (k == x) = false := by simpa using fun e => hx e.symm
      rw [this]
    rw [this]; simp

theorem check_ok (w : World) (t : Tour) (ac af : Option Addr) (cc cf : Nat) (hC : IL w ac t.closed) (hF : FL w af t.flaws) (hcl : t.closed.length ≤ 1000) (hfl : t.flaws.length ≤ 1000) :
    Ret Tryz.prog 55 #[.agg #[.int .i64 t.days, .slice ac t.closed.length cc, .slice af t.flaws.length cf]] w fun v w' => v = .int .i64 (chk t) ∧ Chg [] w w' := by
  refine Ret.of_W (n := 78) Tryz.func55 rfl rfl (Nat.le_of_ble_eq_true rfl) ?_
  refine W.seq fun K hK => ?_
  refine W.region (by rfl) ?_
  refine Flow.box rfl (cs := [_, _, _]) rfl fun w1 c1 s1 b1 => ?_
  refine Flow.assignC ?_
  refine hK _ _ _ ?_
  clear hK K
  refine W.seq fun K1 hK1 => ?_
  refine W.seq fun K hK => ?_
  refine W.region (by rfl) ?_
  refine Flow.fieldAddr Tf.fo_25_0 rfl ?_
  refine Flow.load1 Tf.ty_3 rfl (b1.cell 0) ?_
  refine Flow.call3 Tf.hb_111 (v1 := .int _ _) rfl (v2 := .int _ _) rfl (v3 := .int _ _) rfl ?_
  refine Ret.mono (within_ok _ _ _ _) ?_
  rintro _ w2 ⟨rfl, c2⟩
  by_cases hd : 1 ≤ t.days ∧ t.days ≤ 60
  case neg =>
    rw [decide_eq_false hd]
    refine Flow.not rfl ?_
    refine hK _ _ _ ?_
    clear hK K
    refine W.cond (t := true) rfl (fun _ => ?_) (fun h => by simp at h)
    refine W.seq fun K hK => ?_
    refine W.region (by rfl) ?_
    refine Flow.assignC ?_
    refine hK _ _ _ ?_
    clear hK K
    refine W.ret ⟨_, res1 rfl (v := .int _ _) rfl, by rw [chk, if_pos hd], c1.then c2⟩
  rw [decide_eq_true hd]
  refine Flow.not rfl ?_
  refine hK _ _ _ ?_
  clear hK K
  refine W.cond (t := false) rfl (fun h => by simp at h) (fun _ => W.skip (hK1 _ _ _ ?_))
  refine W.seq fun K3 hK3 => ?_
  refine W.seq fun K hK => ?_
  refine W.region (by rfl) ?_
  refine Flow.fieldAddr Tf.fo_25_1 rfl ?_
  refine Flow.load1 Tf.ty_22 rfl ((b1.chg c2 (by simp)).cell 1) ?_
  refine Flow.len rfl Tf.us_22 rfl rfl ?_
  refine Flow.moveC ?_
  refine hK _ _ _ ?_
  clear hK K
  refine W.block ?_
  refine W.loop (ι := Nat) (fun k ds e w' => ds = [] ∧ k ≤ t.closed.length ∧ AllAt e [(1, .pointer (some ⟨w.heap.size, 0, none⟩)), (13, .slice ac t.closed.length cc), (14, .int .i64 t.closed.length), (15, .int .i64 k)] ∧
      Chg [] w1 w' ∧ badClosed t.days none t.closed = badClosed t.days (prevAt t.closed k) (t.closed.drop k))
    (fun k => t.closed.length - k) (i0 := 0) ⟨rfl, by omega, ⟨rfl, rfl, rfl, rfl, trivial⟩, c2, by simp [prevAt]⟩ ?_
  rintro k ds e w' ⟨rfl, hk, hE, hc, hw⟩
  obtain ⟨e, rfl⟩ : ∃ e0, e = putL e0 _ := ⟨e, putL_self hE⟩
  clear hE
  refine W.seq fun K hK => ?_
  refine W.region (by rfl) ?_
  refine Flow.lss rfl rfl ?_
  refine hK _ _ _ ?_
  clear hK K
  refine W.seq fun K4 hK4 => ?_
  refine W.cond rfl (fun h => W.skip (hK4 _ _ _ ?_)) (fun h => W.exit ?_)
  · have hlt : k < t.closed.length := by simpa using h
    obtain ⟨b, o, rfl, hcell⟩ := (hC.ext (c1.then hc)).get hlt
    rw [List.drop_eq_getElem_cons hlt, badClosed_cons] at hw
    refine W.seq fun K5 hK5 => ?_
    refine W.block ?_
    refine W.seq fun K hK => ?_
    refine W.region (by rfl) ?_
    refine Flow.move (v := .int _ _) rfl ?_
    refine Flow.indexAddr1 Tf.sl_22 rfl rfl (by omega) (by omega) ?_
    refine Flow.load1 Tf.ty_3 rfl (hcell k hlt) ?_
    refine Flow.assign (v := .int _ _) rfl ?_
    refine Flow.assign (v := .int _ _) rfl ?_
    refine hK _ _ _ ?_
    clear hK K
    refine W.seq fun K hK => ?_
    refine W.region (by rfl) ?_
    refine Flow.move (v := .int _ _) rfl ?_
    refine Flow.fieldAddr Tf.fo_25_0 rfl ?_
    refine Flow.load1 Tf.ty_3 rfl ((b1.chg hc (by simp)).cell 0) ?_
    refine Flow.sub rfl rfl (by omega) (by omega) ?_
    refine Flow.call3 Tf.hb_111 (v1 := .int _ _) rfl (v2 := .int _ _) rfl (v3 := .int _ _) rfl ?_
    refine Ret.mono (within_ok _ _ _ _) ?_
    rintro _ w3 ⟨rfl, c3⟩
    have hbad : badClosed t.days none t.closed = true → chk t = 1 := fun h => by rw [chk, if_neg (by simpa using hd), if_pos h]
    by_cases hr : 0 ≤ t.closed[k] ∧ t.closed[k] ≤ t.days - 1
    case neg =>
      rw [decide_eq_false hr]
      refine Flow.not rfl ?_
      refine Flow.move (v := .bool _) rfl ?_
      refine Flow.off (c := true) rfl rfl rfl ?_
      refine Flow.off (c := true) rfl rfl rfl ?_
      refine Flow.off (c := true) rfl rfl rfl ?_
      refine Flow.offU rfl rfl ?_
      refine Flow.offU rfl rfl ?_
      refine Flow.offU rfl rfl ?_
      refine Flow.offU rfl rfl ?_
      refine Flow.offU rfl rfl ?_
      refine Flow.offU rfl rfl ?_
      refine Flow.offU rfl rfl ?_
      refine Flow.offU rfl rfl ?_
      refine Flow.off (c := true) rfl rfl rfl ?_
      refine Flow.pickT rfl rfl ?_
      refine hK _ _ _ ?_
      clear hK K
      refine W.cond (t := true) rfl (fun _ => ?_) (fun h => by simp at h)
      refine W.seq fun K hK => ?_
      refine W.region (by rfl) ?_
      refine Flow.assignC ?_
      refine hK _ _ _ ?_
      clear hK K
      refine W.ret ⟨_, res1 rfl (v := .int _ _) rfl, by rw [hbad (by rw [hw]; simp [hr])], c1.then (hc.then c3)⟩
    rw [decide_eq_true hr]
    by_cases hk0 : k = 0
    · refine Flow.not rfl ?_
      refine Flow.move (v := .bool _) rfl ?_
      refine Flow.on rfl rfl ?_
      refine Flow.move (v := .int _ _) rfl ?_
      refine Flow.on rfl rfl ?_
      refine Flow.gtrD (c := false) rfl rfl (decide_eq_false (by omega)) ?_
      refine Flow.on rfl rfl ?_
      refine Flow.move (v := .bool _) rfl ?_
      refine Flow.off (c := false) rfl rfl rfl ?_
      refine Flow.off (c := false) rfl rfl rfl ?_
      refine Flow.off (c := false) rfl rfl rfl ?_
      refine Flow.off (c := false) rfl rfl rfl ?_
      refine Flow.off (c := false) rfl rfl rfl ?_
      refine Flow.off (c := false) rfl rfl rfl ?_
      refine Flow.off (c := false) rfl rfl rfl ?_
      refine Flow.off (c := false) rfl rfl rfl ?_
      refine Flow.on rfl rfl ?_
      refine Flow.pickF rfl rfl ?_
      refine Flow.pickF rfl rfl ?_
      refine hK _ _ _ ?_
      clear hK K
      refine W.cond (t := false) rfl (fun h => by simp at h) (fun _ => W.skip (hK5 _ _ _ ?_))
      refine W.region (by rfl) ?_
      refine Flow.add rfl rfl (by omega) (by omega) ?_
      refine Flow.move (v := .int _ _) rfl ?_
      refine Flow.nil ⟨k + 1, by omega, rfl, by omega, ⟨rfl, rfl, rfl, rfl, trivial⟩, hc.then c3, ?_⟩
      rw [hw, prevAt_succ hlt]; subst hk0; simp [prevAt, hr]
    · rw [prevAt_pos (by omega) hlt] at hw
      have hcell' : w3.cell? ⟨b, o + (k - 1), none⟩ = _ := cell_chg (hcell (k - 1) (by omega)) c3 (by simp)
      have hkk : ((k : Int) - 1).toNat = k - 1 := by omega
      refine Flow.not rfl ?_
      refine Flow.move (v := .bool _) rfl ?_
      refine Flow.on rfl rfl ?_
      refine Flow.move (v := .int _ _) rfl ?_
      refine Flow.on rfl rfl ?_
      refine Flow.gtrD (c := true) rfl rfl (decide_eq_true (by omega)) ?_
      refine Flow.on rfl rfl ?_
      refine Flow.move (v := .bool _) rfl ?_
      refine Flow.on rfl rfl ?_
      refine Flow.move (v := .int _ _) rfl ?_
      refine Flow.on rfl rfl ?_
      refine Flow.fieldAddr Tf.fo_25_1 rfl ?_
      refine Flow.on rfl rfl ?_
      refine Flow.load1 Tf.ty_22 rfl ((b1.chg (hc.then c3) (by simp)).cell 1) ?_
      refine Flow.on rfl rfl ?_
      refine Flow.move (v := .int _ _) rfl ?_
      refine Flow.on rfl rfl ?_
      refine Flow.sub rfl rfl (by omega) (by omega) ?_
      refine Flow.on rfl rfl ?_
      refine Flow.indexAddr1 Tf.sl_22 rfl rfl (by omega) (by omega) ?_
      refine Flow.on rfl rfl ?_
      refine Flow.load1 Tf.ty_3 rfl (by rw [hkk]; exact hcell') ?_
      refine Flow.on rfl rfl ?_
      refine Flow.leq rfl rfl ?_
      refine Flow.on rfl rfl ?_
      refine Flow.pickT rfl rfl ?_
      refine Flow.pickF rfl rfl ?_
      refine hK _ _ _ ?_
      clear hK K
      refine W.cond rfl (fun h => ?_) (fun h => W.skip (hK5 _ _ _ ?_))
      · refine W.seq fun K hK => ?_
        refine W.region (by rfl) ?_
        refine Flow.assignC ?_
        refine hK _ _ _ ?_
        clear hK K
        refine W.ret ⟨_, res1 rfl (v := .int _ _) rfl, by rw [hbad (by rw [hw]; simp [show t.closed[k] ≤ t.closed[k - 1] from by simpa using h])], c1.then (hc.then c3)⟩
      · have hle : ¬ t.closed[k] ≤ t.closed[k - 1] := by simpa using h
        refine W.region (by rfl) ?_
        refine Flow.add rfl rfl (by omega) (by omega) ?_
        refine Flow.move (v := .int _ _) rfl ?_
        refine Flow.nil ⟨k + 1, by omega, rfl, by omega, ⟨rfl, rfl, rfl, rfl, trivial⟩, hc.then c3, ?_⟩
        rw [hw, prevAt_succ hlt]; simp [hr, hle]
  have hge : k = t.closed.length := by simp at h; omega
  subst hge
  rw [List.drop_length, badClosed_nil] at hw
  refine hK3 _ _ _ ?_
  refine W.seq fun K9 hK9 => ?_
  refine W.seq fun K hK => ?_
  refine W.region (by rfl) ?_
  refine Flow.fieldAddr Tf.fo_25_2 rfl ?_
  refine Flow.load1 Tf.ty_23 rfl ((b1.chg hc (by simp)).cell 2) ?_
  refine Flow.len rfl Tf.us_23 rfl rfl ?_
  refine Flow.gtr rfl rfl ?_
  refine hK _ _ _ ?_
  clear hK K
  refine W.cond rfl (fun h => ?_) (fun h => W.skip (hK9 _ _ _ ?_))
  · have h40 : 40 < t.flaws.length := by have : (40 : Int) < t.flaws.length := by simpa using h
                                         omega
    refine W.seq fun K hK => ?_
    refine W.region (by rfl) ?_
    refine Flow.assignC ?_
    refine hK _ _ _ ?_
    clear hK K
    refine W.ret ⟨_, res1 rfl (v := .int _ _) rfl, ?_, c1.then hc⟩
    rw [chk, if_neg (by simpa using hd), if_neg (by simp [hw]), if_pos h40]
  have h40 : ¬ 40 < t.flaws.length := by have : ¬ (40 : Int) < t.flaws.length := by simpa using h
                                         omega
  have hchk : chk t = flawErr t.days [] t.flaws := by rw [chk, if_neg (by simpa using hd), if_neg (by simp [hw]), if_neg h40]
  clear hK1 K1 hK3 K3 hK4 K4 hK9 K9
  refine W.seq fun K hK => ?_
  refine W.region (by rfl) ?_
  refine Flow.makeMap fun w4 c4 s4 m4 => ?_
  refine Flow.assign (v := .map _) rfl ?_
  refine hK _ _ _ ?_
  clear hK K
  refine W.seq fun K12 hK12 => ?_
  have b4 := b1.chg (hc.then c4) (by simp)
  refine W.seq fun K hK => ?_
  refine W.region (by rfl) ?_
  refine Flow.fieldAddr Tf.fo_25_2 rfl ?_
  refine Flow.load1 Tf.ty_23 rfl (b4.cell 2) ?_
  refine Flow.len rfl Tf.us_23 rfl rfl ?_
  refine Flow.moveC ?_
  refine hK _ _ _ ?_
  clear hK K
  refine W.block ?_
  refine W.loop (ι := Nat × List Int) (fun k ds e w5 => ds = [] ∧ k.1 ≤ t.flaws.length ∧ AllAt e [(1, .pointer (some ⟨w.heap.size, 0, none⟩)), (5, .map (some w'.heap.size)), (47, .slice af t.flaws.length cf), (48, .int .i64 t.flaws.length), (49, .int .i64 k.1)] ∧
      Chg [] w1 w5 ∧ w4.heap.size ≤ w5.heap.size ∧ (∃ kv, MapO w5 w'.heap.size kv ∧ ∀ x, Sg.look kv x = if x ∈ k.2 then some (.bool true) else none) ∧ chk t = flawErr t.days k.2 (t.flaws.drop k.1))
    (fun k => t.flaws.length - k.1) (i0 := (0, [])) ⟨rfl, by omega, ⟨rfl, rfl, rfl, rfl, rfl, trivial⟩, hc.then c4, Nat.le_refl _, ⟨[], m4, by simp [Sg.look]⟩, by simpa using hchk⟩ ?_
  rintro ⟨k, had⟩ ds e w5 ⟨rfl, hk, hE, hc5, hs5, ⟨kv, hm, hlk⟩, hw⟩
  obtain ⟨e, rfl⟩ : ∃ e0, e = putL e0 _ := ⟨e, putL_self hE⟩
  clear hE
  simp only at hk hw hlk hm ⊢
  refine W.seq fun K hK => ?_
  refine W.region (by rfl) ?_
  refine Flow.lss rfl rfl ?_
  refine hK _ _ _ ?_
  clear hK K
  refine W.seq fun K13 hK13 => ?_
  refine W.cond rfl (fun h => W.skip (hK13 _ _ _ ?_)) (fun h => W.exit ?_)
  case refine_2 =>
    have hge : k = t.flaws.length := by simp at h; omega
    subst hge
    rw [List.drop_length, flawErr] at hw
    refine hK12 _ _ _ ?_
    refine W.seq fun K hK => ?_
    refine W.region (by rfl) ?_
    refine Flow.assignC ?_
    refine hK _ _ _ ?_
    clear hK K
    refine W.ret ⟨_, res1 rfl (v := .int _ _) rfl, by rw [hw], c1.then hc5⟩
  have hlt : k < t.flaws.length := by simpa using h
  obtain ⟨bf, of_, rfl, hflaw⟩ := (hF.ext (c1.then hc5)).get hlt
  have hf := hflaw k hlt
  rw [List.drop_eq_getElem_cons hlt] at hw
  refine W.seq fun K14 hK14 => ?_
  refine W.block ?_
  refine W.seq fun K hK => ?_
  refine W.region (by rfl) ?_
  refine Flow.indexAddr Tf.sl_23 rfl rfl (by omega) (by omega) ?_
  refine Flow.loadA Tf.ty_81 rfl rfl (hf) ?_
  refine Flow.alloc Tf.ty_81 (cs := [_, _, _, _]) rfl fun w6 c6 s6 b6 => ?_
  refine Flow.store Tf.ty_81 rfl rfl (b6) (vs := [_, _, _, _]) rfl rfl (by simp) rfl fun w7 c7 s7 b7 => ?_
  refine hK _ _ _ ?_
  clear hK K
  have c57 : Chg [] w5 w7 := c6.step c7 (by simp)
  have hend : ∀ w9 (_ : Chg [] w5 w9), (¬ (1 ≤ t.flaws[k].id ∧ t.flaws[k].id ≤ 1099511627776) ∨ spanOk t.days t.flaws[k].lo t.flaws[k].hi = false ∨ ¬ (1 ≤ t.flaws[k].merit ∧ t.flaws[k].merit ≤ 1000)) →
      chk t = 1 := fun w9 _ h => by rw [hw, flawErr, if_pos h]
  refine W.seq fun K15 hK15 => ?_
  refine W.seq fun K hK => ?_
  refine W.region (by rfl) ?_
  refine Flow.fieldAddr Tf.fo_81_0 rfl ?_
  refine Flow.load1 Tf.ty_3 rfl (b7.cell 0) ?_
  refine Flow.call3 Tf.hb_111 (v1 := .int _ _) rfl (v2 := .int _ _) rfl (v3 := .int _ _) rfl ?_
  refine Ret.mono (within_ok _ _ _ _) ?_
  rintro _ w8 ⟨rfl, c8⟩
  by_cases h1 : 1 ≤ t.flaws[k].id ∧ t.flaws[k].id ≤ 1099511627776
  case neg =>
    rw [decide_eq_false h1]
    refine Flow.not rfl ?_
    refine Flow.move (v := .bool _) rfl ?_
    refine Flow.off (c := true) rfl rfl rfl ?_
    refine Flow.off (c := true) rfl rfl rfl ?_
    refine Flow.off (c := true) rfl rfl rfl ?_
    refine Flow.off (c := true) rfl rfl rfl ?_
    refine Flow.off (c := true) rfl rfl rfl ?_
    refine Flow.pickT rfl rfl ?_
    refine Flow.move (v := .bool _) rfl ?_
    refine Flow.off (c := true) rfl rfl rfl ?_
    refine Flow.off (c := true) rfl rfl rfl ?_
    refine Flow.off (c := true) rfl rfl rfl ?_
    refine Flow.off (c := true) rfl rfl rfl ?_
    refine Flow.pickT rfl rfl ?_
    refine hK _ _ _ ?_
    clear hK K
    refine W.cond (t := true) rfl (fun _ => ?_) (fun h => by simp at h)
    refine W.seq fun K hK => ?_
    refine W.region (by rfl) ?_
    refine Flow.assignC ?_
    refine hK _ _ _ ?_
    clear hK K
    refine W.ret ⟨_, res1 rfl (v := .int _ _) rfl, by rw [hend _ c57 (.inl h1)], c1.then (hc5.then (c57.then c8))⟩
  rw [decide_eq_true h1]
  refine Flow.not rfl ?_
  refine Flow.move (v := .bool _) rfl ?_
  refine Flow.on rfl rfl ?_
  refine Flow.loadA Tf.ty_25 rfl rfl (((b1.chg hc5 (by simp)).chg (c57.then c8) (by simp)).cells0) ?_
  refine Flow.on rfl rfl ?_
  refine Flow.fieldAddr Tf.fo_81_1 rfl ?_
  refine Flow.on rfl rfl ?_
  refine Flow.loadA Tf.ty_44 rfl rfl (fSpan ((show Cells _ _ 0 (flawCells t.flaws[k]) from (b7.chg c8 (by simp)).cells0))) ?_
  refine Flow.on rfl rfl ?_
  refine Flow.call2 Tf.hb_88 (v1 := .agg _) rfl (v2 := .agg _) rfl ?_
  refine Ret.mono (span_ok _ _ _ _ _ _ _ _ _ _) ?_
  rintro _ w9 ⟨rfl, c9⟩
  cases h2 : spanOk t.days t.flaws[k].lo t.flaws[k].hi
  case false =>
    refine Flow.on rfl rfl ?_
    refine Flow.not rfl ?_
    refine Flow.pickF rfl rfl ?_
    refine Flow.move (v := .bool _) rfl ?_
    refine Flow.off (c := true) rfl rfl rfl ?_
    refine Flow.off (c := true) rfl rfl rfl ?_
    refine Flow.off (c := true) rfl rfl rfl ?_
    refine Flow.off (c := true) rfl rfl rfl ?_
    refine Flow.pickT rfl rfl ?_
    refine hK _ _ _ ?_
    clear hK K
    refine W.cond (t := true) rfl (fun _ => ?_) (fun h => by simp at h)
    refine W.seq fun K hK => ?_
    refine W.region (by rfl) ?_
    refine Flow.assignC ?_
    refine hK _ _ _ ?_
    clear hK K
    refine W.ret ⟨_, res1 rfl (v := .int _ _) rfl, by rw [hend _ c57 (.inr (.inl h2))], c1.then (hc5.then (c57.then (c8.then c9)))⟩
  have c59 := c57.then (c8.then c9)
  refine Flow.on rfl rfl ?_
  refine Flow.not rfl ?_
  refine Flow.pickF rfl rfl ?_
  refine Flow.move (v := .bool _) rfl ?_
  refine Flow.on rfl rfl ?_
  refine Flow.fieldAddr Tf.fo_81_2 rfl ?_
  refine Flow.on rfl rfl ?_
  refine Flow.load1 Tf.ty_3 rfl ((b7.chg (c8.then c9) (by simp)).cell 3) ?_
  refine Flow.on rfl rfl ?_
  refine Flow.call3 Tf.hb_111 (v1 := .int _ _) rfl (v2 := .int _ _) rfl (v3 := .int _ _) rfl ?_
  refine Ret.mono (within_ok _ _ _ _) ?_
  rintro _ w10 ⟨rfl, c10⟩
  by_cases h3 : 1 ≤ t.flaws[k].merit ∧ t.flaws[k].merit ≤ 1000
  case neg =>
    rw [decide_eq_false h3]
    refine Flow.on rfl rfl ?_
    refine Flow.not rfl ?_
    refine Flow.pickF rfl rfl ?_
    refine hK _ _ _ ?_
    clear hK K
    refine W.cond (t := true) rfl (fun _ => ?_) (fun h => by simp at h)
    refine W.seq fun K hK => ?_
    refine W.region (by rfl) ?_
    refine Flow.assignC ?_
    refine hK _ _ _ ?_
    clear hK K
    refine W.ret ⟨_, res1 rfl (v := .int _ _) rfl, by rw [hend _ c57 (.inr (.inr h3))], c1.then (hc5.then (c59.then c10))⟩
  rw [decide_eq_true h3]
  refine Flow.on rfl rfl ?_
  refine Flow.not rfl ?_
  refine Flow.pickF rfl rfl ?_
  refine hK _ _ _ ?_
  clear hK K
  refine W.cond (t := false) rfl (fun h => by simp at h) (fun _ => W.skip (hK15 _ _ _ ?_))
  have hgood : ¬ (¬ (1 ≤ t.flaws[k].id ∧ t.flaws[k].id ≤ 1099511627776) ∨ spanOk t.days t.flaws[k].lo t.flaws[k].hi = false ∨ ¬ (1 ≤ t.flaws[k].merit ∧ t.flaws[k].merit ≤ 1000)) := by simp [h1, h2, h3]
  rw [flawErr, if_neg hgood] at hw
  have b10 := b7.chg (c8.then (c9.then c10)) (by simp)
  have hm10 := hm.chg (c59.then c10) (by simp)
  have hv : (Sg.look kv t.flaws[k].id).getD (.bool false) = .bool (decide (t.flaws[k].id ∈ had)) := by rw [hlk]; by_cases h : t.flaws[k].id ∈ had <;> simp [h]
  refine W.seq fun K17 hK17 => ?_
  refine W.seq fun K hK => ?_
  refine W.region (by rfl) ?_
  refine Flow.move (v := .map _) rfl ?_
  refine Flow.fieldAddr Tf.fo_81_0 rfl ?_
  refine Flow.load1 Tf.ty_3 rfl (b10.cell 0) ?_
  refine Flow.lookup Tf.mp_141 rfl rfl (hm10) (hv) ?_
  refine hK _ _ _ ?_
  clear hK K
  refine W.cond rfl (fun h => ?_) (fun h => W.skip (hK17 _ _ _ ?_))
  · have hin : t.flaws[k].id ∈ had := by simpa using h
    refine W.seq fun K hK => ?_
    refine W.region (by rfl) ?_
    refine Flow.assignC ?_
    refine hK _ _ _ ?_
    clear hK K
    refine W.ret ⟨_, res1 rfl (v := .int _ _) rfl, by rw [hw, if_pos hin], c1.then (hc5.then (c59.then c10))⟩
  · have hin : t.flaws[k].id ∉ had := by simpa using h
    rw [if_neg hin] at hw
    have hnone : Sg.look kv t.flaws[k].id = none := by rw [hlk, if_neg hin]
    refine W.region (by rfl) ?_
    refine Flow.move (v := .map _) rfl ?_
    refine Flow.fieldAddr Tf.fo_81_0 rfl ?_
    refine Flow.load1 Tf.ty_3 rfl (b10.cell 0) ?_
    refine Flow.mapUpdate Tf.mp_141 rfl rfl (v := .bool _) rfl (hm10) (hnone) fun w11 c11 s11 m11 => ?_
    refine Flow.nil (hK14 _ _ _ ?_)
    have c511 := c59.then c10
    refine W.region (by rfl) ?_
    refine Flow.add rfl rfl (by omega) (by omega) ?_
    refine Flow.move (v := .int _ _) rfl ?_
    refine Flow.nil ⟨(k + 1, t.flaws[k].id :: had), by simp only; omega, rfl, by simp only; omega, ⟨rfl, rfl, rfl, rfl, rfl, trivial⟩, (hc5.then c511).step c11 (by have := hc.size; simp; omega), by have := c511.size; omega, ⟨_, m11, fun x => ?_⟩, hw⟩
    rw [look_app hnone, hlk]
    by_cases e : x = t.flaws[k].id
    · simp [e]
    · simp [e]

end Go.Proofs.YtkoejelglinmnaaGreat

/-
  Contracts: bits.Mul64, bits.Mul by 1; slices.Repeat of one number.
-/
namespace Go.Proofs.YtkoejelglinmnaaGreat
open Sg
set_option maxRecDepth 100000

theorem fdiv0 {c : Nat} (h : c < 4294967296) : Int.fdiv (c : Int) 4294967296 = 0 := by
  rw [Int.fdiv_eq_ediv_of_nonneg _ (by omega)]; omega

theorem mul64_ok (w : World) (c : Nat) (h : c < 4294967296) :
    Ret Tryz.prog 171 #[.int .u64 1, .int .u64 c] w fun v w' => v = .tuple #[.int .u64 0, .int .u64 c] ∧ Chg [] w w' := by
  have hand : c &&& 4294967295 = c := by
    have := Nat.and_two_pow_sub_one_eq_mod c 32
    rw [show (2 : Nat) ^ 32 - 1 = 4294967295 from by decide] at this
    rw [this]; exact Nat.mod_eq_of_lt h
  refine Ret.of_W (n := 51) Tryz.func171 rfl rfl (Nat.le_of_ble_eq_true rfl) ?_
  refine W.seq fun K hK => ?_
  refine W.region (by rfl) ?_
  refine Flow.assignC ?_
  refine Flow.assignC ?_
  refine hK _ _ _ ?_
  clear hK K
  refine W.seq fun K hK => ?_
  refine W.region (by rfl) ?_
  refine Flow.move (v := .int _ _) rfl ?_
  refine Flow.andU (c := 1) rfl rfl (a := 1) (by decide) (by decide) (by decide) ?_
  refine Flow.assign (v := .int _ _) rfl ?_
  refine hK _ _ _ ?_
  clear hK K
  refine W.seq fun K hK => ?_
  refine W.region (by rfl) ?_
  refine Flow.move (v := .int _ _) rfl ?_
  refine Flow.shrU (c := 0) rfl rfl (by decide) ?_
  refine Flow.assign (v := .int _ _) rfl ?_
  refine hK _ _ _ ?_
  clear hK K
  refine W.seq fun K hK => ?_
  refine W.region (by rfl) ?_
  refine Flow.move (v := .int _ _) rfl ?_
  refine Flow.andU (c := c) rfl rfl (by omega) (by decide) hand ?_
  refine Flow.assign (v := .int _ _) rfl ?_
  refine hK _ _ _ ?_
  clear hK K
  refine W.seq fun K hK => ?_
  refine W.region (by rfl) ?_
  refine Flow.move (v := .int _ _) rfl ?_
  refine Flow.shrU (c := 0) rfl rfl (fdiv0 h) ?_
  refine Flow.assign (v := .int _ _) rfl ?_
  refine hK _ _ _ ?_
  clear hK K
  refine W.seq fun K hK => ?_
  refine W.region (by rfl) ?_
  refine Flow.move (v := .int _ _) rfl ?_
  refine Flow.move (v := .int _ _) rfl ?_
  refine Flow.mulU (c := c) rfl rfl (by rw [IntKind.wrap_u64]; omega) ?_
  refine Flow.assign (v := .int _ _) rfl ?_
  refine hK _ _ _ ?_
  clear hK K
  refine W.seq fun K hK => ?_
  refine W.region (by rfl) ?_
  refine Flow.move (v := .int _ _) rfl ?_
  refine Flow.move (v := .int _ _) rfl ?_
  refine Flow.mulU (c := 0) rfl rfl (by rw [IntKind.wrap_u64]; omega) ?_
  refine Flow.move (v := .int _ _) rfl ?_
  refine Flow.shrU (c := 0) rfl rfl (fdiv0 h) ?_
  refine Flow.addU (c := 0) rfl rfl (by decide) ?_
  refine Flow.assign (v := .int _ _) rfl ?_
  refine hK _ _ _ ?_
  clear hK K
  refine W.seq fun K hK => ?_
  refine W.region (by rfl) ?_
  refine Flow.move (v := .int _ _) rfl ?_
  refine Flow.andU (c := 0) rfl rfl (a := 0) (by decide) (by decide) (by decide) ?_
  refine Flow.assign (v := .int _ _) rfl ?_
  refine hK _ _ _ ?_
  clear hK K
  refine W.seq fun K hK => ?_
  refine W.region (by rfl) ?_
  refine Flow.move (v := .int _ _) rfl ?_
  refine Flow.shrU (c := 0) rfl rfl (by decide) ?_
  refine Flow.assign (v := .int _ _) rfl ?_
  refine hK _ _ _ ?_
  clear hK K
  refine W.seq fun K hK => ?_
  refine W.region (by rfl) ?_
  refine Flow.move (v := .int _ _) rfl ?_
  refine Flow.move (v := .int _ _) rfl ?_
  refine Flow.move (v := .int _ _) rfl ?_
  refine Flow.mulU (c := 0) rfl rfl (by decide) ?_
  refine Flow.addU (c := 0) rfl rfl (by decide) ?_
  refine Flow.assign (v := .int _ _) rfl ?_
  refine hK _ _ _ ?_
  clear hK K
  refine W.seq fun K hK => ?_
  refine W.region (by rfl) ?_
  refine Flow.move (v := .int _ _) rfl ?_
  refine Flow.move (v := .int _ _) rfl ?_
  refine Flow.mulU (c := 0) rfl rfl (by decide) ?_
  refine Flow.move (v := .int _ _) rfl ?_
  refine Flow.addU (c := 0) rfl rfl (by decide) ?_
  refine Flow.move (v := .int _ _) rfl ?_
  refine Flow.shrU (c := 0) rfl rfl (by decide) ?_
  refine Flow.addU (c := 0) rfl rfl (by decide) ?_
  refine Flow.assign (v := .int _ _) rfl ?_
  refine hK _ _ _ ?_
  clear hK K
  refine W.seq fun K hK => ?_
  refine W.region (by rfl) ?_
  refine Flow.move (v := .int _ _) rfl ?_
  refine Flow.move (v := .int _ _) rfl ?_
  refine Flow.mulU (c := c) rfl rfl (by rw [IntKind.wrap_u64]; omega) ?_
  refine Flow.assign (v := .int _ _) rfl ?_
  refine hK _ _ _ ?_
  clear hK K
  refine W.ret ⟨_, res2 rfl (v := .int _ _) (v' := .int _ _) rfl rfl, rfl, Chg.refl _ _⟩

theorem mul_ok (w : World) (c : Nat) (h : c < 4294967296) :
    Ret Tryz.prog 151 #[.int .u64 1, .int .u64 c] w fun v w' => v = .tuple #[.int .u64 0, .int .u64 c] ∧ Chg [] w w' := by
  refine Ret.of_W (n := 30) Tryz.func151 rfl rfl (Nat.le_of_ble_eq_true rfl) ?_
  refine W.seq fun K hK => ?_
  refine W.region (by rfl) ?_
  refine Flow.assignC ?_
  refine Flow.assignC ?_
  refine hK _ _ _ ?_
  clear hK K
  refine W.seq fun K0 hK0 => ?_
  refine W.cond (t := false) rfl (fun h => by simp at h) (fun _ => W.skip (hK0 _ _ _ ?_))
  refine W.seq fun K hK => ?_
  refine W.region (by rfl) ?_
  refine Flow.move (v := .int _ _) rfl ?_
  refine Flow.move (v := .int _ _) rfl ?_
  refine Flow.call2 Tf.hb_171 (v1 := .int _ _) rfl (v2 := .int _ _) rfl ?_
  refine Ret.mono (mul64_ok _ c h) ?_
  rintro _ w1 ⟨rfl, c1⟩
  refine Flow.move (v := .tuple _) rfl ?_
  refine Flow.extract (v := .int _ _) rfl rfl ?_
  refine Flow.extract (v := .int _ _) rfl rfl ?_
  refine Flow.assign (v := .int _ _) rfl ?_
  refine Flow.assign (v := .int _ _) rfl ?_
  refine hK _ _ _ ?_
  clear hK K
  refine W.seq fun K hK => ?_
  refine W.region (by rfl) ?_
  refine Flow.move (v := .int _ _) rfl ?_
  refine Flow.move (v := .int _ _) rfl ?_
  refine Flow.assign (v := .int _ _) rfl ?_
  refine Flow.assign (v := .int _ _) rfl ?_
  refine hK _ _ _ ?_
  clear hK K
  refine W.ret ⟨_, res2 rfl (v := .int _ _) (v' := .int _ _) rfl rfl, rfl, c1⟩

theorem repeat_ok (w : World) (x : Int) (b o cap c : Nat) (hx : w.cell? ⟨b, o, none⟩ = some (.int .i64 x)) (hc : c ≤ 1000) :
    Ret Tryz.prog 114 #[.slice (some ⟨b, o, none⟩) 1 cap, .int .i64 c] w fun v w' =>
      Chg [] w w' ∧ ∃ g, v = .slice (some ⟨g, 0, none⟩) c c ∧ w.heap.size ≤ g ∧ Blk w' g (ints (List.replicate c x)) 3 := by
  refine Ret.of_W (n := 48) Tryz.func114 rfl rfl (Nat.le_of_ble_eq_true rfl) ?_
  refine W.seq fun K hK => ?_
  refine W.region (by rfl) ?_
  refine Flow.assignC ?_
  refine hK _ _ _ ?_
  clear hK K
  refine W.seq fun K1 hK1 => ?_
  refine W.seq fun K hK => ?_
  refine W.region (by rfl) ?_
  refine Flow.move (v := .int _ _) rfl ?_
  refine Flow.lss rfl rfl ?_
  refine hK _ _ _ ?_
  clear hK K
  refine W.cond rfl (fun h => by simp at h; omega) (fun _ => W.skip (hK1 _ _ _ ?_))
  refine W.seq fun K hK => ?_
  refine W.region (by rfl) ?_
  refine Flow.move (v := .slice _ _ _) rfl ?_
  refine Flow.len rfl Tf.us_22 rfl rfl ?_
  refine Flow.convert (s := 0) (z := undef) (k' := .u64) (by kernel_rfl) (by kernel_rfl) rfl (by decide) ?_
  refine Flow.move (v := .int _ _) rfl ?_
  refine Flow.convert (s := 0) (z := undef) (k' := .u64) (by kernel_rfl) (by kernel_rfl) rfl (by rw [IntKind.wrap_u64]; omega) ?_
  refine Flow.call2 Tf.hb_151 (v1 := .int _ _) rfl (v2 := .int _ _) rfl ?_
  refine Ret.mono (mul_ok _ c (by omega)) ?_
  rintro _ w1 ⟨rfl, c1⟩
  refine Flow.move (v := .tuple _) rfl ?_
  refine Flow.extract (v := .int _ _) rfl rfl ?_
  refine Flow.extract (v := .int _ _) rfl rfl ?_
  refine Flow.assign (v := .int _ _) rfl ?_
  refine Flow.assign (v := .int _ _) rfl ?_
  refine hK _ _ _ ?_
  clear hK K
  refine W.seq fun K4 hK4 => ?_
  refine W.seq fun K hK => ?_
  refine W.region (by rfl) ?_
  refine Flow.move (v := .int _ _) rfl ?_
  refine Flow.gtrD (c := false) rfl rfl (decide_eq_false (by omega)) ?_
  refine Flow.move (v := .bool _) rfl ?_
  refine Flow.on rfl rfl ?_
  refine Flow.move (v := .int _ _) rfl ?_
  refine Flow.on rfl rfl ?_
  refine Flow.gtr rfl rfl ?_
  refine Flow.pickF rfl rfl ?_
  refine hK _ _ _ ?_
  clear hK K
  refine W.cond rfl (fun h => by simp at h; omega) (fun _ => W.skip (hK4 _ _ _ ?_))
  refine W.seq fun K hK => ?_
  refine W.region (by rfl) ?_
  refine Flow.move (v := .int _ _) rfl ?_
  refine Flow.convert (s := 0) (z := undef) (k' := .i64) (by kernel_rfl) (by kernel_rfl) rfl (by rw [IntKind.wrap_i64]; omega) ?_
  refine Flow.makeSlice Tf.sl_22 Tf.us_22 (c0 := .int .i64 0) rfl (by decide) rfl rfl (by omega) (by omega) fun w2 c2 s2 b2 => ?_
  refine Flow.assign (v := .slice _ _ _) rfl ?_
  refine hK _ _ _ ?_
  clear hK K
  have hx2 := cell_chg hx (c1.then c2) (by simp)
  rw [Nat.mul_one] at b2
  have hmin : (ints (List.replicate (min 1 c) x)).length = min 1 c := by simp [ints]
  have hsrc : Cells w2 b o (ints (List.replicate (min 1 c) x)) := by
    rcases Nat.eq_zero_or_pos c with rfl | h
    · trivial
    · rw [show min 1 c = 1 from by omega]; exact ⟨hx2, trivial⟩
  refine W.seq fun K hK => ?_
  refine W.region (by rfl) ?_
  refine Flow.move (v := .slice _ _ _) rfl ?_
  refine Flow.move (v := .slice _ _ _) rfl ?_
  refine Flow.copy (el := 0) Tf.sl_22 rfl rfl b2 hsrc hmin (by simp [ints]; omega) (by simp [ints, oneV]) fun w3 c3 s3 b3 => ?_
  refine Flow.assign (v := .int _ _) rfl ?_
  refine hK _ _ _ ?_
  clear hK K
  refine W.seq fun K8 hK8 => ?_
  refine W.block ?_
  refine W.loop (ι := Nat) (fun k ds e w' => ds = [] ∧ k ≤ c ∧ min 1 c ≤ k ∧ AllAt e [(7, .slice (some ⟨w1.heap.size, 0, none⟩) c c), (8, .int .i64 k)] ∧ Chg [] w w' ∧ Blk w' w1.heap.size (ints (List.replicate k x) ++ List.replicate (c - k) (.int .i64 0)) 3)
    (fun k => c - k) (i0 := (ints (List.replicate (min 1 c) x)).length) ⟨rfl, by omega, by omega, ⟨rfl, rfl, trivial⟩, (c1.then c2).step c3 (by have := c1.size; simp; omega), ?_⟩ ?_
  · rw [hmin]; rw [hmin] at b3; simpa using b3
  rintro k ds e w' ⟨rfl, hk, hk1, hE, hc', hb⟩
  obtain ⟨e, rfl⟩ : ∃ e0, e = putL e0 _ := ⟨e, putL_self hE⟩
  clear hE
  refine W.seq fun K9 hK9 => ?_
  refine W.seq fun K hK => ?_
  refine W.region (by rfl) ?_
  refine Flow.move (v := .int _ _) rfl ?_
  refine Flow.move (v := .slice _ _ _) rfl ?_
  refine Flow.len rfl Tf.us_22 rfl rfl ?_
  refine Flow.lss rfl rfl ?_
  refine hK _ _ _ ?_
  clear hK K
  refine W.cond rfl (fun h => W.skip (hK9 _ _ _ ?_)) (fun h => W.exit ?_)
  · have hlt : k < c := by simpa using h
    have hm : (ints (List.replicate (min k (c - k)) x)).length = min k (c - k) := by simp [ints]
    have hb' : Blk w' w1.heap.size (ints (List.replicate (min k (c - k)) x) ++ (ints (List.replicate (k - min k (c - k)) x) ++ List.replicate (c - k) (.int .i64 0))) 3 := by
      rw [← List.append_assoc]
      have : ints (List.replicate (min k (c - k)) x) ++ ints (List.replicate (k - min k (c - k)) x) = ints (List.replicate k x) := by
        rw [ints, ints, ints, ← List.map_append, List.replicate_append_replicate]; congr 2; omega
      rw [this]; exact hb
    refine W.block ?_
    refine W.regionD [7] [7] (by kernel_rfl) (by kernel_rfl) fun w0 c0 h0 => ?_
    refine FD.val (fun _ hw => Rn.move (v := .int _ _) rfl) ?_
    refine FD.val (fun _ hw => Rn.move (v := .slice _ _ _) rfl) ?_
    refine FD.val (fun _ hw => Rn.move (v := .int _ _) rfl) ?_
    refine FD.val (fun _ hw => Rn.sliceFrom Tf.sl_22 rfl rfl (by omega) (by omega) (by omega)) ?_
    refine FD.val (fun _ hw => Rn.move (v := .slice _ _ _) rfl) ?_
    refine FD.val (fun _ hw => Rn.move (v := .int _ _) rfl) ?_
    refine FD.val (fun _ hw => Rn.sliceTo Tf.sl_22 rfl rfl (by omega)) ?_
    refine FD.hardE (by rfl) (by rfl) ?_
    refine Flow.copy (el := 0) Tf.sl_22 rfl rfl (hb.chg c0 (by simp)) (Cells.chg c0 (by simp) (Blk.cells (pre := []) hb')) hm (by simp [ints]; omega) (by simp [ints, oneV]) fun w4 c4 s4 b4 => ?_
    refine Flow.nil ?_
    refine FD.val (fun _ hw => Rn.add rfl rfl (by omega) (by omega)) ?_
    refine FD.val (fun _ hw => Rn.assign (v := .int _ _) rfl) ?_
    refine FD.nil ?_
    rw [hm] at b4
    refine ⟨k + (ints (List.replicate (min k (c - k)) x)).length, by rw [hm]; omega, rfl, by rw [hm]; omega, by omega, ⟨rfl, rfl, trivial⟩, (hc'.then c0).step c4 (by have := c1.size; simp; omega), ?_⟩
    have e1 : (ints (List.replicate k x) ++ List.replicate (c - k) (Value.int .i64 0)).take (0 + k * 1) = ints (List.replicate k x) := by simp [ints]
    have e2 : (ints (List.replicate k x) ++ List.replicate (c - k) (Value.int .i64 0)).drop (0 + k * 1 + min k (c - k)) = List.replicate (c - (k + min k (c - k))) (Value.int .i64 0) := by
      rw [List.drop_append, List.drop_eq_nil_of_le (by simp [ints]), List.nil_append, List.drop_replicate]
      congr 1; simp [ints]; omega
    rw [e1, e2] at b4
    rw [hm]
    have e3 : ints (List.replicate k x) ++ ints (List.replicate (min k (c - k)) x) = ints (List.replicate (k + min k (c - k)) x) := by
      rw [ints, ints, ints, ← List.map_append, List.replicate_append_replicate]
    rw [e3] at b4
    exact b4
  · have hge : k = c := by simp at h; omega
    subst hge
    refine hK8 _ _ _ ?_
    refine W.seq fun K hK => ?_
    refine W.region (by rfl) ?_
    refine Flow.move (v := .slice _ _ _) rfl ?_
    refine Flow.assign (v := .slice _ _ _) rfl ?_
    refine hK _ _ _ ?_
    clear hK K
    refine W.ret ⟨_, res1 rfl (v := .slice _ _ _) rfl, hc', _, rfl, by have := c1.size; omega, by simpa using hb⟩

end Go.Proofs.YtkoejelglinmnaaGreat

/-
  Contract: newPlan.
-/
namespace Go.Proofs.YtkoejelglinmnaaGreat
open Sg
set_option maxRecDepth 100000

theorem repeatZ_ok (w : World) (x : Int) (b o cap : Nat) (c : Int) (hx : w.cell? ⟨b, o, none⟩ = some (.int .i64 x)) (h0 : 0 ≤ c) (hc : c ≤ 1000) :
    Ret Tryz.prog 114 #[.slice (some ⟨b, o, none⟩) 1 cap, .int .i64 c] w fun v w' =>
      Chg [] w w' ∧ ∃ g, v = .slice (some ⟨g, 0, none⟩) c.toNat c.toNat ∧ w.heap.size ≤ g ∧ Blk w' g (ints (List.replicate c.toNat x)) 3 := by
  obtain ⟨n, rfl⟩ := Int.eq_ofNat_of_zero_le h0
  exact repeat_ok w x b o cap n hx (by omega)

theorem newPlan_ok (w : World) (t : Tour) (ac af : Option Addr) (cc cf : Nat) (hs : Small t) :
    Ret Tryz.prog 96 #[.agg #[.int .i64 t.days, .slice ac t.closed.length cc, .slice af t.flaws.length cf]] w fun v w' => Chg [] w w' ∧ ∃ g, v = .agg #[.int .i64 t.days, .slice ac t.closed.length cc, .slice af t.flaws.length cf, .slice (some ⟨g, 0, none⟩) t.days.toNat t.days.toNat] ∧ w.heap.size ≤ g ∧ Blk w' g (ints (noDays t)) 3 := by
  have := hs.dl
  have := hs.dh
  refine Ret.of_W (n := 9) Tryz.func96 rfl rfl (Nat.le_of_ble_eq_true rfl) ?_
  refine W.seq fun K hK => ?_
  refine W.region (by rfl) ?_
  refine Flow.box rfl (cs := [_, _, _]) rfl fun w1 c1 s1 b1 => ?_
  refine Flow.alloc Tf.ty_129 (cs := [_, _, _, _]) rfl fun w2 c2 s2 b2 => ?_
  refine hK _ _ _ ?_
  clear hK K
  refine W.seq fun K hK => ?_
  refine W.regionD [1, 4, 6] [6] (by kernel_rfl) (by kernel_rfl) fun w0 c0 h0 => ?_
  refine FD.val (fun _ hw => Rn.loadA Tf.ty_25 rfl rfl ((b1.chg (c2.then c0) (by simp)).cells0) (hw rfl rfl)) ?_
  refine FD.eff (by rfl) (Chg.refl _ _) ?_
  refine Flow.buildSlice1 Tf.sl_22 Tf.us_22 rfl (by decide) (by decide) rfl (cs := [_]) rfl rfl fun w3 c3 s3 b3 => ?_
  refine Flow.nil ⟨c3, ?_⟩
  refine FD.val (fun _ hw => Rn.fieldAddr Tf.fo_25_0 rfl) ?_
  refine FD.val (fun _ hw => Rn.load1 Tf.ty_3 rfl ((b1.chg (c2.then c0) (by simp)).cell 0) (hw rfl rfl)) ?_
  refine FD.eff (by rfl) (c3) ?_
  refine Flow.call2 Tf.hb_114 (v1 := .slice _ _ _) rfl (v2 := .int _ _) rfl ?_
  refine Ret.mono (repeatZ_ok _ _ _ _ _ _ (b3.cell 0) (by omega) (by omega)) ?_
  rintro _ w4 ⟨c4, g, rfl, hg, b4⟩
  refine Flow.nil ⟨c4, ?_⟩
  refine FD.val (fun _ hw => Rn.buildL Tf.ty_129 Tf.pl_129 (l := [(_, _), (_, _)]) (zs := [_, _, _, _]) (cs := [_, _, _, _]) rfl rfl rfl) ?_
  refine FD.hardE (by rfl) (by rfl) ?_
  refine Flow.store Tf.ty_129 rfl rfl ((b2.chg (c0.then (c3.then c4)) (by simp))) (vs := [_, _, _, _]) rfl rfl (by simp) rfl fun w5 c5 s5 b5 => ?_
  refine Flow.nil ?_
  refine FD.nil ?_
  refine hK _ _ _ ?_
  clear hK K
  have := c0.size; have := c3.size
  refine W.ret ⟨_, resG1 rfl (OneR.cellA Tf.ty_129 rfl (l := [_, _, _, _]) rfl b5.cells0), ((c1.then (c2.then c0)).then (c3.then c4)).step c5 (by simp; omega), g, rfl, by omega, b4.chg c5 (by simp; omega)⟩

end Go.Proofs.YtkoejelglinmnaaGreat
