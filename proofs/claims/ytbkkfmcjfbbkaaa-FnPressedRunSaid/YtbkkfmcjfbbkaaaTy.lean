/- Facts on the program's types, printed by a program. -/
import Derived.Test.YtbkkfmcjfbbkaaaProg
import Derived.Test.YtbkkfmcjfbbkaaaGb
namespace Go.Proofs.Ytbkkfmcjfbbkaaa
open Go.RowKit
set_option linter.defProp false
def BR (f : Nat) : Bool := [22, 34, 38, 44, 53, 54, 55, 57, 82, 83, 95, 106, 108, 109, 110, 123, 124, 125, 149, 159, 170, 181, 197, 198, 199, 200, 201].contains f
theorem ty_fz (n : Nat) : FZ BR n = false := by
  show List.contains _ (1000000 + n) = false
  rw [List.contains_eq_mem]
  refine decide_eq_false ?_
  simp only [List.mem_cons, List.not_mem_nil, or_false]
  omega
theorem ty_br11 : BR 11 = false := by kernel_rfl
theorem ty_br12 : BR 12 = false := by kernel_rfl
theorem ty_zr29 : zeroA Try.prog 29 = some ([.nil, .int .i64 0, .nil]) := by kernel_rfl
theorem ty_zr31 : zeroA Try.prog 31 = some ([.int .i64 0, .int .i64 0, .int .i64 0, .int .i64 0]) := by kernel_rfl
theorem ty_sz29 : szA Try.prog 29 = some (3, true) := by kernel_rfl
theorem ty_sz31 : szA Try.prog 31 = some (4, true) := by kernel_rfl
theorem ty_br13 : BR 13 = false := by kernel_rfl
theorem ty_br14 : BR 14 = false := by kernel_rfl
theorem ty_bt4 : isBoolT Try.prog 4 = true := by kernel_rfl
theorem ty_br15 : BR 15 = false := by kernel_rfl
theorem ty_br16 : BR 16 = false := by kernel_rfl
theorem ty_fl29_0 : fldA Try.prog 29 0 = some (0, 1, false) := by kernel_rfl
theorem ty_sz24 : szA Try.prog 24 = some (1, false) := by kernel_rfl
theorem ty_sl24 : isSlT Try.prog 24 = true := by kernel_rfl
theorem ty_bt3 : isBoolT Try.prog 3 = false := by kernel_rfl
theorem ty_br17 : BR 17 = false := by kernel_rfl
theorem ty_br19 : BR 19 = false := by kernel_rfl
theorem ty_br18 : BR 18 = false := by kernel_rfl
theorem ty_br20 : BR 20 = false := by kernel_rfl
theorem ty_br21 : BR 21 = false := by kernel_rfl
theorem ty_br22 : BR 22 = true := by kernel_rfl
theorem ty_br23 : BR 23 = false := by kernel_rfl
theorem ty_br24 : BR 24 = false := by kernel_rfl
theorem ty_br25 : BR 25 = false := by kernel_rfl
theorem ty_br26 : BR 26 = false := by kernel_rfl
theorem ty_br27 : BR 27 = false := by kernel_rfl
theorem ty_br28 : BR 28 = false := by kernel_rfl
theorem ty_sz52 : szA Try.prog 52 = some (2, true) := by kernel_rfl
theorem ty_br29 : BR 29 = false := by kernel_rfl
theorem ty_br31 : BR 31 = false := by kernel_rfl
theorem ty_br30 : BR 30 = false := by kernel_rfl
theorem ty_zr27 : zeroA Try.prog 27 = some ([.int .i64 0, .nil]) := by kernel_rfl
theorem ty_sz27 : szA Try.prog 27 = some (2, true) := by kernel_rfl
theorem ty_br32 : BR 32 = false := by kernel_rfl
theorem ty_br33 : BR 33 = false := by kernel_rfl
theorem ty_br34 : BR 34 = true := by kernel_rfl
theorem ty_br35 : BR 35 = false := by kernel_rfl
theorem ty_br36 : BR 36 = false := by kernel_rfl
theorem ty_br37 : BR 37 = false := by kernel_rfl
theorem ty_br38 : BR 38 = true := by kernel_rfl
theorem ty_br39 : BR 39 = false := by kernel_rfl
theorem ty_sz66 : szA Try.prog 66 = some (4, true) := by kernel_rfl
theorem ty_br41 : BR 41 = false := by kernel_rfl
theorem ty_br40 : BR 40 = false := by kernel_rfl
theorem ty_br42 : BR 42 = false := by kernel_rfl
theorem ty_br43 : BR 43 = false := by kernel_rfl
theorem ty_br44 : BR 44 = true := by kernel_rfl
theorem ty_br45 : BR 45 = false := by kernel_rfl
theorem ty_br46 : BR 46 = false := by kernel_rfl
theorem ty_zr69 : zeroA Try.prog 69 = some ([.int .i64 0, .int .i64 0, .int .i64 0, .int .i64 0]) := by kernel_rfl
theorem ty_sz69 : szA Try.prog 69 = some (4, true) := by kernel_rfl
theorem ty_br47 : BR 47 = false := by kernel_rfl
theorem ty_br48 : BR 48 = false := by kernel_rfl
theorem ty_fn69 : flatN Try.prog 4 69 = some 4 := by kernel_rfl
theorem ty_fl69_0 : fldA Try.prog 69 0 = some (0, 1, false) := by kernel_rfl
theorem ty_sz3 : szA Try.prog 3 = some (1, false) := by kernel_rfl
theorem ty_br49 : BR 49 = false := by kernel_rfl
theorem ty_br50 : BR 50 = false := by kernel_rfl
theorem ty_br51 : BR 51 = false := by kernel_rfl
theorem ty_sl22 : isSlT Try.prog 22 = true := by kernel_rfl
theorem ty_br52 : BR 52 = false := by kernel_rfl
theorem ty_br53 : BR 53 = true := by kernel_rfl
theorem ty_br54 : BR 54 = true := by kernel_rfl
theorem ty_br55 : BR 55 = true := by kernel_rfl
theorem ty_br57 : BR 57 = true := by kernel_rfl
theorem ty_br56 : BR 56 = false := by kernel_rfl
theorem ty_br58 : BR 58 = false := by kernel_rfl
theorem ty_br59 : BR 59 = false := by kernel_rfl
theorem ty_br60 : BR 60 = false := by kernel_rfl
theorem ty_fl31_0 : fldA Try.prog 31 0 = some (0, 1, false) := by kernel_rfl
theorem ty_br61 : BR 61 = false := by kernel_rfl
theorem ty_fl29_1 : fldA Try.prog 29 1 = some (1, 2, true) := by kernel_rfl
theorem ty_br63 : BR 63 = false := by kernel_rfl
theorem ty_br62 : BR 62 = false := by kernel_rfl
theorem ty_br64 : BR 64 = false := by kernel_rfl
theorem ty_br65 : BR 65 = false := by kernel_rfl
theorem ty_br66 : BR 66 = false := by kernel_rfl
theorem ty_br67 : BR 67 = false := by kernel_rfl
theorem ty_br68 : BR 68 = false := by kernel_rfl
theorem ty_br69 : BR 69 = false := by kernel_rfl
theorem ty_br70 : BR 70 = false := by kernel_rfl
theorem ty_sl38 : isSlT Try.prog 38 = true := by kernel_rfl
theorem ty_im31_0 : immB Try.prog 31 0 = false := by kernel_rfl
theorem ty_by31 : bytesA Try.prog 31 = 32 := by kernel_rfl
theorem ty_el40 : elA Try.prog 40 = some (31, 4) := by kernel_rfl
theorem ty_sl40 : isSlT Try.prog 40 = true := by kernel_rfl
theorem ty_br71 : BR 71 = false := by kernel_rfl
theorem ty_fl31_1 : fldA Try.prog 31 1 = some (1, 1, false) := by kernel_rfl
theorem ty_im31_1 : immB Try.prog 31 1 = false := by kernel_rfl
theorem ty_br72 : BR 72 = false := by kernel_rfl
theorem ty_br73 : BR 73 = false := by kernel_rfl
theorem ty_br74 : BR 74 = false := by kernel_rfl
theorem ty_el38 : elA Try.prog 38 = some (98, 4) := by kernel_rfl
theorem ty_sz98 : szA Try.prog 98 = some (4, true) := by kernel_rfl
theorem ty_br75 : BR 75 = false := by kernel_rfl
theorem ty_br76 : BR 76 = false := by kernel_rfl
theorem ty_br77 : BR 77 = false := by kernel_rfl
theorem ty_br78 : BR 78 = false := by kernel_rfl
theorem ty_fl31_2 : fldA Try.prog 31 2 = some (2, 1, false) := by kernel_rfl
theorem ty_fl31_3 : fldA Try.prog 31 3 = some (3, 1, false) := by kernel_rfl
theorem ty_br79 : BR 79 = false := by kernel_rfl
theorem ty_br80 : BR 80 = false := by kernel_rfl
theorem ty_br81 : BR 81 = false := by kernel_rfl
theorem ty_br82 : BR 82 = true := by kernel_rfl
theorem ty_im3_5 : immB Try.prog 3 5 = true := by kernel_rfl
theorem ty_by3 : bytesA Try.prog 3 = 8 := by kernel_rfl
theorem ty_el24 : elA Try.prog 24 = some (3, 1) := by kernel_rfl
theorem ty_zr3 : zeroA Try.prog 3 = some ([.int .i64 0]) := by kernel_rfl
theorem ty_br83 : BR 83 = true := by kernel_rfl
theorem ty_fn31 : flatN Try.prog 4 31 = some 4 := by kernel_rfl
theorem ty_el60 : elA Try.prog 60 = some (40, 1) := by kernel_rfl
theorem ty_zr40 : zeroA Try.prog 40 = some ([.nil]) := by kernel_rfl
theorem ty_by40 : bytesA Try.prog 40 = 24 := by kernel_rfl
theorem ty_sz40 : szA Try.prog 40 = some (1, false) := by kernel_rfl
theorem ty_br84 : BR 84 = false := by kernel_rfl
theorem ty_sl60 : isSlT Try.prog 60 = true := by kernel_rfl
theorem ty_zr104 : zeroA Try.prog 104 = some ([.nil, .nil, .nil, .nil]) := by kernel_rfl
theorem ty_st104 : isStT Try.prog 104 = false := by kernel_rfl
theorem ty_sz104 : szA Try.prog 104 = some (4, true) := by kernel_rfl
theorem ty_el104 : elA Try.prog 104 = none := by kernel_rfl
theorem ty_br86 : BR 86 = false := by kernel_rfl
theorem ty_fl52_1 : fldA Try.prog 52 1 = some (1, 1, false) := by kernel_rfl
theorem ty_sz50 : szA Try.prog 50 = some (1, false) := by kernel_rfl
theorem ty_br87 : BR 87 = false := by kernel_rfl
theorem ty_br88 : BR 88 = false := by kernel_rfl
theorem ty_fl27_0 : fldA Try.prog 27 0 = some (0, 1, false) := by kernel_rfl
theorem ty_br89 : BR 89 = false := by kernel_rfl
theorem ty_br90 : BR 90 = false := by kernel_rfl
theorem ty_fl52_0 : fldA Try.prog 52 0 = some (0, 1, false) := by kernel_rfl
theorem ty_br91 : BR 91 = false := by kernel_rfl
theorem ty_fl27_1 : fldA Try.prog 27 1 = some (1, 1, false) := by kernel_rfl
theorem ty_sz25 : szA Try.prog 25 = some (1, false) := by kernel_rfl
theorem ty_br92 : BR 92 = false := by kernel_rfl
theorem ty_br93 : BR 93 = false := by kernel_rfl
theorem ty_br94 : BR 94 = false := by kernel_rfl
theorem ty_br95 : BR 95 = true := by kernel_rfl
theorem ty_st27 : isStT Try.prog 27 = true := by kernel_rfl
theorem ty_im40_1 : immB Try.prog 40 1 = false := by kernel_rfl
theorem ty_br96 : BR 96 = false := by kernel_rfl
theorem ty_im27_1 : immB Try.prog 27 1 = false := by kernel_rfl
theorem ty_by27 : bytesA Try.prog 27 = 32 := by kernel_rfl
theorem ty_el108 : elA Try.prog 108 = some (27, 2) := by kernel_rfl
theorem ty_sl108 : isSlT Try.prog 108 = true := by kernel_rfl
theorem ty_im119_0 : immB Try.prog 119 0 = false := by kernel_rfl
theorem ty_by119 : bytesA Try.prog 119 = 24 := by kernel_rfl
theorem ty_el67 : elA Try.prog 67 = some (119, 1) := by kernel_rfl
theorem ty_zr119 : zeroA Try.prog 119 = some ([.nil]) := by kernel_rfl
theorem ty_br97 : BR 97 = false := by kernel_rfl
theorem ty_it3 : isIntT Try.prog 3 = some (.i64) := by kernel_rfl
theorem ty_it118 : isIntT Try.prog 118 = some (.u64) := by kernel_rfl
theorem ty_el119 : elA Try.prog 119 = some (123, 5) := by kernel_rfl
theorem ty_zr123 : zeroA Try.prog 123 = some ([.int .i64 0, .int .i64 0, .int .i64 0, .int .i64 0, .int .i64 0]) := by kernel_rfl
theorem ty_by123 : bytesA Try.prog 123 = 40 := by kernel_rfl
theorem ty_fl69_1 : fldA Try.prog 69 1 = some (1, 1, false) := by kernel_rfl
theorem ty_fl69_3 : fldA Try.prog 69 3 = some (3, 1, false) := by kernel_rfl
theorem ty_fl69_2 : fldA Try.prog 69 2 = some (2, 1, false) := by kernel_rfl
theorem ty_br99 : BR 99 = false := by kernel_rfl
theorem ty_br98 : BR 98 = false := by kernel_rfl
theorem ty_sz123 : szA Try.prog 123 = some (5, true) := by kernel_rfl
theorem ty_im119_1 : immB Try.prog 119 1 = false := by kernel_rfl
theorem ty_br100 : BR 100 = false := by kernel_rfl
theorem ty_fl66_0 : fldA Try.prog 66 0 = some (0, 1, false) := by kernel_rfl
theorem ty_fl66_1 : fldA Try.prog 66 1 = some (1, 1, false) := by kernel_rfl
theorem ty_fl66_2 : fldA Try.prog 66 2 = some (2, 1, false) := by kernel_rfl
theorem ty_fl66_3 : fldA Try.prog 66 3 = some (3, 1, false) := by kernel_rfl
theorem ty_br101 : BR 101 = false := by kernel_rfl
theorem ty_br103 : BR 103 = false := by kernel_rfl
theorem ty_br102 : BR 102 = false := by kernel_rfl
theorem ty_br104 : BR 104 = false := by kernel_rfl
theorem ty_sl67 : isSlT Try.prog 67 = true := by kernel_rfl
theorem ty_sz119 : szA Try.prog 119 = some (1, false) := by kernel_rfl
theorem ty_br105 : BR 105 = false := by kernel_rfl
theorem ty_br106 : BR 106 = true := by kernel_rfl
theorem ty_br107 : BR 107 = false := by kernel_rfl
theorem ty_br108 : BR 108 = true := by kernel_rfl
theorem ty_br109 : BR 109 = true := by kernel_rfl
theorem ty_br110 : BR 110 = true := by kernel_rfl
theorem ty_br111 : BR 111 = false := by kernel_rfl
theorem ty_st69 : isStT Try.prog 69 = true := by kernel_rfl
theorem ty_pl69_0 : placeA Try.prog 69 0 = some (0, 1) := by kernel_rfl
theorem ty_pl69_3 : placeA Try.prog 69 3 = some (3, 1) := by kernel_rfl
theorem ty_br112 : BR 112 = false := by kernel_rfl
theorem ty_br113 : BR 113 = false := by kernel_rfl
theorem ty_br114 : BR 114 = false := by kernel_rfl
theorem ty_br116 : BR 116 = false := by kernel_rfl
theorem ty_br115 : BR 115 = false := by kernel_rfl
theorem ty_br118 : BR 118 = false := by kernel_rfl
theorem ty_br117 : BR 117 = false := by kernel_rfl
theorem ty_br119 : BR 119 = false := by kernel_rfl
theorem ty_br121 : BR 121 = false := by kernel_rfl
theorem ty_br120 : BR 120 = false := by kernel_rfl
theorem ty_br122 : BR 122 = false := by kernel_rfl
theorem ty_el22 : elA Try.prog 22 = some (5, 1) := by kernel_rfl
theorem ty_sz5 : szA Try.prog 5 = some (1, false) := by kernel_rfl
theorem ty_it5 : isIntT Try.prog 5 = some (.u8) := by kernel_rfl
theorem ty_zr142 : zeroA Try.prog 142 = some ([.nil, .int .i64 0, .int .i64 0]) := by kernel_rfl
theorem ty_st142 : isStT Try.prog 142 = true := by kernel_rfl
theorem ty_pl142_0 : placeA Try.prog 142 0 = some (0, 1) := by kernel_rfl
theorem ty_pl142_2 : placeA Try.prog 142 2 = some (2, 1) := by kernel_rfl
theorem ty_im3_1 : immB Try.prog 3 1 = true := by kernel_rfl
theorem ty_br123 : BR 123 = true := by kernel_rfl
theorem ty_br124 : BR 124 = true := by kernel_rfl
theorem ty_im3_4 : immB Try.prog 3 4 = true := by kernel_rfl
theorem ty_st31 : isStT Try.prog 31 = true := by kernel_rfl
theorem ty_pl31_0 : placeA Try.prog 31 0 = some (0, 1) := by kernel_rfl
theorem ty_pl31_1 : placeA Try.prog 31 1 = some (1, 1) := by kernel_rfl
theorem ty_br125 : BR 125 = true := by kernel_rfl
theorem ty_im3_0 : immB Try.prog 3 0 = false := by kernel_rfl
theorem ty_im69_0 : immB Try.prog 69 0 = false := by kernel_rfl
theorem ty_by69 : bytesA Try.prog 69 = 32 := by kernel_rfl
theorem ty_el25 : elA Try.prog 25 = some (69, 4) := by kernel_rfl
theorem ty_pl27_0 : placeA Try.prog 27 0 = some (0, 1) := by kernel_rfl
theorem ty_pl27_1 : placeA Try.prog 27 1 = some (1, 1) := by kernel_rfl
theorem ty_st29 : isStT Try.prog 29 = true := by kernel_rfl
theorem ty_pl29_0 : placeA Try.prog 29 0 = some (0, 1) := by kernel_rfl
theorem ty_pl29_1 : placeA Try.prog 29 1 = some (1, 2) := by kernel_rfl
theorem ty_br126 : BR 126 = false := by kernel_rfl
theorem ty_im3_3 : immB Try.prog 3 3 = true := by kernel_rfl
theorem ty_br127 : BR 127 = false := by kernel_rfl
theorem ty_br130 : BR 130 = false := by kernel_rfl
theorem ty_br129 : BR 129 = false := by kernel_rfl
theorem ty_im40_2 : immB Try.prog 40 2 = false := by kernel_rfl
theorem ty_br128 : BR 128 = false := by kernel_rfl
theorem ty_im40_3 : immB Try.prog 40 3 = false := by kernel_rfl
theorem ty_sl25 : isSlT Try.prog 25 = true := by kernel_rfl
theorem ty_im69_1 : immB Try.prog 69 1 = false := by kernel_rfl
theorem ty_br131 : BR 131 = false := by kernel_rfl
theorem ty_br132 : BR 132 = false := by kernel_rfl
theorem ty_br133 : BR 133 = false := by kernel_rfl
theorem ty_br134 : BR 134 = false := by kernel_rfl
theorem ty_br137 : BR 137 = false := by kernel_rfl
theorem ty_br136 : BR 136 = false := by kernel_rfl
theorem ty_br135 : BR 135 = false := by kernel_rfl
theorem ty_br138 : BR 138 = false := by kernel_rfl
theorem ty_br139 : BR 139 = false := by kernel_rfl
theorem ty_fl98_0 : fldA Try.prog 98 0 = some (0, 1, false) := by kernel_rfl
theorem ty_fl98_1 : fldA Try.prog 98 1 = some (1, 1, false) := by kernel_rfl
theorem ty_fl98_2 : fldA Try.prog 98 2 = some (2, 1, false) := by kernel_rfl
theorem ty_fl98_3 : fldA Try.prog 98 3 = some (3, 1, false) := by kernel_rfl
theorem ty_br140 : BR 140 = false := by kernel_rfl
theorem ty_im3_12 : immB Try.prog 3 12 = true := by kernel_rfl
theorem ty_sl50 : isSlT Try.prog 50 = true := by kernel_rfl
theorem ty_br141 : BR 141 = false := by kernel_rfl
theorem ty_br142 : BR 142 = false := by kernel_rfl
theorem ty_br143 : BR 143 = false := by kernel_rfl
theorem ty_im3_6 : immB Try.prog 3 6 = true := by kernel_rfl
theorem ty_el50 : elA Try.prog 50 = some (66, 4) := by kernel_rfl
theorem ty_zr156 : zeroA Try.prog 156 = some ([.int .i64 0, .nil]) := by kernel_rfl
theorem ty_st156 : isStT Try.prog 156 = true := by kernel_rfl
theorem ty_pl156_0 : placeA Try.prog 156 0 = some (0, 1) := by kernel_rfl
theorem ty_pl156_1 : placeA Try.prog 156 1 = some (1, 1) := by kernel_rfl
theorem ty_br144 : BR 144 = false := by kernel_rfl
theorem ty_br145 : BR 145 = false := by kernel_rfl
theorem ty_br146 : BR 146 = false := by kernel_rfl
theorem ty_pl69_1 : placeA Try.prog 69 1 = some (1, 1) := by kernel_rfl
theorem ty_pl69_2 : placeA Try.prog 69 2 = some (2, 1) := by kernel_rfl
theorem ty_zr121 : zeroA Try.prog 121 = some ([.int .i64 0, .int .i64 0, .int .i64 0, .int .i64 0]) := by kernel_rfl
theorem ty_st121 : isStT Try.prog 121 = true := by kernel_rfl
theorem ty_pl121_0 : placeA Try.prog 121 0 = some (0, 1) := by kernel_rfl
theorem ty_pl121_1 : placeA Try.prog 121 1 = some (1, 1) := by kernel_rfl
theorem ty_pl121_2 : placeA Try.prog 121 2 = some (2, 1) := by kernel_rfl
theorem ty_pl121_3 : placeA Try.prog 121 3 = some (3, 1) := by kernel_rfl
theorem ty_im121_8 : immB Try.prog 121 8 = false := by kernel_rfl
theorem ty_by121 : bytesA Try.prog 121 = 32 := by kernel_rfl
theorem ty_el157 : elA Try.prog 157 = some (121, 4) := by kernel_rfl
theorem ty_sz121 : szA Try.prog 121 = some (4, true) := by kernel_rfl
theorem ty_st123 : isStT Try.prog 123 = true := by kernel_rfl
theorem ty_pl123_0 : placeA Try.prog 123 0 = some (0, 4) := by kernel_rfl
theorem ty_fl121_0 : fldA Try.prog 121 0 = some (0, 1, false) := by kernel_rfl
theorem ty_fl121_1 : fldA Try.prog 121 1 = some (1, 1, false) := by kernel_rfl
theorem ty_fl121_2 : fldA Try.prog 121 2 = some (2, 1, false) := by kernel_rfl
theorem ty_fl121_3 : fldA Try.prog 121 3 = some (3, 1, false) := by kernel_rfl
theorem ty_br147 : BR 147 = false := by kernel_rfl
theorem ty_im123_0 : immB Try.prog 123 0 = false := by kernel_rfl
theorem ty_im123_1 : immB Try.prog 123 1 = false := by kernel_rfl
theorem ty_sl119 : isSlT Try.prog 119 = true := by kernel_rfl
theorem ty_br148 : BR 148 = false := by kernel_rfl
theorem ty_fl123_0 : fldA Try.prog 123 0 = some (0, 4, true) := by kernel_rfl
theorem ty_fl123_1 : fldA Try.prog 123 1 = some (4, 1, false) := by kernel_rfl
theorem ty_im3_11 : immB Try.prog 3 11 = true := by kernel_rfl
theorem ty_br149 : BR 149 = true := by kernel_rfl
theorem ty_br150 : BR 150 = false := by kernel_rfl
theorem ty_br151 : BR 151 = false := by kernel_rfl
theorem ty_br152 : BR 152 = false := by kernel_rfl
theorem ty_br153 : BR 153 = false := by kernel_rfl
theorem ty_fn123 : flatN Try.prog 4 123 = some 5 := by kernel_rfl
theorem ty_br154 : BR 154 = false := by kernel_rfl
theorem ty_sl164 : isSlT Try.prog 164 = true := by kernel_rfl
theorem ty_el164 : elA Try.prog 164 = some (169, 6) := by kernel_rfl
theorem ty_fl169_1 : fldA Try.prog 169 1 = some (1, 5, true) := by kernel_rfl
theorem ty_br155 : BR 155 = false := by kernel_rfl
theorem ty_fl169_0 : fldA Try.prog 169 0 = some (0, 1, false) := by kernel_rfl
theorem ty_br156 : BR 156 = false := by kernel_rfl
theorem ty_br157 : BR 157 = false := by kernel_rfl
theorem ty_br158 : BR 158 = false := by kernel_rfl
theorem ty_br159 : BR 159 = true := by kernel_rfl
theorem ty_im3_8 : immB Try.prog 3 8 = true := by kernel_rfl
theorem ty_fl142_2 : fldA Try.prog 142 2 = some (2, 1, false) := by kernel_rfl
theorem ty_fl142_1 : fldA Try.prog 142 1 = some (1, 1, false) := by kernel_rfl
theorem ty_fl142_0 : fldA Try.prog 142 0 = some (0, 1, false) := by kernel_rfl
theorem ty_sz22 : szA Try.prog 22 = some (1, false) := by kernel_rfl
theorem ty_br160 : BR 160 = false := by kernel_rfl
theorem ty_br161 : BR 161 = false := by kernel_rfl
theorem ty_br162 : BR 162 = false := by kernel_rfl
theorem ty_im69_3 : immB Try.prog 69 3 = false := by kernel_rfl
theorem ty_im31_2 : immB Try.prog 31 2 = false := by kernel_rfl
theorem ty_br163 : BR 163 = false := by kernel_rfl
theorem ty_br164 : BR 164 = false := by kernel_rfl
theorem ty_br165 : BR 165 = false := by kernel_rfl
theorem ty_sz156 : szA Try.prog 156 = some (2, true) := by kernel_rfl
theorem ty_br166 : BR 166 = false := by kernel_rfl
theorem ty_fl156_0 : fldA Try.prog 156 0 = some (0, 1, false) := by kernel_rfl
theorem ty_fl156_1 : fldA Try.prog 156 1 = some (1, 1, false) := by kernel_rfl
theorem ty_br169 : BR 169 = false := by kernel_rfl
theorem ty_br170 : BR 170 = true := by kernel_rfl
theorem ty_br171 : BR 171 = false := by kernel_rfl
theorem ty_br172 : BR 172 = false := by kernel_rfl
theorem ty_zr169 : zeroA Try.prog 169 = some ([.int .i64 0, .int .i64 0, .int .i64 0, .int .i64 0, .int .i64 0, .int .i64 0]) := by kernel_rfl
theorem ty_st169 : isStT Try.prog 169 = true := by kernel_rfl
theorem ty_pl169_0 : placeA Try.prog 169 0 = some (0, 1) := by kernel_rfl
theorem ty_pl169_1 : placeA Try.prog 169 1 = some (1, 5) := by kernel_rfl
theorem ty_im169_1 : immB Try.prog 169 1 = false := by kernel_rfl
theorem ty_by169 : bytesA Try.prog 169 = 48 := by kernel_rfl
theorem ty_br173 : BR 173 = false := by kernel_rfl
theorem ty_br174 : BR 174 = false := by kernel_rfl
theorem ty_br175 : BR 175 = false := by kernel_rfl
theorem ty_im169_2 : immB Try.prog 169 2 = false := by kernel_rfl
theorem ty_br176 : BR 176 = false := by kernel_rfl
theorem ty_br177 : BR 177 = false := by kernel_rfl
theorem ty_br178 : BR 178 = false := by kernel_rfl
theorem ty_br179 : BR 179 = false := by kernel_rfl
theorem ty_br180 : BR 180 = false := by kernel_rfl
theorem ty_br181 : BR 181 = true := by kernel_rfl
theorem ty_br182 : BR 182 = false := by kernel_rfl
theorem ty_br183 : BR 183 = false := by kernel_rfl
theorem ty_br184 : BR 184 = false := by kernel_rfl
theorem ty_br185 : BR 185 = false := by kernel_rfl
theorem ty_pl123_1 : placeA Try.prog 123 1 = some (4, 1) := by kernel_rfl
theorem ty_br186 : BR 186 = false := by kernel_rfl
theorem ty_br187 : BR 187 = false := by kernel_rfl
theorem ty_br188 : BR 188 = false := by kernel_rfl
def TY :=
 (And.intro
 (And.intro
 (And.intro
 (And.intro
 (And.intro
 (And.intro
 (And.intro
 (And.intro
 ty_fz
 ty_br11)
 (And.intro
 ty_br12
 (And.intro
 ty_zr29
 ty_zr31)))
 (And.intro
 (And.intro
 ty_sz29
 ty_sz31)
 (And.intro
 ty_br13
 (And.intro
 ty_br14
 ty_bt4))))
 (And.intro
 (And.intro
 (And.intro
 ty_br15
 ty_br16)
 (And.intro
 ty_fl29_0
 (And.intro
 ty_sz24
 ty_sl24)))
 (And.intro
 (And.intro
 ty_bt3
 (And.intro
 ty_br17
 ty_br19))
 (And.intro
 ty_br18
 (And.intro
 ty_br20
 ty_br21)))))
 (And.intro
 (And.intro
 (And.intro
 (And.intro
 ty_br22
 ty_br23)
 (And.intro
 ty_br24
 (And.intro
 ty_br25
 ty_br26)))
 (And.intro
 (And.intro
 ty_br27
 ty_br28)
 (And.intro
 ty_sz52
 (And.intro
 ty_br29
 ty_br31))))
 (And.intro
 (And.intro
 (And.intro
 ty_br30
 ty_zr27)
 (And.intro
 ty_sz27
 (And.intro
 ty_br32
 ty_br33)))
 (And.intro
 (And.intro
 ty_br34
 (And.intro
 ty_br35
 ty_br36))
 (And.intro
 ty_br37
 (And.intro
 ty_br38
 ty_br39))))))
 (And.intro
 (And.intro
 (And.intro
 (And.intro
 (And.intro
 ty_sz66
 ty_br41)
 (And.intro
 ty_br40
 (And.intro
 ty_br42
 ty_br43)))
 (And.intro
 (And.intro
 ty_br44
 ty_br45)
 (And.intro
 ty_br46
 (And.intro
 ty_zr69
 ty_sz69))))
 (And.intro
 (And.intro
 (And.intro
 ty_br47
 ty_br48)
 (And.intro
 ty_fn69
 (And.intro
 ty_fl69_0
 ty_sz3)))
 (And.intro
 (And.intro
 ty_br49
 (And.intro
 ty_br50
 ty_br51))
 (And.intro
 ty_sl22
 (And.intro
 ty_br52
 ty_br53)))))
 (And.intro
 (And.intro
 (And.intro
 (And.intro
 ty_br54
 ty_br55)
 (And.intro
 ty_br57
 (And.intro
 ty_br56
 ty_br58)))
 (And.intro
 (And.intro
 ty_br59
 (And.intro
 ty_br60
 ty_fl31_0))
 (And.intro
 ty_br61
 (And.intro
 ty_fl29_1
 ty_br63))))
 (And.intro
 (And.intro
 (And.intro
 ty_br62
 ty_br64)
 (And.intro
 ty_br65
 (And.intro
 ty_br66
 ty_br67)))
 (And.intro
 (And.intro
 ty_br68
 (And.intro
 ty_br69
 ty_br70))
 (And.intro
 ty_sl38
 (And.intro
 ty_im31_0
 ty_by31)))))))
 (And.intro
 (And.intro
 (And.intro
 (And.intro
 (And.intro
 (And.intro
 ty_el40
 ty_sl40)
 (And.intro
 ty_br71
 (And.intro
 ty_fl31_1
 ty_im31_1)))
 (And.intro
 (And.intro
 ty_br72
 ty_br73)
 (And.intro
 ty_br74
 (And.intro
 ty_el38
 ty_sz98))))
 (And.intro
 (And.intro
 (And.intro
 ty_br75
 ty_br76)
 (And.intro
 ty_br77
 (And.intro
 ty_br78
 ty_fl31_2)))
 (And.intro
 (And.intro
 ty_fl31_3
 (And.intro
 ty_br79
 ty_br80))
 (And.intro
 ty_br81
 (And.intro
 ty_br82
 ty_im3_5)))))
 (And.intro
 (And.intro
 (And.intro
 (And.intro
 ty_by3
 ty_el24)
 (And.intro
 ty_zr3
 (And.intro
 ty_br83
 ty_fn31)))
 (And.intro
 (And.intro
 ty_el60
 (And.intro
 ty_zr40
 ty_by40))
 (And.intro
 ty_sz40
 (And.intro
 ty_br84
 ty_sl60))))
 (And.intro
 (And.intro
 (And.intro
 ty_zr104
 ty_st104)
 (And.intro
 ty_sz104
 (And.intro
 ty_el104
 ty_br86)))
 (And.intro
 (And.intro
 ty_fl52_1
 (And.intro
 ty_sz50
 ty_br87))
 (And.intro
 ty_br88
 (And.intro
 ty_fl27_0
 ty_br89))))))
 (And.intro
 (And.intro
 (And.intro
 (And.intro
 (And.intro
 ty_br90
 ty_fl52_0)
 (And.intro
 ty_br91
 (And.intro
 ty_fl27_1
 ty_sz25)))
 (And.intro
 (And.intro
 ty_br92
 ty_br93)
 (And.intro
 ty_br94
 (And.intro
 ty_br95
 ty_st27))))
 (And.intro
 (And.intro
 (And.intro
 ty_im40_1
 ty_br96)
 (And.intro
 ty_im27_1
 (And.intro
 ty_by27
 ty_el108)))
 (And.intro
 (And.intro
 ty_sl108
 (And.intro
 ty_im119_0
 ty_by119))
 (And.intro
 ty_el67
 (And.intro
 ty_zr119
 ty_br97)))))
 (And.intro
 (And.intro
 (And.intro
 (And.intro
 ty_it3
 ty_it118)
 (And.intro
 ty_el119
 (And.intro
 ty_zr123
 ty_by123)))
 (And.intro
 (And.intro
 ty_fl69_1
 (And.intro
 ty_fl69_3
 ty_fl69_2))
 (And.intro
 ty_br99
 (And.intro
 ty_br98
 ty_sz123))))
 (And.intro
 (And.intro
 (And.intro
 ty_im119_1
 ty_br100)
 (And.intro
 ty_fl66_0
 (And.intro
 ty_fl66_1
 ty_fl66_2)))
 (And.intro
 (And.intro
 ty_fl66_3
 (And.intro
 ty_br101
 ty_br103))
 (And.intro
 ty_br102
 (And.intro
 ty_br104
 ty_sl67))))))))
 (And.intro
 (And.intro
 (And.intro
 (And.intro
 (And.intro
 (And.intro
 (And.intro
 ty_sz119
 ty_br105)
 (And.intro
 ty_br106
 (And.intro
 ty_br107
 ty_br108)))
 (And.intro
 (And.intro
 ty_br109
 ty_br110)
 (And.intro
 ty_br111
 (And.intro
 ty_st69
 ty_pl69_0))))
 (And.intro
 (And.intro
 (And.intro
 ty_pl69_3
 ty_br112)
 (And.intro
 ty_br113
 (And.intro
 ty_br114
 ty_br116)))
 (And.intro
 (And.intro
 ty_br115
 (And.intro
 ty_br118
 ty_br117))
 (And.intro
 ty_br119
 (And.intro
 ty_br121
 ty_br120)))))
 (And.intro
 (And.intro
 (And.intro
 (And.intro
 ty_br122
 ty_el22)
 (And.intro
 ty_sz5
 (And.intro
 ty_it5
 ty_zr142)))
 (And.intro
 (And.intro
 ty_st142
 ty_pl142_0)
 (And.intro
 ty_pl142_2
 (And.intro
 ty_im3_1
 ty_br123))))
 (And.intro
 (And.intro
 (And.intro
 ty_br124
 ty_im3_4)
 (And.intro
 ty_st31
 (And.intro
 ty_pl31_0
 ty_pl31_1)))
 (And.intro
 (And.intro
 ty_br125
 (And.intro
 ty_im3_0
 ty_im69_0))
 (And.intro
 ty_by69
 (And.intro
 ty_el25
 ty_pl27_0))))))
 (And.intro
 (And.intro
 (And.intro
 (And.intro
 (And.intro
 ty_pl27_1
 ty_st29)
 (And.intro
 ty_pl29_0
 (And.intro
 ty_pl29_1
 ty_br126)))
 (And.intro
 (And.intro
 ty_im3_3
 ty_br127)
 (And.intro
 ty_br130
 (And.intro
 ty_br129
 ty_im40_2))))
 (And.intro
 (And.intro
 (And.intro
 ty_br128
 ty_im40_3)
 (And.intro
 ty_sl25
 (And.intro
 ty_im69_1
 ty_br131)))
 (And.intro
 (And.intro
 ty_br132
 (And.intro
 ty_br133
 ty_br134))
 (And.intro
 ty_br137
 (And.intro
 ty_br136
 ty_br135)))))
 (And.intro
 (And.intro
 (And.intro
 (And.intro
 ty_br138
 ty_br139)
 (And.intro
 ty_fl98_0
 (And.intro
 ty_fl98_1
 ty_fl98_2)))
 (And.intro
 (And.intro
 ty_fl98_3
 (And.intro
 ty_br140
 ty_im3_12))
 (And.intro
 ty_sl50
 (And.intro
 ty_br141
 ty_br142))))
 (And.intro
 (And.intro
 (And.intro
 ty_br143
 ty_im3_6)
 (And.intro
 ty_el50
 (And.intro
 ty_zr156
 ty_st156)))
 (And.intro
 (And.intro
 ty_pl156_0
 (And.intro
 ty_pl156_1
 ty_br144))
 (And.intro
 ty_br145
 (And.intro
 ty_br146
 ty_pl69_1)))))))
 (And.intro
 (And.intro
 (And.intro
 (And.intro
 (And.intro
 (And.intro
 ty_pl69_2
 ty_zr121)
 (And.intro
 ty_st121
 (And.intro
 ty_pl121_0
 ty_pl121_1)))
 (And.intro
 (And.intro
 ty_pl121_2
 ty_pl121_3)
 (And.intro
 ty_im121_8
 (And.intro
 ty_by121
 ty_el157))))
 (And.intro
 (And.intro
 (And.intro
 ty_sz121
 ty_st123)
 (And.intro
 ty_pl123_0
 (And.intro
 ty_fl121_0
 ty_fl121_1)))
 (And.intro
 (And.intro
 ty_fl121_2
 (And.intro
 ty_fl121_3
 ty_br147))
 (And.intro
 ty_im123_0
 (And.intro
 ty_im123_1
 ty_sl119)))))
 (And.intro
 (And.intro
 (And.intro
 (And.intro
 ty_br148
 ty_fl123_0)
 (And.intro
 ty_fl123_1
 (And.intro
 ty_im3_11
 ty_br149)))
 (And.intro
 (And.intro
 ty_br150
 (And.intro
 ty_br151
 ty_br152))
 (And.intro
 ty_br153
 (And.intro
 ty_fn123
 ty_br154))))
 (And.intro
 (And.intro
 (And.intro
 ty_sl164
 ty_el164)
 (And.intro
 ty_fl169_1
 (And.intro
 ty_br155
 ty_fl169_0)))
 (And.intro
 (And.intro
 ty_br156
 (And.intro
 ty_br157
 ty_br158))
 (And.intro
 ty_br159
 (And.intro
 ty_im3_8
 ty_fl142_2))))))
 (And.intro
 (And.intro
 (And.intro
 (And.intro
 (And.intro
 ty_fl142_1
 ty_fl142_0)
 (And.intro
 ty_sz22
 (And.intro
 ty_br160
 ty_br161)))
 (And.intro
 (And.intro
 ty_br162
 ty_im69_3)
 (And.intro
 ty_im31_2
 (And.intro
 ty_br163
 ty_br164))))
 (And.intro
 (And.intro
 (And.intro
 ty_br165
 ty_sz156)
 (And.intro
 ty_br166
 (And.intro
 ty_fl156_0
 ty_fl156_1)))
 (And.intro
 (And.intro
 ty_br169
 (And.intro
 ty_br170
 ty_br171))
 (And.intro
 ty_br172
 (And.intro
 ty_zr169
 ty_st169)))))
 (And.intro
 (And.intro
 (And.intro
 (And.intro
 ty_pl169_0
 ty_pl169_1)
 (And.intro
 ty_im169_1
 (And.intro
 ty_by169
 ty_br173)))
 (And.intro
 (And.intro
 ty_br174
 (And.intro
 ty_br175
 ty_im169_2))
 (And.intro
 ty_br176
 (And.intro
 ty_br177
 ty_br178))))
 (And.intro
 (And.intro
 (And.intro
 ty_br179
 ty_br180)
 (And.intro
 ty_br181
 (And.intro
 ty_br182
 ty_br183)))
 (And.intro
 (And.intro
 ty_br184
 (And.intro
 ty_br185
 ty_pl123_1))
 (And.intro
 ty_br186
 (And.intro
 ty_br187
 ty_br188)))))))))
end Go.Proofs.Ytbkkfmcjfbbkaaa
-- NAMES ty_br188, ty_br187, ty_br186, ty_pl123_1, ty_br185, ty_br184, ty_br183, ty_br182, ty_br181, ty_br180, ty_br179, ty_br178, ty_br177, ty_br176, ty_im169_2, ty_br175, ty_br174, ty_br173, ty_by169, ty_im169_1, ty_pl169_1, ty_pl169_0, ty_st169, ty_zr169, ty_br172, ty_br171, ty_br170, ty_br169, ty_fl156_1, ty_fl156_0, ty_br166, ty_sz156, ty_br165, ty_br164, ty_br163, ty_im31_2, ty_im69_3, ty_br162, ty_br161, ty_br160, ty_sz22, ty_fl142_0, ty_fl142_1, ty_fl142_2, ty_im3_8, ty_br159, ty_br158, ty_br157, ty_br156, ty_fl169_0, ty_br155, ty_fl169_1, ty_el164, ty_sl164, ty_br154, ty_fn123, ty_br153, ty_br152, ty_br151, ty_br150, ty_br149, ty_im3_11, ty_fl123_1, ty_fl123_0, ty_br148, ty_sl119, ty_im123_1, ty_im123_0, ty_br147, ty_fl121_3, ty_fl121_2, ty_fl121_1, ty_fl121_0, ty_pl123_0, ty_st123, ty_sz121, ty_el157, ty_by121, ty_im121_8, ty_pl121_3, ty_pl121_2, ty_pl121_1, ty_pl121_0, ty_st121, ty_zr121, ty_pl69_2, ty_pl69_1, ty_br146, ty_br145, ty_br144, ty_pl156_1, ty_pl156_0, ty_st156, ty_zr156, ty_el50, ty_im3_6, ty_br143, ty_br142, ty_br141, ty_sl50, ty_im3_12, ty_br140, ty_fl98_3, ty_fl98_2, ty_fl98_1, ty_fl98_0, ty_br139, ty_br138, ty_br135, ty_br136, ty_br137, ty_br134, ty_br133, ty_br132, ty_br131, ty_im69_1, ty_sl25, ty_im40_3, ty_br128, ty_im40_2, ty_br129, ty_br130, ty_br127, ty_im3_3, ty_br126, ty_pl29_1, ty_pl29_0, ty_st29, ty_pl27_1, ty_pl27_0, ty_el25, ty_by69, ty_im69_0, ty_im3_0, ty_br125, ty_pl31_1, ty_pl31_0, ty_st31, ty_im3_4, ty_br124, ty_br123, ty_im3_1, ty_pl142_2, ty_pl142_0, ty_st142, ty_zr142, ty_it5, ty_sz5, ty_el22, ty_br122, ty_br120, ty_br121, ty_br119, ty_br117, ty_br118, ty_br115, ty_br116, ty_br114, ty_br113, ty_br112, ty_pl69_3, ty_pl69_0, ty_st69, ty_br111, ty_br110, ty_br109, ty_br108, ty_br107, ty_br106, ty_br105, ty_sz119, ty_sl67, ty_br104, ty_br102, ty_br103, ty_br101, ty_fl66_3, ty_fl66_2, ty_fl66_1, ty_fl66_0, ty_br100, ty_im119_1, ty_sz123, ty_br98, ty_br99, ty_fl69_2, ty_fl69_3, ty_fl69_1, ty_by123, ty_zr123, ty_el119, ty_it118, ty_it3, ty_br97, ty_zr119, ty_el67, ty_by119, ty_im119_0, ty_sl108, ty_el108, ty_by27, ty_im27_1, ty_br96, ty_im40_1, ty_st27, ty_br95, ty_br94, ty_br93, ty_br92, ty_sz25, ty_fl27_1, ty_br91, ty_fl52_0, ty_br90, ty_br89, ty_fl27_0, ty_br88, ty_br87, ty_sz50, ty_fl52_1, ty_br86, ty_el104, ty_sz104, ty_st104, ty_zr104, ty_sl60, ty_br84, ty_sz40, ty_by40, ty_zr40, ty_el60, ty_fn31, ty_br83, ty_zr3, ty_el24, ty_by3, ty_im3_5, ty_br82, ty_br81, ty_br80, ty_br79, ty_fl31_3, ty_fl31_2, ty_br78, ty_br77, ty_br76, ty_br75, ty_sz98, ty_el38, ty_br74, ty_br73, ty_br72, ty_im31_1, ty_fl31_1, ty_br71, ty_sl40, ty_el40, ty_by31, ty_im31_0, ty_sl38, ty_br70, ty_br69, ty_br68, ty_br67, ty_br66, ty_br65, ty_br64, ty_br62, ty_br63, ty_fl29_1, ty_br61, ty_fl31_0, ty_br60, ty_br59, ty_br58, ty_br56, ty_br57, ty_br55, ty_br54, ty_br53, ty_br52, ty_sl22, ty_br51, ty_br50, ty_br49, ty_sz3, ty_fl69_0, ty_fn69, ty_br48, ty_br47, ty_sz69, ty_zr69, ty_br46, ty_br45, ty_br44, ty_br43, ty_br42, ty_br40, ty_br41, ty_sz66, ty_br39, ty_br38, ty_br37, ty_br36, ty_br35, ty_br34, ty_br33, ty_br32, ty_sz27, ty_zr27, ty_br30, ty_br31, ty_br29, ty_sz52, ty_br28, ty_br27, ty_br26, ty_br25, ty_br24, ty_br23, ty_br22, ty_br21, ty_br20, ty_br18, ty_br19, ty_br17, ty_bt3, ty_sl24, ty_sz24, ty_fl29_0, ty_br16, ty_br15, ty_bt4, ty_br14, ty_br13, ty_sz31, ty_sz29, ty_zr31, ty_zr29, ty_br12, ty_br11, ty_fz
