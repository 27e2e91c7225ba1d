/- Joined texts: Ty Gn Ih Fs Br By. -/
import Derived.Test.YtbkkfmcjfbbkaaaProg
import Derived.Test.YtbkkfmcjfbbkaaaGb
import Derived.Test.YtbkkfmcjfbbkaaaIg
import Derived.WalkKit
import Derived.Lib.Hide
import Derived.Handy
import Derived.Deep.QuietTactic
import Derived.BigQuiet
import Derived.Deep.Slices
import Derived.Deep.Fields
import Derived.Lib.SmallJoins
import Derived.Test.YtbkkfmcjfbbkaaaRows
import Derived.ProofKit
import Derived.OpenShut
import Derived.ShutString
import Derived.ChangeOld
/- Facts on the program's types, printed by a program. -/
namespace Go.Proofs.Ytbkkfmcjfbbkaaa
open Go.RowKit
set_option linter.defProp false
def BR (f : Nat) : Bool := [22, 34, 38, 44, 53, 54, 55, 57, 82, 83, 95, 106, 108, 109, 110, 123, 124, 125, 149, 159, 170, 181, 197, 198, 199, 200, 201].contains f
theorem ty_fz (n : Nat) : FZ BR n = false := by
  show List.contains _ (1000000 + n) = false
  rw [List.contains_eq_mem]
  refine decide_eq_false ?_
  simp only [List.mem_cons, List.not_mem_nil, or_false]
  omega
theorem ty_br11 : BR 11 = false := by kernel_rfl
theorem ty_br12 : BR 12 = false := by kernel_rfl
theorem ty_zr29 : zeroA Try.prog 29 = some ([.nil, .int .i64 0, .nil]) := by kernel_rfl
theorem ty_zr31 : zeroA Try.prog 31 = some ([.int .i64 0, .int .i64 0, .int .i64 0, .int .i64 0]) := by kernel_rfl
theorem ty_sz29 : szA Try.prog 29 = some (3, true) := by kernel_rfl
theorem ty_sz31 : szA Try.prog 31 = some (4, true) := by kernel_rfl
theorem ty_br13 : BR 13 = false := by kernel_rfl
theorem ty_br14 : BR 14 = false := by kernel_rfl
theorem ty_bt4 : isBoolT Try.prog 4 = true := by kernel_rfl
theorem ty_br15 : BR 15 = false := by kernel_rfl
theorem ty_br16 : BR 16 = false := by kernel_rfl
theorem ty_fl29_0 : fldA Try.prog 29 0 = some (0, 1, false) := by kernel_rfl
theorem ty_sz24 : szA Try.prog 24 = some (1, false) := by kernel_rfl
theorem ty_sl24 : isSlT Try.prog 24 = true := by kernel_rfl
theorem ty_bt3 : isBoolT Try.prog 3 = false := by kernel_rfl
theorem ty_br17 : BR 17 = false := by kernel_rfl
theorem ty_br19 : BR 19 = false := by kernel_rfl
theorem ty_br18 : BR 18 = false := by kernel_rfl
theorem ty_br20 : BR 20 = false := by kernel_rfl
theorem ty_br21 : BR 21 = false := by kernel_rfl
theorem ty_br22 : BR 22 = true := by kernel_rfl
theorem ty_br23 : BR 23 = false := by kernel_rfl
theorem ty_br24 : BR 24 = false := by kernel_rfl
theorem ty_br25 : BR 25 = false := by kernel_rfl
theorem ty_br26 : BR 26 = false := by kernel_rfl
theorem ty_br27 : BR 27 = false := by kernel_rfl
theorem ty_br28 : BR 28 = false := by kernel_rfl
theorem ty_sz52 : szA Try.prog 52 = some (2, true) := by kernel_rfl
theorem ty_br29 : BR 29 = false := by kernel_rfl
theorem ty_br31 : BR 31 = false := by kernel_rfl
theorem ty_br30 : BR 30 = false := by kernel_rfl
theorem ty_zr27 : zeroA Try.prog 27 = some ([.int .i64 0, .nil]) := by kernel_rfl
theorem ty_sz27 : szA Try.prog 27 = some (2, true) := by kernel_rfl
theorem ty_br32 : BR 32 = false := by kernel_rfl
theorem ty_br33 : BR 33 = false := by kernel_rfl
theorem ty_br34 : BR 34 = true := by kernel_rfl
theorem ty_br35 : BR 35 = false := by kernel_rfl
theorem ty_br36 : BR 36 = false := by kernel_rfl
theorem ty_br37 : BR 37 = false := by kernel_rfl
theorem ty_br38 : BR 38 = true := by kernel_rfl
theorem ty_br39 : BR 39 = false := by kernel_rfl
theorem ty_sz66 : szA Try.prog 66 = some (4, true) := by kernel_rfl
theorem ty_br41 : BR 41 = false := by kernel_rfl
theorem ty_br40 : BR 40 = false := by kernel_rfl
theorem ty_br42 : BR 42 = false := by kernel_rfl
theorem ty_br43 : BR 43 = false := by kernel_rfl
theorem ty_br44 : BR 44 = true := by kernel_rfl
theorem ty_br45 : BR 45 = false := by kernel_rfl
theorem ty_br46 : BR 46 = false := by kernel_rfl
theorem ty_zr69 : zeroA Try.prog 69 = some ([.int .i64 0, .int .i64 0, .int .i64 0, .int .i64 0]) := by kernel_rfl
theorem ty_sz69 : szA Try.prog 69 = some (4, true) := by kernel_rfl
theorem ty_br47 : BR 47 = false := by kernel_rfl
theorem ty_br48 : BR 48 = false := by kernel_rfl
theorem ty_fn69 : flatN Try.prog 4 69 = some 4 := by kernel_rfl
theorem ty_fl69_0 : fldA Try.prog 69 0 = some (0, 1, false) := by kernel_rfl
theorem ty_sz3 : szA Try.prog 3 = some (1, false) := by kernel_rfl
theorem ty_br49 : BR 49 = false := by kernel_rfl
theorem ty_br50 : BR 50 = false := by kernel_rfl
theorem ty_br51 : BR 51 = false := by kernel_rfl
theorem ty_sl22 : isSlT Try.prog 22 = true := by kernel_rfl
theorem ty_br52 : BR 52 = false := by kernel_rfl
theorem ty_br53 : BR 53 = true := by kernel_rfl
theorem ty_br54 : BR 54 = true := by kernel_rfl
theorem ty_br55 : BR 55 = true := by kernel_rfl
theorem ty_br57 : BR 57 = true := by kernel_rfl
theorem ty_br56 : BR 56 = false := by kernel_rfl
theorem ty_br58 : BR 58 = false := by kernel_rfl
theorem ty_br59 : BR 59 = false := by kernel_rfl
theorem ty_br60 : BR 60 = false := by kernel_rfl
theorem ty_fl31_0 : fldA Try.prog 31 0 = some (0, 1, false) := by kernel_rfl
theorem ty_br61 : BR 61 = false := by kernel_rfl
theorem ty_fl29_1 : fldA Try.prog 29 1 = some (1, 2, true) := by kernel_rfl
theorem ty_br63 : BR 63 = false := by kernel_rfl
theorem ty_br62 : BR 62 = false := by kernel_rfl
theorem ty_br64 : BR 64 = false := by kernel_rfl
theorem ty_br65 : BR 65 = false := by kernel_rfl
theorem ty_br66 : BR 66 = false := by kernel_rfl
theorem ty_br67 : BR 67 = false := by kernel_rfl
theorem ty_br68 : BR 68 = false := by kernel_rfl
theorem ty_br69 : BR 69 = false := by kernel_rfl
theorem ty_br70 : BR 70 = false := by kernel_rfl
theorem ty_sl38 : isSlT Try.prog 38 = true := by kernel_rfl
theorem ty_im31_0 : immB Try.prog 31 0 = false := by kernel_rfl
theorem ty_by31 : bytesA Try.prog 31 = 32 := by kernel_rfl
theorem ty_el40 : elA Try.prog 40 = some (31, 4) := by kernel_rfl
theorem ty_sl40 : isSlT Try.prog 40 = true := by kernel_rfl
theorem ty_br71 : BR 71 = false := by kernel_rfl
theorem ty_fl31_1 : fldA Try.prog 31 1 = some (1, 1, false) := by kernel_rfl
theorem ty_im31_1 : immB Try.prog 31 1 = false := by kernel_rfl
theorem ty_br72 : BR 72 = false := by kernel_rfl
theorem ty_br73 : BR 73 = false := by kernel_rfl
theorem ty_br74 : BR 74 = false := by kernel_rfl
theorem ty_el38 : elA Try.prog 38 = some (98, 4) := by kernel_rfl
theorem ty_sz98 : szA Try.prog 98 = some (4, true) := by kernel_rfl
theorem ty_br75 : BR 75 = false := by kernel_rfl
theorem ty_br76 : BR 76 = false := by kernel_rfl
theorem ty_br77 : BR 77 = false := by kernel_rfl
theorem ty_br78 : BR 78 = false := by kernel_rfl
theorem ty_fl31_2 : fldA Try.prog 31 2 = some (2, 1, false) := by kernel_rfl
theorem ty_fl31_3 : fldA Try.prog 31 3 = some (3, 1, false) := by kernel_rfl
theorem ty_br79 : BR 79 = false := by kernel_rfl
theorem ty_br80 : BR 80 = false := by kernel_rfl
theorem ty_br81 : BR 81 = false := by kernel_rfl
theorem ty_br82 : BR 82 = true := by kernel_rfl
theorem ty_im3_5 : immB Try.prog 3 5 = true := by kernel_rfl
theorem ty_by3 : bytesA Try.prog 3 = 8 := by kernel_rfl
theorem ty_el24 : elA Try.prog 24 = some (3, 1) := by kernel_rfl
theorem ty_zr3 : zeroA Try.prog 3 = some ([.int .i64 0]) := by kernel_rfl
theorem ty_br83 : BR 83 = true := by kernel_rfl
theorem ty_fn31 : flatN Try.prog 4 31 = some 4 := by kernel_rfl
theorem ty_el60 : elA Try.prog 60 = some (40, 1) := by kernel_rfl
theorem ty_zr40 : zeroA Try.prog 40 = some ([.nil]) := by kernel_rfl
theorem ty_by40 : bytesA Try.prog 40 = 24 := by kernel_rfl
theorem ty_sz40 : szA Try.prog 40 = some (1, false) := by kernel_rfl
theorem ty_br84 : BR 84 = false := by kernel_rfl
theorem ty_sl60 : isSlT Try.prog 60 = true := by kernel_rfl
theorem ty_zr104 : zeroA Try.prog 104 = some ([.nil, .nil, .nil, .nil]) := by kernel_rfl
theorem ty_st104 : isStT Try.prog 104 = false := by kernel_rfl
theorem ty_sz104 : szA Try.prog 104 = some (4, true) := by kernel_rfl
theorem ty_el104 : elA Try.prog 104 = none := by kernel_rfl
theorem ty_br86 : BR 86 = false := by kernel_rfl
theorem ty_fl52_1 : fldA Try.prog 52 1 = some (1, 1, false) := by kernel_rfl
theorem ty_sz50 : szA Try.prog 50 = some (1, false) := by kernel_rfl
theorem ty_br87 : BR 87 = false := by kernel_rfl
theorem ty_br88 : BR 88 = false := by kernel_rfl
theorem ty_fl27_0 : fldA Try.prog 27 0 = some (0, 1, false) := by kernel_rfl
theorem ty_br89 : BR 89 = false := by kernel_rfl
theorem ty_br90 : BR 90 = false := by kernel_rfl
theorem ty_fl52_0 : fldA Try.prog 52 0 = some (0, 1, false) := by kernel_rfl
theorem ty_br91 : BR 91 = false := by kernel_rfl
theorem ty_fl27_1 : fldA Try.prog 27 1 = some (1, 1, false) := by kernel_rfl
theorem ty_sz25 : szA Try.prog 25 = some (1, false) := by kernel_rfl
theorem ty_br92 : BR 92 = false := by kernel_rfl
theorem ty_br93 : BR 93 = false := by kernel_rfl
theorem ty_br94 : BR 94 = false := by kernel_rfl
theorem ty_br95 : BR 95 = true := by kernel_rfl
theorem ty_st27 : isStT Try.prog 27 = true := by kernel_rfl
theorem ty_im40_1 : immB Try.prog 40 1 = false := by kernel_rfl
theorem ty_br96 : BR 96 = false := by kernel_rfl
theorem ty_im27_1 : immB Try.prog 27 1 = false := by kernel_rfl
theorem ty_by27 : bytesA Try.prog 27 = 32 := by kernel_rfl
theorem ty_el108 : elA Try.prog 108 = some (27, 2) := by kernel_rfl
theorem ty_sl108 : isSlT Try.prog 108 = true := by kernel_rfl
theorem ty_im119_0 : immB Try.prog 119 0 = false := by kernel_rfl
theorem ty_by119 : bytesA Try.prog 119 = 24 := by kernel_rfl
theorem ty_el67 : elA Try.prog 67 = some (119, 1) := by kernel_rfl
theorem ty_zr119 : zeroA Try.prog 119 = some ([.nil]) := by kernel_rfl
theorem ty_br97 : BR 97 = false := by kernel_rfl
theorem ty_it3 : isIntT Try.prog 3 = some (.i64) := by kernel_rfl
theorem ty_it118 : isIntT Try.prog 118 = some (.u64) := by kernel_rfl
theorem ty_el119 : elA Try.prog 119 = some (123, 5) := by kernel_rfl
theorem ty_zr123 : zeroA Try.prog 123 = some ([.int .i64 0, .int .i64 0, .int .i64 0, .int .i64 0, .int .i64 0]) := by kernel_rfl
theorem ty_by123 : bytesA Try.prog 123 = 40 := by kernel_rfl
theorem ty_fl69_1 : fldA Try.prog 69 1 = some (1, 1, false) := by kernel_rfl
theorem ty_fl69_3 : fldA Try.prog 69 3 = some (3, 1, false) := by kernel_rfl
theorem ty_fl69_2 : fldA Try.prog 69 2 = some (2, 1, false) := by kernel_rfl
theorem ty_br99 : BR 99 = false := by kernel_rfl
theorem ty_br98 : BR 98 = false := by kernel_rfl
theorem ty_sz123 : szA Try.prog 123 = some (5, true) := by kernel_rfl
theorem ty_im119_1 : immB Try.prog 119 1 = false := by kernel_rfl
theorem ty_br100 : BR 100 = false := by kernel_rfl
theorem ty_fl66_0 : fldA Try.prog 66 0 = some (0, 1, false) := by kernel_rfl
theorem ty_fl66_1 : fldA Try.prog 66 1 = some (1, 1, false) := by kernel_rfl
theorem ty_fl66_2 : fldA Try.prog 66 2 = some (2, 1, false) := by kernel_rfl
theorem ty_fl66_3 : fldA Try.prog 66 3 = some (3, 1, false) := by kernel_rfl
theorem ty_br101 : BR 101 = false := by kernel_rfl
theorem ty_br103 : BR 103 = false := by kernel_rfl
theorem ty_br102 : BR 102 = false := by kernel_rfl
theorem ty_br104 : BR 104 = false := by kernel_rfl
theorem ty_sl67 : isSlT Try.prog 67 = true := by kernel_rfl
theorem ty_sz119 : szA Try.prog 119 = some (1, false) := by kernel_rfl
theorem ty_br105 : BR 105 = false := by kernel_rfl
theorem ty_br106 : BR 106 = true := by kernel_rfl
theorem ty_br107 : BR 107 = false := by kernel_rfl
theorem ty_br108 : BR 108 = true := by kernel_rfl
theorem ty_br109 : BR 109 = true := by kernel_rfl
theorem ty_br110 : BR 110 = true := by kernel_rfl
theorem ty_br111 : BR 111 = false := by kernel_rfl
theorem ty_st69 : isStT Try.prog 69 = true := by kernel_rfl
theorem ty_pl69_0 : placeA Try.prog 69 0 = some (0, 1) := by kernel_rfl
theorem ty_pl69_3 : placeA Try.prog 69 3 = some (3, 1) := by kernel_rfl
theorem ty_br112 : BR 112 = false := by kernel_rfl
theorem ty_br113 : BR 113 = false := by kernel_rfl
theorem ty_br114 : BR 114 = false := by kernel_rfl
theorem ty_br116 : BR 116 = false := by kernel_rfl
theorem ty_br115 : BR 115 = false := by kernel_rfl
theorem ty_br118 : BR 118 = false := by kernel_rfl
theorem ty_br117 : BR 117 = false := by kernel_rfl
theorem ty_br119 : BR 119 = false := by kernel_rfl
theorem ty_br121 : BR 121 = false := by kernel_rfl
theorem ty_br120 : BR 120 = false := by kernel_rfl
theorem ty_br122 : BR 122 = false := by kernel_rfl
theorem ty_el22 : elA Try.prog 22 = some (5, 1) := by kernel_rfl
theorem ty_sz5 : szA Try.prog 5 = some (1, false) := by kernel_rfl
theorem ty_it5 : isIntT Try.prog 5 = some (.u8) := by kernel_rfl
theorem ty_zr142 : zeroA Try.prog 142 = some ([.nil, .int .i64 0, .int .i64 0]) := by kernel_rfl
theorem ty_st142 : isStT Try.prog 142 = true := by kernel_rfl
theorem ty_pl142_0 : placeA Try.prog 142 0 = some (0, 1) := by kernel_rfl
theorem ty_pl142_2 : placeA Try.prog 142 2 = some (2, 1) := by kernel_rfl
theorem ty_im3_1 : immB Try.prog 3 1 = true := by kernel_rfl
theorem ty_br123 : BR 123 = true := by kernel_rfl
theorem ty_br124 : BR 124 = true := by kernel_rfl
theorem ty_im3_4 : immB Try.prog 3 4 = true := by kernel_rfl
theorem ty_st31 : isStT Try.prog 31 = true := by kernel_rfl
theorem ty_pl31_0 : placeA Try.prog 31 0 = some (0, 1) := by kernel_rfl
theorem ty_pl31_1 : placeA Try.prog 31 1 = some (1, 1) := by kernel_rfl
theorem ty_br125 : BR 125 = true := by kernel_rfl
theorem ty_im3_0 : immB Try.prog 3 0 = false := by kernel_rfl
theorem ty_im69_0 : immB Try.prog 69 0 = false := by kernel_rfl
theorem ty_by69 : bytesA Try.prog 69 = 32 := by kernel_rfl
theorem ty_el25 : elA Try.prog 25 = some (69, 4) := by kernel_rfl
theorem ty_pl27_0 : placeA Try.prog 27 0 = some (0, 1) := by kernel_rfl
theorem ty_pl27_1 : placeA Try.prog 27 1 = some (1, 1) := by kernel_rfl
theorem ty_st29 : isStT Try.prog 29 = true := by kernel_rfl
theorem ty_pl29_0 : placeA Try.prog 29 0 = some (0, 1) := by kernel_rfl
theorem ty_pl29_1 : placeA Try.prog 29 1 = some (1, 2) := by kernel_rfl
theorem ty_br126 : BR 126 = false := by kernel_rfl
theorem ty_im3_3 : immB Try.prog 3 3 = true := by kernel_rfl
theorem ty_br127 : BR 127 = false := by kernel_rfl
theorem ty_br130 : BR 130 = false := by kernel_rfl
theorem ty_br129 : BR 129 = false := by kernel_rfl
theorem ty_im40_2 : immB Try.prog 40 2 = false := by kernel_rfl
theorem ty_br128 : BR 128 = false := by kernel_rfl
theorem ty_im40_3 : immB Try.prog 40 3 = false := by kernel_rfl
theorem ty_sl25 : isSlT Try.prog 25 = true := by kernel_rfl
theorem ty_im69_1 : immB Try.prog 69 1 = false := by kernel_rfl
theorem ty_br131 : BR 131 = false := by kernel_rfl
theorem ty_br132 : BR 132 = false := by kernel_rfl
theorem ty_br133 : BR 133 = false := by kernel_rfl
theorem ty_br134 : BR 134 = false := by kernel_rfl
theorem ty_br137 : BR 137 = false := by kernel_rfl
theorem ty_br136 : BR 136 = false := by kernel_rfl
theorem ty_br135 : BR 135 = false := by kernel_rfl
theorem ty_br138 : BR 138 = false := by kernel_rfl
theorem ty_br139 : BR 139 = false := by kernel_rfl
theorem ty_fl98_0 : fldA Try.prog 98 0 = some (0, 1, false) := by kernel_rfl
theorem ty_fl98_1 : fldA Try.prog 98 1 = some (1, 1, false) := by kernel_rfl
theorem ty_fl98_2 : fldA Try.prog 98 2 = some (2, 1, false) := by kernel_rfl
theorem ty_fl98_3 : fldA Try.prog 98 3 = some (3, 1, false) := by kernel_rfl
theorem ty_br140 : BR 140 = false := by kernel_rfl
theorem ty_im3_12 : immB Try.prog 3 12 = true := by kernel_rfl
theorem ty_sl50 : isSlT Try.prog 50 = true := by kernel_rfl
theorem ty_br141 : BR 141 = false := by kernel_rfl
theorem ty_br142 : BR 142 = false := by kernel_rfl
theorem ty_br143 : BR 143 = false := by kernel_rfl
theorem ty_im3_6 : immB Try.prog 3 6 = true := by kernel_rfl
theorem ty_el50 : elA Try.prog 50 = some (66, 4) := by kernel_rfl
theorem ty_zr156 : zeroA Try.prog 156 = some ([.int .i64 0, .nil]) := by kernel_rfl
theorem ty_st156 : isStT Try.prog 156 = true := by kernel_rfl
theorem ty_pl156_0 : placeA Try.prog 156 0 = some (0, 1) := by kernel_rfl
theorem ty_pl156_1 : placeA Try.prog 156 1 = some (1, 1) := by kernel_rfl
theorem ty_br144 : BR 144 = false := by kernel_rfl
theorem ty_br145 : BR 145 = false := by kernel_rfl
theorem ty_br146 : BR 146 = false := by kernel_rfl
theorem ty_pl69_1 : placeA Try.prog 69 1 = some (1, 1) := by kernel_rfl
theorem ty_pl69_2 : placeA Try.prog 69 2 = some (2, 1) := by kernel_rfl
theorem ty_zr121 : zeroA Try.prog 121 = some ([.int .i64 0, .int .i64 0, .int .i64 0, .int .i64 0]) := by kernel_rfl
theorem ty_st121 : isStT Try.prog 121 = true := by kernel_rfl
theorem ty_pl121_0 : placeA Try.prog 121 0 = some (0, 1) := by kernel_rfl
theorem ty_pl121_1 : placeA Try.prog 121 1 = some (1, 1) := by kernel_rfl
theorem ty_pl121_2 : placeA Try.prog 121 2 = some (2, 1) := by kernel_rfl
theorem ty_pl121_3 : placeA Try.prog 121 3 = some (3, 1) := by kernel_rfl
theorem ty_im121_8 : immB Try.prog 121 8 = false := by kernel_rfl
theorem ty_by121 : bytesA Try.prog 121 = 32 := by kernel_rfl
theorem ty_el157 : elA Try.prog 157 = some (121, 4) := by kernel_rfl
theorem ty_sz121 : szA Try.prog 121 = some (4, true) := by kernel_rfl
theorem ty_st123 : isStT Try.prog 123 = true := by kernel_rfl
theorem ty_pl123_0 : placeA Try.prog 123 0 = some (0, 4) := by kernel_rfl
theorem ty_fl121_0 : fldA Try.prog 121 0 = some (0, 1, false) := by kernel_rfl
theorem ty_fl121_1 : fldA Try.prog 121 1 = some (1, 1, false) := by kernel_rfl
theorem ty_fl121_2 : fldA Try.prog 121 2 = some (2, 1, false) := by kernel_rfl
theorem ty_fl121_3 : fldA Try.prog 121 3 = some (3, 1, false) := by kernel_rfl
theorem ty_br147 : BR 147 = false := by kernel_rfl
theorem ty_im123_0 : immB Try.prog 123 0 = false := by kernel_rfl
theorem ty_im123_1 : immB Try.prog 123 1 = false := by kernel_rfl
theorem ty_sl119 : isSlT Try.prog 119 = true := by kernel_rfl
theorem ty_br148 : BR 148 = false := by kernel_rfl
theorem ty_fl123_0 : fldA Try.prog 123 0 = some (0, 4, true) := by kernel_rfl
theorem ty_fl123_1 : fldA Try.prog 123 1 = some (4, 1, false) := by kernel_rfl
theorem ty_im3_11 : immB Try.prog 3 11 = true := by kernel_rfl
theorem ty_br149 : BR 149 = true := by kernel_rfl
theorem ty_br150 : BR 150 = false := by kernel_rfl
theorem ty_br151 : BR 151 = false := by kernel_rfl
theorem ty_br152 : BR 152 = false := by kernel_rfl
theorem ty_br153 : BR 153 = false := by kernel_rfl
theorem ty_fn123 : flatN Try.prog 4 123 = some 5 := by kernel_rfl
theorem ty_br154 : BR 154 = false := by kernel_rfl
theorem ty_sl164 : isSlT Try.prog 164 = true := by kernel_rfl
theorem ty_el164 : elA Try.prog 164 = some (169, 6) := by kernel_rfl
theorem ty_fl169_1 : fldA Try.prog 169 1 = some (1, 5, true) := by kernel_rfl
theorem ty_br155 : BR 155 = false := by kernel_rfl
theorem ty_fl169_0 : fldA Try.prog 169 0 = some (0, 1, false) := by kernel_rfl
theorem ty_br156 : BR 156 = false := by kernel_rfl
theorem ty_br157 : BR 157 = false := by kernel_rfl
theorem ty_br158 : BR 158 = false := by kernel_rfl
theorem ty_br159 : BR 159 = true := by kernel_rfl
theorem ty_im3_8 : immB Try.prog 3 8 = true := by kernel_rfl
theorem ty_fl142_2 : fldA Try.prog 142 2 = some (2, 1, false) := by kernel_rfl
theorem ty_fl142_1 : fldA Try.prog 142 1 = some (1, 1, false) := by kernel_rfl
theorem ty_fl142_0 : fldA Try.prog 142 0 = some (0, 1, false) := by kernel_rfl
theorem ty_sz22 : szA Try.prog 22 = some (1, false) := by kernel_rfl
theorem ty_br160 : BR 160 = false := by kernel_rfl
theorem ty_br161 : BR 161 = false := by kernel_rfl
theorem ty_br162 : BR 162 = false := by kernel_rfl
theorem ty_im69_3 : immB Try.prog 69 3 = false := by kernel_rfl
theorem ty_im31_2 : immB Try.prog 31 2 = false := by kernel_rfl
theorem ty_br163 : BR 163 = false := by kernel_rfl
theorem ty_br164 : BR 164 = false := by kernel_rfl
theorem ty_br165 : BR 165 = false := by kernel_rfl
theorem ty_sz156 : szA Try.prog 156 = some (2, true) := by kernel_rfl
theorem ty_br166 : BR 166 = false := by kernel_rfl
theorem ty_fl156_0 : fldA Try.prog 156 0 = some (0, 1, false) := by kernel_rfl
theorem ty_fl156_1 : fldA Try.prog 156 1 = some (1, 1, false) := by kernel_rfl
theorem ty_br169 : BR 169 = false := by kernel_rfl
theorem ty_br170 : BR 170 = true := by kernel_rfl
theorem ty_br171 : BR 171 = false := by kernel_rfl
theorem ty_br172 : BR 172 = false := by kernel_rfl
theorem ty_zr169 : zeroA Try.prog 169 = some ([.int .i64 0, .int .i64 0, .int .i64 0, .int .i64 0, .int .i64 0, .int .i64 0]) := by kernel_rfl
theorem ty_st169 : isStT Try.prog 169 = true := by kernel_rfl
theorem ty_pl169_0 : placeA Try.prog 169 0 = some (0, 1) := by kernel_rfl
theorem ty_pl169_1 : placeA Try.prog 169 1 = some (1, 5) := by kernel_rfl
theorem ty_im169_1 : immB Try.prog 169 1 = false := by kernel_rfl
theorem ty_by169 : bytesA Try.prog 169 = 48 := by kernel_rfl
theorem ty_br173 : BR 173 = false := by kernel_rfl
theorem ty_br174 : BR 174 = false := by kernel_rfl
theorem ty_br175 : BR 175 = false := by kernel_rfl
theorem ty_im169_2 : immB Try.prog 169 2 = false := by kernel_rfl
theorem ty_br176 : BR 176 = false := by kernel_rfl
theorem ty_br177 : BR 177 = false := by kernel_rfl
theorem ty_br178 : BR 178 = false := by kernel_rfl
theorem ty_br179 : BR 179 = false := by kernel_rfl
theorem ty_br180 : BR 180 = false := by kernel_rfl
theorem ty_br181 : BR 181 = true := by kernel_rfl
theorem ty_br182 : BR 182 = false := by kernel_rfl
theorem ty_br183 : BR 183 = false := by kernel_rfl
theorem ty_br184 : BR 184 = false := by kernel_rfl
theorem ty_br185 : BR 185 = false := by kernel_rfl
theorem ty_pl123_1 : placeA Try.prog 123 1 = some (4, 1) := by kernel_rfl
theorem ty_br186 : BR 186 = false := by kernel_rfl
theorem ty_br187 : BR 187 = false := by kernel_rfl
theorem ty_br188 : BR 188 = false := by kernel_rfl
def TY :=
 (And.intro
 (And.intro
 (And.intro
 (And.intro
 (And.intro
 (And.intro
 (And.intro
 (And.intro
 ty_fz
 ty_br11)
 (And.intro
 ty_br12
 (And.intro
 ty_zr29
 ty_zr31)))
 (And.intro
 (And.intro
 ty_sz29
 ty_sz31)
 (And.intro
 ty_br13
 (And.intro
 ty_br14
 ty_bt4))))
 (And.intro
 (And.intro
 (And.intro
 ty_br15
 ty_br16)
 (And.intro
 ty_fl29_0
 (And.intro
 ty_sz24
 ty_sl24)))
 (And.intro
 (And.intro
 ty_bt3
 (And.intro
 ty_br17
 ty_br19))
 (And.intro
 ty_br18
 (And.intro
 ty_br20
 ty_br21)))))
 (And.intro
 (And.intro
 (And.intro
 (And.intro
 ty_br22
 ty_br23)
 (And.intro
 ty_br24
 (And.intro
 ty_br25
 ty_br26)))
 (And.intro
 (And.intro
 ty_br27
 ty_br28)
 (And.intro
 ty_sz52
 (And.intro
 ty_br29
 ty_br31))))
 (And.intro
 (And.intro
 (And.intro
 ty_br30
 ty_zr27)
 (And.intro
 ty_sz27
 (And.intro
 ty_br32
 ty_br33)))
 (And.intro
 (And.intro
 ty_br34
 (And.intro
 ty_br35
 ty_br36))
 (And.intro
 ty_br37
 (And.intro
 ty_br38
 ty_br39))))))
 (And.intro
 (And.intro
 (And.intro
 (And.intro
 (And.intro
 ty_sz66
 ty_br41)
 (And.intro
 ty_br40
 (And.intro
 ty_br42
 ty_br43)))
 (And.intro
 (And.intro
 ty_br44
 ty_br45)
 (And.intro
 ty_br46
 (And.intro
 ty_zr69
 ty_sz69))))
 (And.intro
 (And.intro
 (And.intro
 ty_br47
 ty_br48)
 (And.intro
 ty_fn69
 (And.intro
 ty_fl69_0
 ty_sz3)))
 (And.intro
 (And.intro
 ty_br49
 (And.intro
 ty_br50
 ty_br51))
 (And.intro
 ty_sl22
 (And.intro
 ty_br52
 ty_br53)))))
 (And.intro
 (And.intro
 (And.intro
 (And.intro
 ty_br54
 ty_br55)
 (And.intro
 ty_br57
 (And.intro
 ty_br56
 ty_br58)))
 (And.intro
 (And.intro
 ty_br59
 (And.intro
 ty_br60
 ty_fl31_0))
 (And.intro
 ty_br61
 (And.intro
 ty_fl29_1
 ty_br63))))
 (And.intro
 (And.intro
 (And.intro
 ty_br62
 ty_br64)
 (And.intro
 ty_br65
 (And.intro
 ty_br66
 ty_br67)))
 (And.intro
 (And.intro
 ty_br68
 (And.intro
 ty_br69
 ty_br70))
 (And.intro
 ty_sl38
 (And.intro
 ty_im31_0
 ty_by31)))))))
 (And.intro
 (And.intro
 (And.intro
 (And.intro
 (And.intro
 (And.intro
 ty_el40
 ty_sl40)
 (And.intro
 ty_br71
 (And.intro
 ty_fl31_1
 ty_im31_1)))
 (And.intro
 (And.intro
 ty_br72
 ty_br73)
 (And.intro
 ty_br74
 (And.intro
 ty_el38
 ty_sz98))))
 (And.intro
 (And.intro
 (And.intro
 ty_br75
 ty_br76)
 (And.intro
 ty_br77
 (And.intro
 ty_br78
 ty_fl31_2)))
 (And.intro
 (And.intro
 ty_fl31_3
 (And.intro
 ty_br79
 ty_br80))
 (And.intro
 ty_br81
 (And.intro
 ty_br82
 ty_im3_5)))))
 (And.intro
 (And.intro
 (And.intro
 (And.intro
 ty_by3
 ty_el24)
 (And.intro
 ty_zr3
 (And.intro
 ty_br83
 ty_fn31)))
 (And.intro
 (And.intro
 ty_el60
 (And.intro
 ty_zr40
 ty_by40))
 (And.intro
 ty_sz40
 (And.intro
 ty_br84
 ty_sl60))))
 (And.intro
 (And.intro
 (And.intro
 ty_zr104
 ty_st104)
 (And.intro
 ty_sz104
 (And.intro
 ty_el104
 ty_br86)))
 (And.intro
 (And.intro
 ty_fl52_1
 (And.intro
 ty_sz50
 ty_br87))
 (And.intro
 ty_br88
 (And.intro
 ty_fl27_0
 ty_br89))))))
 (And.intro
 (And.intro
 (And.intro
 (And.intro
 (And.intro
 ty_br90
 ty_fl52_0)
 (And.intro
 ty_br91
 (And.intro
 ty_fl27_1
 ty_sz25)))
 (And.intro
 (And.intro
 ty_br92
 ty_br93)
 (And.intro
 ty_br94
 (And.intro
 ty_br95
 ty_st27))))
 (And.intro
 (And.intro
 (And.intro
 ty_im40_1
 ty_br96)
 (And.intro
 ty_im27_1
 (And.intro
 ty_by27
 ty_el108)))
 (And.intro
 (And.intro
 ty_sl108
 (And.intro
 ty_im119_0
 ty_by119))
 (And.intro
 ty_el67
 (And.intro
 ty_zr119
 ty_br97)))))
 (And.intro
 (And.intro
 (And.intro
 (And.intro
 ty_it3
 ty_it118)
 (And.intro
 ty_el119
 (And.intro
 ty_zr123
 ty_by123)))
 (And.intro
 (And.intro
 ty_fl69_1
 (And.intro
 ty_fl69_3
 ty_fl69_2))
 (And.intro
 ty_br99
 (And.intro
 ty_br98
 ty_sz123))))
 (And.intro
 (And.intro
 (And.intro
 ty_im119_1
 ty_br100)
 (And.intro
 ty_fl66_0
 (And.intro
 ty_fl66_1
 ty_fl66_2)))
 (And.intro
 (And.intro
 ty_fl66_3
 (And.intro
 ty_br101
 ty_br103))
 (And.intro
 ty_br102
 (And.intro
 ty_br104
 ty_sl67))))))))
 (And.intro
 (And.intro
 (And.intro
 (And.intro
 (And.intro
 (And.intro
 (And.intro
 ty_sz119
 ty_br105)
 (And.intro
 ty_br106
 (And.intro
 ty_br107
 ty_br108)))
 (And.intro
 (And.intro
 ty_br109
 ty_br110)
 (And.intro
 ty_br111
 (And.intro
 ty_st69
 ty_pl69_0))))
 (And.intro
 (And.intro
 (And.intro
 ty_pl69_3
 ty_br112)
 (And.intro
 ty_br113
 (And.intro
 ty_br114
 ty_br116)))
 (And.intro
 (And.intro
 ty_br115
 (And.intro
 ty_br118
 ty_br117))
 (And.intro
 ty_br119
 (And.intro
 ty_br121
 ty_br120)))))
 (And.intro
 (And.intro
 (And.intro
 (And.intro
 ty_br122
 ty_el22)
 (And.intro
 ty_sz5
 (And.intro
 ty_it5
 ty_zr142)))
 (And.intro
 (And.intro
 ty_st142
 ty_pl142_0)
 (And.intro
 ty_pl142_2
 (And.intro
 ty_im3_1
 ty_br123))))
 (And.intro
 (And.intro
 (And.intro
 ty_br124
 ty_im3_4)
 (And.intro
 ty_st31
 (And.intro
 ty_pl31_0
 ty_pl31_1)))
 (And.intro
 (And.intro
 ty_br125
 (And.intro
 ty_im3_0
 ty_im69_0))
 (And.intro
 ty_by69
 (And.intro
 ty_el25
 ty_pl27_0))))))
 (And.intro
 (And.intro
 (And.intro
 (And.intro
 (And.intro
 ty_pl27_1
 ty_st29)
 (And.intro
 ty_pl29_0
 (And.intro
 ty_pl29_1
 ty_br126)))
 (And.intro
 (And.intro
 ty_im3_3
 ty_br127)
 (And.intro
 ty_br130
 (And.intro
 ty_br129
 ty_im40_2))))
 (And.intro
 (And.intro
 (And.intro
 ty_br128
 ty_im40_3)
 (And.intro
 ty_sl25
 (And.intro
 ty_im69_1
 ty_br131)))
 (And.intro
 (And.intro
 ty_br132
 (And.intro
 ty_br133
 ty_br134))
 (And.intro
 ty_br137
 (And.intro
 ty_br136
 ty_br135)))))
 (And.intro
 (And.intro
 (And.intro
 (And.intro
 ty_br138
 ty_br139)
 (And.intro
 ty_fl98_0
 (And.intro
 ty_fl98_1
 ty_fl98_2)))
 (And.intro
 (And.intro
 ty_fl98_3
 (And.intro
 ty_br140
 ty_im3_12))
 (And.intro
 ty_sl50
 (And.intro
 ty_br141
 ty_br142))))
 (And.intro
 (And.intro
 (And.intro
 ty_br143
 ty_im3_6)
 (And.intro
 ty_el50
 (And.intro
 ty_zr156
 ty_st156)))
 (And.intro
 (And.intro
 ty_pl156_0
 (And.intro
 ty_pl156_1
 ty_br144))
 (And.intro
 ty_br145
 (And.intro
 ty_br146
 ty_pl69_1)))))))
 (And.intro
 (And.intro
 (And.intro
 (And.intro
 (And.intro
 (And.intro
 ty_pl69_2
 ty_zr121)
 (And.intro
 ty_st121
 (And.intro
 ty_pl121_0
 ty_pl121_1)))
 (And.intro
 (And.intro
 ty_pl121_2
 ty_pl121_3)
 (And.intro
 ty_im121_8
 (And.intro
 ty_by121
 ty_el157))))
 (And.intro
 (And.intro
 (And.intro
 ty_sz121
 ty_st123)
 (And.intro
 ty_pl123_0
 (And.intro
 ty_fl121_0
 ty_fl121_1)))
 (And.intro
 (And.intro
 ty_fl121_2
 (And.intro
 ty_fl121_3
 ty_br147))
 (And.intro
 ty_im123_0
 (And.intro
 ty_im123_1
 ty_sl119)))))
 (And.intro
 (And.intro
 (And.intro
 (And.intro
 ty_br148
 ty_fl123_0)
 (And.intro
 ty_fl123_1
 (And.intro
 ty_im3_11
 ty_br149)))
 (And.intro
 (And.intro
 ty_br150
 (And.intro
 ty_br151
 ty_br152))
 (And.intro
 ty_br153
 (And.intro
 ty_fn123
 ty_br154))))
 (And.intro
 (And.intro
 (And.intro
 ty_sl164
 ty_el164)
 (And.intro
 ty_fl169_1
 (And.intro
 ty_br155
 ty_fl169_0)))
 (And.intro
 (And.intro
 ty_br156
 (And.intro
 ty_br157
 ty_br158))
 (And.intro
 ty_br159
 (And.intro
 ty_im3_8
 ty_fl142_2))))))
 (And.intro
 (And.intro
 (And.intro
 (And.intro
 (And.intro
 ty_fl142_1
 ty_fl142_0)
 (And.intro
 ty_sz22
 (And.intro
 ty_br160
 ty_br161)))
 (And.intro
 (And.intro
 ty_br162
 ty_im69_3)
 (And.intro
 ty_im31_2
 (And.intro
 ty_br163
 ty_br164))))
 (And.intro
 (And.intro
 (And.intro
 ty_br165
 ty_sz156)
 (And.intro
 ty_br166
 (And.intro
 ty_fl156_0
 ty_fl156_1)))
 (And.intro
 (And.intro
 ty_br169
 (And.intro
 ty_br170
 ty_br171))
 (And.intro
 ty_br172
 (And.intro
 ty_zr169
 ty_st169)))))
 (And.intro
 (And.intro
 (And.intro
 (And.intro
 ty_pl169_0
 ty_pl169_1)
 (And.intro
 ty_im169_1
 (And.intro
 ty_by169
 ty_br173)))
 (And.intro
 (And.intro
 ty_br174
 (And.intro
 ty_br175
 ty_im169_2))
 (And.intro
 ty_br176
 (And.intro
 ty_br177
 ty_br178))))
 (And.intro
 (And.intro
 (And.intro
 ty_br179
 ty_br180)
 (And.intro
 ty_br181
 (And.intro
 ty_br182
 ty_br183)))
 (And.intro
 (And.intro
 ty_br184
 (And.intro
 ty_br185
 ty_pl123_1))
 (And.intro
 ty_br186
 (And.intro
 ty_br187
 ty_br188)))))))))
end Go.Proofs.Ytbkkfmcjfbbkaaa
-- NAMES ty_br188, ty_br187, ty_br186, ty_pl123_1, ty_br185, ty_br184, ty_br183, ty_br182, ty_br181, ty_br180, ty_br179, ty_br178, ty_br177, ty_br176, ty_im169_2, ty_br175, ty_br174, ty_br173, ty_by169, ty_im169_1, ty_pl169_1, ty_pl169_0, ty_st169, ty_zr169, ty_br172, ty_br171, ty_br170, ty_br169, ty_fl156_1, ty_fl156_0, ty_br166, ty_sz156, ty_br165, ty_br164, ty_br163, ty_im31_2, ty_im69_3, ty_br162, ty_br161, ty_br160, ty_sz22, ty_fl142_0, ty_fl142_1, ty_fl142_2, ty_im3_8, ty_br159, ty_br158, ty_br157, ty_br156, ty_fl169_0, ty_br155, ty_fl169_1, ty_el164, ty_sl164, ty_br154, ty_fn123, ty_br153, ty_br152, ty_br151, ty_br150, ty_br149, ty_im3_11, ty_fl123_1, ty_fl123_0, ty_br148, ty_sl119, ty_im123_1, ty_im123_0, ty_br147, ty_fl121_3, ty_fl121_2, ty_fl121_1, ty_fl121_0, ty_pl123_0, ty_st123, ty_sz121, ty_el157, ty_by121, ty_im121_8, ty_pl121_3, ty_pl121_2, ty_pl121_1, ty_pl121_0, ty_st121, ty_zr121, ty_pl69_2, ty_pl69_1, ty_br146, ty_br145, ty_br144, ty_pl156_1, ty_pl156_0, ty_st156, ty_zr156, ty_el50, ty_im3_6, ty_br143, ty_br142, ty_br141, ty_sl50, ty_im3_12, ty_br140, ty_fl98_3, ty_fl98_2, ty_fl98_1, ty_fl98_0, ty_br139, ty_br138, ty_br135, ty_br136, ty_br137, ty_br134, ty_br133, ty_br132, ty_br131, ty_im69_1, ty_sl25, ty_im40_3, ty_br128, ty_im40_2, ty_br129, ty_br130, ty_br127, ty_im3_3, ty_br126, ty_pl29_1, ty_pl29_0, ty_st29, ty_pl27_1, ty_pl27_0, ty_el25, ty_by69, ty_im69_0, ty_im3_0, ty_br125, ty_pl31_1, ty_pl31_0, ty_st31, ty_im3_4, ty_br124, ty_br123, ty_im3_1, ty_pl142_2, ty_pl142_0, ty_st142, ty_zr142, ty_it5, ty_sz5, ty_el22, ty_br122, ty_br120, ty_br121, ty_br119, ty_br117, ty_br118, ty_br115, ty_br116, ty_br114, ty_br113, ty_br112, ty_pl69_3, ty_pl69_0, ty_st69, ty_br111, ty_br110, ty_br109, ty_br108, ty_br107, ty_br106, ty_br105, ty_sz119, ty_sl67, ty_br104, ty_br102, ty_br103, ty_br101, ty_fl66_3, ty_fl66_2, ty_fl66_1, ty_fl66_0, ty_br100, ty_im119_1, ty_sz123, ty_br98, ty_br99, ty_fl69_2, ty_fl69_3, ty_fl69_1, ty_by123, ty_zr123, ty_el119, ty_it118, ty_it3, ty_br97, ty_zr119, ty_el67, ty_by119, ty_im119_0, ty_sl108, ty_el108, ty_by27, ty_im27_1, ty_br96, ty_im40_1, ty_st27, ty_br95, ty_br94, ty_br93, ty_br92, ty_sz25, ty_fl27_1, ty_br91, ty_fl52_0, ty_br90, ty_br89, ty_fl27_0, ty_br88, ty_br87, ty_sz50, ty_fl52_1, ty_br86, ty_el104, ty_sz104, ty_st104, ty_zr104, ty_sl60, ty_br84, ty_sz40, ty_by40, ty_zr40, ty_el60, ty_fn31, ty_br83, ty_zr3, ty_el24, ty_by3, ty_im3_5, ty_br82, ty_br81, ty_br80, ty_br79, ty_fl31_3, ty_fl31_2, ty_br78, ty_br77, ty_br76, ty_br75, ty_sz98, ty_el38, ty_br74, ty_br73, ty_br72, ty_im31_1, ty_fl31_1, ty_br71, ty_sl40, ty_el40, ty_by31, ty_im31_0, ty_sl38, ty_br70, ty_br69, ty_br68, ty_br67, ty_br66, ty_br65, ty_br64, ty_br62, ty_br63, ty_fl29_1, ty_br61, ty_fl31_0, ty_br60, ty_br59, ty_br58, ty_br56, ty_br57, ty_br55, ty_br54, ty_br53, ty_br52, ty_sl22, ty_br51, ty_br50, ty_br49, ty_sz3, ty_fl69_0, ty_fn69, ty_br48, ty_br47, ty_sz69, ty_zr69, ty_br46, ty_br45, ty_br44, ty_br43, ty_br42, ty_br40, ty_br41, ty_sz66, ty_br39, ty_br38, ty_br37, ty_br36, ty_br35, ty_br34, ty_br33, ty_br32, ty_sz27, ty_zr27, ty_br30, ty_br31, ty_br29, ty_sz52, ty_br28, ty_br27, ty_br26, ty_br25, ty_br24, ty_br23, ty_br22, ty_br21, ty_br20, ty_br18, ty_br19, ty_br17, ty_bt3, ty_sl24, ty_sz24, ty_fl29_0, ty_br16, ty_br15, ty_bt4, ty_br14, ty_br13, ty_sz31, ty_sz29, ty_zr31, ty_zr29, ty_br12, ty_br11, ty_fz
/- Encodings of the program's types; printed. -/
namespace Go.Proofs.Ytbkkfmcjfbbkaaa
open Go.RowKit
set_option maxRecDepth 100000
set_option linter.unusedVariables false
set_option linter.unusedSimpArgs false
set_option linter.defProp false
set_option maxHeartbeats 4000000
theorem FM : Try.prog.follows .mixedOrders = true := by kernel_rfl
def EIIII (q : Int × Int × Int × Int) : List AV := [.int .i64 q.1, .int .i64 q.2.1, .int .i64 q.2.2.1, .int .i64 q.2.2.2]
theorem EIIIIl : ∀ q, (EIIII q).length = 4 := fun _ => rfl
theorem EIIIIe (q : Int × Int × Int × Int) : EIIII q = [.int .i64 q.1, .int .i64 q.2.1, .int .i64 q.2.2.1, .int .i64 q.2.2.2] := (rfl)
theorem EIIIIf : ∀ l, (∀ c ∈ encL EIIII l, Free c) = True := free_enc fun q => by simp only [EIIIIe, AL, and_self]
def EI (q : Int) : List AV := [.int .i64 q]
theorem EIl : ∀ q, (EI q).length = 1 := fun _ => rfl
theorem EIe (q : Int) : EI q = [.int .i64 q] := (rfl)
theorem EIf : ∀ l, (∀ c ∈ encL EI l, Free c) = True := free_enc fun q => by simp only [EIe, AL, and_self]
def EB (q : Int) : List AV := [.int .u8 q]
theorem EBl : ∀ q, (EB q).length = 1 := fun _ => rfl
theorem EBe (q : Int) : EB q = [.int .u8 q] := (rfl)
theorem EBf : ∀ l, (∀ c ∈ encL EB l, Free c) = True := free_enc fun q => by simp only [EBe, AL, and_self]
def EILIIIIE (q : Int × List (Int × Int × Int × Int)) : List AV := [.int .i64 q.1, .sl (encL EIIII q.2) q.2.length]
theorem EILIIIIEl : ∀ q, (EILIIIIE q).length = 2 := fun _ => rfl
theorem EILIIIIEe (q : Int × List (Int × Int × Int × Int)) : EILIIIIE q = [.int .i64 q.1, .sl (encL EIIII q.2) q.2.length] := (rfl)
def ELIIIIE (q : List (Int × Int × Int × Int)) : List AV := [.sl (encL EIIII q) q.length]
theorem ELIIIIEl : ∀ q, (ELIIIIE q).length = 1 := fun _ => rfl
theorem ELIIIIEe (q : List (Int × Int × Int × Int)) : ELIIIIE q = [.sl (encL EIIII q) q.length] := (rfl)
def EIIIII (q : Int × Int × Int × Int × Int) : List AV := [.int .i64 q.1, .int .i64 q.2.1, .int .i64 q.2.2.1, .int .i64 q.2.2.2.1, .int .i64 q.2.2.2.2]
theorem EIIIIIl : ∀ q, (EIIIII q).length = 5 := fun _ => rfl
theorem EIIIIIe (q : Int × Int × Int × Int × Int) : EIIIII q = [.int .i64 q.1, .int .i64 q.2.1, .int .i64 q.2.2.1, .int .i64 q.2.2.2.1, .int .i64 q.2.2.2.2] := (rfl)
theorem EIIIIIf : ∀ l, (∀ c ∈ encL EIIIII l, Free c) = True := free_enc fun q => by simp only [EIIIIIe, AL, and_self]
def ELIIIIIE (q : List (Int × Int × Int × Int × Int)) : List AV := [.sl (encL EIIIII q) q.length]
theorem ELIIIIIEl : ∀ q, (ELIIIIIE q).length = 1 := fun _ => rfl
theorem ELIIIIIEe (q : List (Int × Int × Int × Int × Int)) : ELIIIIIE q = [.sl (encL EIIIII q) q.length] := (rfl)
def EIIIIII (q : Int × Int × Int × Int × Int × Int) : List AV := [.int .i64 q.1, .int .i64 q.2.1, .int .i64 q.2.2.1, .int .i64 q.2.2.2.1, .int .i64 q.2.2.2.2.1, .int .i64 q.2.2.2.2.2]
theorem EIIIIIIl : ∀ q, (EIIIIII q).length = 6 := fun _ => rfl
theorem EIIIIIIe (q : Int × Int × Int × Int × Int × Int) : EIIIIII q = [.int .i64 q.1, .int .i64 q.2.1, .int .i64 q.2.2.1, .int .i64 q.2.2.2.1, .int .i64 q.2.2.2.2.1, .int .i64 q.2.2.2.2.2] := (rfl)
theorem EIIIIIIf : ∀ l, (∀ c ∈ encL EIIIIII l, Free c) = True := free_enc fun q => by simp only [EIIIIIIe, AL, and_self]
def EN := (And.intro (And.intro (And.intro @EIIIIe @EIe) (And.intro @EBe @EILIIIIEe)) (And.intro (And.intro @ELIIIIEe @EIIIIIe) (And.intro @ELIIIIIEe @EIIIIIIe)))
def EF := (And.intro (And.intro @EIIIIf @EIf) (And.intro @EBf (And.intro @EIIIIIf @EIIIIIIf)))
theorem lap_n {α : Type} (m : List α) : List.append [] m = m := (rfl)
theorem lap_c {α : Type} (a : α) (l m : List α) : List.append (a :: l) m = a :: List.append l m := (rfl)
def EV := And.intro (And.intro @lap_n @lap_c) (And.intro AE (And.intro TY EN))
abbrev LQ := List (Int × Int × Int × Int)
theorem le_d {n m : Nat} (h : Nat.ble n m = true) : n ≤ m := Nat.le_of_ble_eq_true h
theorem no_j {n : Nat} {p : Nat → Prop} (h : Nat.ble n 0 = true) : ∀ j, j < n → p j := fun j hj => absurd (Nat.lt_of_lt_of_le hj (Nat.le_of_ble_eq_true h)) (Nat.not_lt_zero _)
section
variable {C : Ctx} {Q : Exit → St → Prop} {T : Nat → AV} {R : Nat → Option Row} {b n : Nat} {ops : List Oper} {st : St}
theorem AR {id : Nat} {draw : Bool} {y : Code} (hC : C.N = n) (h : ∀ K : St → Prop, (∀ T' R' b', AW Try.prog C y (St.mk T' R' (b + 1024)) Q → K (St.mk T' R' b')) → aRun Try.prog BR ops b 0 ops (St.mk T R b) K) (hN : dstB n ops.toArray = true := by kernel_rfl) (hB : (!draw || regB BR ops.toArray) = true := by kernel_rfl) :
    AW Try.prog C (.seq (.region id ops.toArray draw) y) (St.mk T R b) Q := AW_rs (BR := BR) FM (by rw [hC]; exact hN) hB h
theorem AS {id : Nat} {draw : Bool} (hC : C.N = n) (h : ∀ K : St → Prop, (∀ T' R' b', Q .normal (St.mk T' R' (b + 1024)) → K (St.mk T' R' b')) → aRun Try.prog BR ops b 0 ops (St.mk T R b) K) (hN : dstB n ops.toArray = true := by kernel_rfl) (hB : (!draw || regB BR ops.toArray) = true := by kernel_rfl) :
    AW Try.prog C (.region id ops.toArray draw) (St.mk T R b) Q := AW_re (BR := BR) FM (by rw [hC]; exact hN) hB h
theorem AJ {id : Nat} {draw : Bool} {y : Code} (J : St → Prop) (hC : C.N = n) (h : ∀ K : St → Prop, (∀ T' R' b', cutK C J (St.mk T' R' b') → K (St.mk T' R' b')) → aRun Try.prog BR ops b 0 ops (St.mk T R b) K) (h2 : ∀ S, J S → AW Try.prog C y S Q) (hN : dstB n ops.toArray = true := by kernel_rfl) (hB : (!draw || regB BR ops.toArray) = true := by kernel_rfl) :
    AW Try.prog C (.seq (.region id ops.toArray draw) y) (St.mk T R b) Q := AW_rsJ (BR := BR) J FM (by rw [hC]; exact hN) hB h h2
theorem SO {f : FuncId} {fn : Func} {c : Code} {args : List AV} {mem mem' : List Row} {ret : AV} (hf : Try.prog.funcs[f]? = some fn) (hb : fn.body = some c) (hn : fn.ntmps = n)
    (h : ∀ C : Ctx, C.N = n → (∀ s, mem.length ≤ s → C.ρ0 s = none) → AW Try.prog C c (st0 args mem) (fun e st' => (e = .normal ∨ e = .ret) ∧ EndA Try.prog fn mem.length ret mem' st')) (hcl : callable Try.prog f = true := by kernel_rfl)
    (hl : args.length ≤ n := by simp only [List.length_cons, List.length_nil, Nat.reduceAdd, Nat.reduceLeDiff]) : Spec Try.prog f args mem ret mem' := spec_of hf hb hcl (hn ▸ hl) fun C hN hρ => h C (hN.trans hn) hρ
theorem AB {β : Type} {c : Operand} {x y : Code} {d : Bool} {X Y : Option β} {r : β} (h : br d X Y = some r) (ht : d = true → X = some r → AW Try.prog C x st Q) (hf : d = false → Y = some r → AW Try.prog C y st Q) (hc : st.ev c = .bool d := by simp only [EV, seval]) :
    AW Try.prog C (.cond c x y) st Q := AW_condK hc (brK h ht hf)
theorem AK {c : Code} (h : AW Try.prog C c st Q) : AW Try.prog C c st Q := h
theorem EQ {k : Nat} {fn : Func} {ret : AV} {mem' : List Row} (ids : List Nat) (h : endR Try.prog st fn.results.toList k ids ret mem') (hnd : nodB ids = true := by kernel_rfl)
    (hk : upB k (fun j => match ids[j]? with | some i => i == j | none => false) = true := by kernel_rfl) : (Exit.ret = .normal ∨ Exit.ret = .ret) ∧ EndA Try.prog fn k ret mem' st := end_q ids (.inr rfl) hnd hk h
theorem AX {k b' : Nat} (lt : List (Nat × AV)) (lr : List (Nat × Row)) (G : List (Nat × Option Nat)) (fz : List Nat) (hρ : ∀ s, k ≤ s → C.ρ0 s = none) (h : Q .ret ⟨mkT lt, mkR lr, b'⟩)
    (hG : gOK k G fz (lr.map fun x => (x.1, x.2.solid)) = true := by kernel_rfl) (hT : leT (lk G) (fzF fz R) T lt := by simp only [AL, EV, seval]) (hR : leR (lk G) (fzF fz R) R lr := by simp only [AL, EV, seval]) : AW Try.prog C .ret ⟨T, R, b⟩ Q :=
  AW_le (Le_can (b' := b') G fz hρ hG hT hR) (AW_ret h)
theorem AC {J : St → Prop} {k b' : Nat} {lt : List (Nat × AV)} {lr : List (Nat × Row)} (hJ : J ⟨mkT lt, mkR lr, b'⟩) (G : List (Nat × Option Nat)) (fz : List Nat) (hρ : ∀ s, k ≤ s → C.ρ0 s = none) (hG : gOK k G fz (lr.map fun x => (x.1, x.2.solid)) = true := by kernel_rfl)
    (hT : leT (lk G) (fzF fz R) T lt := by simp only [AL, EV, seval]) (hR : leR (lk G) (fzF fz R) R lr := by simp only [AL, EV, seval]) : cutK C J ⟨T, R, b⟩ := cutL hJ (Le_can G fz hρ hG hT hR)
theorem CP {BR : Nat → Bool} {i : Nat} {bs : Nat} {l : List Oper} {K : St → Prop} {f : FuncId} {args args' : List AV} {dst : Option Tmp} {ret : AV} {mem' : List Row} (hS : Spec Try.prog f args' [] ret mem')
    (hK : aRun Try.prog BR ops bs (i + 1) l (({ st with rows := addRows st.rows (bs + 16 * i) (mem'.map (Row.ren (mId [] (bs + 16 * i)))) } : St).put dst (ren3 (mId [] (bs + 16 * i)) ret)) K)
    (ha : cvA (args.map (pass2 [] fun _ => none)) args' := by simp only [AL, EV, seval]) (hl : mem'.length ≤ 16 := by exact le_d rfl) (hs : ∀ j, j < mem'.length → st.rows (bs + 16 * i + j) = none := by exact no_j rfl) :
    rC Try.prog BR ops bs i l st K f args dst := rC_p hS ha hl hs hK
end
end Go.Proofs.Ytbkkfmcjfbbkaaa
/- impl.IsValidGate's contract for the engine, from its walk. -/
namespace Go.Proofs.Ytbkkfmcjfbbkaaa
open Go.RowKit Pop
set_option maxRecDepth 100000
set_option linter.unusedVariables false
set_option linter.unusedSimpArgs false
def i_IsValidGate (a1 a2 a3 a4 a5 : Int) : Option Bool := some (ivg a1 a2 a3 a4 a5)
theorem i_IsValidGate_ok {a1 a2 a3 a4 a5 : Int} {r : Bool} (h : i_IsValidGate a1 a2 a3 a4 a5 = some r) :
    Spec Try.prog 60 [.agg [.int .i64 a1, .int .i64 a2, .int .i64 a3, .int .i64 a4], .int .i64 a5] [] (.bool r) [] := by
  injection h with h
  subst h
  exact spec_lift (by kernel_rfl) rfl (fun M ρ => .plain (.bool _)) (fun w => ivg_any a1 a2 a3 a4 a5 w)
#print axioms i_IsValidGate_ok
end Go.Proofs.Ytbkkfmcjfbbkaaa
/- How arguments of the statements are opened: slices read as lists. -/
namespace Go.Proofs.Ytbkkfmcjfbbkaaa
open Go.RowKit Go.Lib
set_option linter.unusedVariables false
set_option linter.unusedSimpArgs false
abbrev Quad := Int × Int × Int × Int
def qc (q : Quad) : List Value := [.int .i64 q.1, .int .i64 q.2.1, .int .i64 q.2.2.1, .int .i64 q.2.2.2]
def qcs (l : List Quad) : List Value := l.flatMap qc

theorem qcs_nil : qcs [] = [] := rfl
theorem qcs_cons (q : Quad) (l : List Quad) : qcs (q :: l) = qc q ++ qcs l := rfl
theorem qcs_append (l m : List Quad) : qcs (l ++ m) = qcs l ++ qcs m := by simp [qcs]
theorem qcs_length (l : List Quad) : (qcs l).length = l.length * 4 := by
  induction l with
  | nil => rfl
  | cons q l ih => rw [qcs_cons, List.length_append, ih, List.length_cons]; simp [qc]; omega
theorem qcs_get (l : List Quad) : ∀ (i j : Nat) (q : Quad), l[i]? = some q → j < 4 → (qcs l)[i * 4 + j]? = (qc q)[j]? := by
  induction l with
  | nil => intro i j q h; simp at h
  | cons p l ih =>
    intro i j q h hj
    rw [qcs_cons]
    cases i with
    | zero =>
      simp at h; subst h
      rw [Nat.zero_mul, Nat.zero_add, List.getElem?_append_left (by simp [qc]; omega)]
    | succ i =>
      rw [List.getElem?_append_right (by simp [qc]; omega)]
      rw [show (i + 1) * 4 + j - (qc p).length = i * 4 + j by simp [qc]; omega]
      exact ih i j q (by simpa using h) hj
theorem qcs_one (l : List Quad) : ∀ u ∈ qcs l, u.oneCell' = true := by
  intro u hu
  simp only [qcs, List.mem_flatMap] at hu
  obtain ⟨q, _, hq⟩ := hu
  simp only [qc, List.mem_cons, List.not_mem_nil, or_false] at hq
  rcases hq with rfl | rfl | rfl | rfl <;> rfl

/-- The slice that begins at A and has n elements reads as the list l. -/
def SlQ (w : World) (A : Option Addr) (n : Nat) (l : List Quad) : Prop :=
  l.length = n ∧ (0 < n → ∃ b off, A = some ⟨b, off, none⟩ ∧ b < w.heap.size ∧ ∀ (i : Nat) (q : Quad), l[i]? = some q →
    w.cell? ⟨b, off + i * 4, none⟩ = some (.int .i64 q.1) ∧ w.cell? ⟨b, off + i * 4 + 1, none⟩ = some (.int .i64 q.2.1) ∧
    w.cell? ⟨b, off + i * 4 + 2, none⟩ = some (.int .i64 q.2.2.1) ∧ w.cell? ⟨b, off + i * 4 + 3, none⟩ = some (.int .i64 q.2.2.2))

theorem SlQ.at {w : World} {A : Option Addr} {n k : Nat} {l : List Quad} (h : SlQ w A n l) (hk : k < n) :
    ∃ (b off : Nat) (q0 q1 q2 q3 : Int), A = some ⟨b, off, none⟩ ∧ b < w.heap.size ∧ Hid (l[k]? = some (q0, q1, q2, q3)) ∧
      w.cell? ⟨b, off + k * 4, none⟩ = some (.int .i64 q0) ∧ w.cell? ⟨b, off + k * 4 + 1, none⟩ = some (.int .i64 q1) ∧
      w.cell? ⟨b, off + k * 4 + 2, none⟩ = some (.int .i64 q2) ∧ w.cell? ⟨b, off + k * 4 + 3, none⟩ = some (.int .i64 q3) := by
  obtain ⟨b, off, hA, hb, hc⟩ := h.2 (by omega)
  have hl : k < l.length := by rw [h.1]; exact hk
  obtain ⟨c0, c1, c2, c3⟩ := hc k _ (List.getElem?_eq_getElem hl)
  exact ⟨b, off, l[k].1, l[k].2.1, l[k].2.2.1, l[k].2.2.2, hA, hb, hid (List.getElem?_eq_getElem hl), c0, c1, c2, c3⟩

theorem SlQ.keep {w w' : World} {A : Option Addr} {n : Nat} {l : List Quad} (h : SlQ w A n l) (hs : w.heap.size ≤ w'.heap.size)
    (hk : ∀ p : Addr, p.block < w.heap.size → w'.cell? p = w.cell? p) : SlQ w' A n l :=
  ⟨h.1, fun hn => by
    obtain ⟨b, off, hA, hb, hc⟩ := h.2 hn
    refine ⟨b, off, hA, by omega, fun i q hq => ?_⟩
    obtain ⟨c0, c1, c2, c3⟩ := hc i q hq
    exact ⟨(hk _ hb).trans c0, (hk _ hb).trans c1, (hk _ hb).trans c2, (hk _ hb).trans c3⟩⟩
theorem SlQ.below {w w' : World} {A : Option Addr} {n : Nat} {l : List Quad} (h : SlQ w A n l) (hb : Below w.heap.size w w') : SlQ w' A n l :=
  h.keep hb.size fun _ hp => hb.cell hp
theorem SlQ.alloc {w : World} {A : Option Addr} {n : Nat} {l : List Quad} (h : SlQ w A n l) (o : Obj) : SlQ (w.alloc o) A n l :=
  h.below ((Below.refl _ _).alloc (Nat.le_refl _) o)
theorem SlQ.drewN {w : World} {A : Option Addr} {n : Nat} {l : List Quad} (h : SlQ w A n l) (k : Nat) : SlQ (w.drewN k) A n l := h
theorem SlQ.drew {w : World} {A : Option Addr} {n : Nat} {l : List Quad} (h : SlQ w A n l) : SlQ w.drew A n l := h
theorem SlQ.nil (w : World) (A : Option Addr) : SlQ w A 0 [] := ⟨rfl, fun h => absurd h (by omega)⟩

def SlI (w : World) (A : Option Addr) (n : Nat) (l : List Int) : Prop :=
  l.length = n ∧ (0 < n → ∃ b off, A = some ⟨b, off, none⟩ ∧ b < w.heap.size ∧ ∀ (i : Nat) (q : Int), l[i]? = some q → w.cell? ⟨b, off + i, none⟩ = some (.int .i64 q))
theorem SlI.at {w : World} {A : Option Addr} {n k : Nat} {l : List Int} (h : SlI w A n l) (hk : k < n) :
    ∃ (b off : Nat) (q : Int), A = some ⟨b, off, none⟩ ∧ b < w.heap.size ∧ Hid (l[k]? = some q) ∧ w.cell? ⟨b, off + k, none⟩ = some (.int .i64 q) := by
  obtain ⟨b, off, hA, hb, hc⟩ := h.2 (by omega)
  have hl : k < l.length := by rw [h.1]; exact hk
  exact ⟨b, off, l[k], hA, hb, hid (List.getElem?_eq_getElem hl), hc k _ (List.getElem?_eq_getElem hl)⟩
theorem SlI.keep {w w' : World} {A : Option Addr} {n : Nat} {l : List Int} (h : SlI w A n l) (hs : w.heap.size ≤ w'.heap.size)
    (hk : ∀ p : Addr, p.block < w.heap.size → w'.cell? p = w.cell? p) : SlI w' A n l :=
  ⟨h.1, fun hn => by
    obtain ⟨b, off, hA, hb, hc⟩ := h.2 hn
    exact ⟨b, off, hA, by omega, fun i q hq => (hk _ hb).trans (hc i q hq)⟩⟩
theorem SlI.below {w w' : World} {A : Option Addr} {n : Nat} {l : List Int} (h : SlI w A n l) (hb : Below w.heap.size w w') : SlI w' A n l :=
  h.keep hb.size fun _ hp => hb.cell hp
theorem SlI.alloc {w : World} {A : Option Addr} {n : Nat} {l : List Int} (h : SlI w A n l) (o : Obj) : SlI (w.alloc o) A n l :=
  h.below ((Below.refl _ _).alloc (Nat.le_refl _) o)
theorem SlI.nil (w : World) (A : Option Addr) : SlI w A 0 [] := ⟨rfl, fun h => absurd h (by omega)⟩
end Go.Proofs.Ytbkkfmcjfbbkaaa
/- Common facts for the statements of this seat: how arguments are opened. -/
namespace Go.Proofs.Ytbkkfmcjfbbkaaa
open Go.ChangeShapes Go.WideShapes Go.ChangeAt Go.RowKit Go.Joins Go.Deep
set_option linter.unusedVariables false

theorem own : ownKnob Try.prog.godebug = none := by kernel_rfl
theorem laidOut : laidOutB Try.prog = true := by kernel_rfl

/-- What a walk is told of a slice of bytes that came in. -/
def IsBytes (w : World) (A : Option Addr) (n c : Nat) (zs : List Int) : Prop :=
  n ≤ maxLen ∧ zs.length = n ∧ (∀ z ∈ zs, 0 ≤ z ∧ z ≤ 255) ∧ (0 < n → ∃ b off, A = some ⟨b, off, none⟩ ∧ b < w.heap.size ∧ ∀ i z, zs[i]? = some z → w.cell? ⟨b, off + i, none⟩ = some (.int .u8 z))

section
variable {H : Type} {enc : TypeId × Value → H} {P : Program} {w : World} {base : Nat} {spare : Nat → Bool} {held : Bool}
theorem isBytes_of_trod {t e : TypeId} {A : Option Addr} {n c : Nat} {d : DataW H} {p : List MemPlace} (ht : P.underlying t = some (.slice e)) (he : P.underlying e = some (.int .u8)) (hC : P.cellsOf e = 1)
    (h : DataW.Trod enc P w base spare held t (.slice A n c) d p) : ∃ zs, IsBytes w A n c zs := by
  obtain ⟨fuel, hf⟩ := h
  rcases open_ints ht he hC hf with ⟨hcs, _⟩ | ⟨x, l, c', zs, hcs, _, hl, hm, hz, _, hcell, hwz⟩
  · simp [Value.cells] at hcs
    obtain ⟨rfl, rfl, rfl⟩ := hcs
    exact ⟨[], by simp [maxLen], rfl, by simp, fun h => absurd h (by omega)⟩
  · simp [Value.cells] at hcs
    obtain ⟨rfl, rfl, rfl⟩ := hcs
    have hlz : n ≤ zs.length := by rw [hz]; split <;> omega
    refine ⟨zs.take n, by omega, by simp; omega, fun z hz' => ?_, fun hp => ?_⟩
    · have := hwz z (List.mem_of_mem_take hz')
      have := bounds_u8 this
      omega
    · obtain ⟨b, off, spot⟩ := x
      have h0 := hcell 0 (by omega)
      have hs : spot = none := by simpa [Addr.add] using World.cell?_spot h0
      subst hs
      refine ⟨b, off, rfl, ?_, fun i z hiz => ?_⟩
      · exact World.block_lt_of_cell? w _ (by simpa [Addr.add] using h0)
      · have hi : i < n := by
          rcases Nat.lt_or_ge i n with h' | h'
          · exact h'
          · rw [List.getElem?_eq_none (by simp; omega)] at hiz; cases hiz
        have hc := hcell i (by omega)
        rw [show (⟨b, off, none⟩ : Addr).add i = ⟨b, off + i, none⟩ from by unfold Addr.add; split <;> simp_all] at hc
        rw [hc]
        have : zs.getD i 0 = z := by
          rw [List.getElem?_take, if_pos hi] at hiz
          simp [hiz]
        rw [this]

theorem quad_of_trod {e : TypeId} {f0 f1 f2 f3 : Field} {fuel : Nat} {cs : List Value} {x : DataW H × List MemPlace} (he : P.underlying e = some (.struct #[f0, f1, f2, f3])) (hone : oneCellFields P #[f0, f1, f2, f3] = true)
    (h0 : P.underlying f0.type = some (.int .i64)) (h1 : P.underlying f1.type = some (.int .i64)) (h2 : P.underlying f2.type = some (.int .i64)) (h3 : P.underlying f3.type = some (.int .i64))
    (hl : cs.length = 4) (h : DataW.trod enc P w base spare held fuel e cs = some x) : ∃ q : Quad, cs = qc q := by
  obtain ⟨xs, n, _, hx, _, hlen, hg⟩ := DataW.trod_struct he h
  obtain ⟨o0, k0⟩ := hone_of hone 0 f0 rfl
  obtain ⟨o1, k1⟩ := hone_of hone 1 f1 rfl
  obtain ⟨o2, k2⟩ := hone_of hone 2 f2 rfl
  obtain ⟨o3, k3⟩ := hone_of hone 3 f3 rfl
  match cs, hl, xs, hlen with
  | [c0, c1, c2, c3], _, [y0, y1, y2, y3], _ =>
    have g0 := hg 0 f0 rfl
    have g1 := hg 1 f1 rfl
    have g2 := hg 2 f2 rfl
    have g3 := hg 3 f3 rfl
    simp [o0, k0] at g0
    simp [o1, k1] at g1
    simp [o2, k2] at g2
    simp [o3, k3] at g3
    obtain ⟨a0, e0, _⟩ := DataW.trod_int h0 g0
    obtain ⟨a1, e1, _⟩ := DataW.trod_int h1 g1
    obtain ⟨a2, e2, _⟩ := DataW.trod_int h2 g2
    obtain ⟨a3, e3, _⟩ := DataW.trod_int h3 g3
    simp only [List.cons.injEq, and_true] at e0 e1 e2 e3
    exact ⟨(a0, a1, a2, a3), by simp [qc, e0, e1, e2, e3]⟩

/-- What a walk is told of a slice of structs with four ints that came in. -/
def IsQuads (w : World) (A : Option Addr) (n c : Nat) (l : List Quad) : Prop := (n ≤ maxLen ∧ n ≤ c) ∧ SlQ w A n l
theorem isQuads_of_cell {t e : TypeId} {f0 f1 f2 f3 : Field} {fuel : Nat} {v : Value} {x : DataW H × List MemPlace} (ht : P.underlying t = some (.slice e)) (he : P.underlying e = some (.struct #[f0, f1, f2, f3]))
    (h3 : P.underlying f0.type = some (.int .i64) ∧ P.underlying f1.type = some (.int .i64) ∧ P.underlying f2.type = some (.int .i64) ∧ P.underlying f3.type = some (.int .i64))
    (hone : oneCellFields P #[f0, f1, f2, f3] = true) (hC : P.cellsOf e = 4)
    (h : DataW.trod enc P w base spare held fuel t [v] = some x) : ∃ A n c l, v = .slice A n c ∧ IsQuads w A n c l := by
  rcases open_slice ht h with ⟨hcs, _⟩ | ⟨a, len, cap, m, k, D, Pl, hcs, hb, hl, hm, hmm, hx, hi⟩
  · simp only [List.cons.injEq, and_true] at hcs
    exact ⟨none, 0, 0, [], hcs, ⟨by simp [maxLen], Nat.le_refl _⟩, SlQ.nil w none⟩
  · simp only [List.cons.injEq, and_true] at hcs
    have hlm : len ≤ m := by rw [hmm]; split <;> omega
    have hex : ∀ i, i < len → ∃ q : Quad, ∀ j, j < 4 → w.cell? (a.add (i * 4 + j)) = (qc q)[j]? := by
      intro i hil
      obtain ⟨cs', hc, ht'⟩ := hi i (by omega)
      rw [hC] at hc
      obtain ⟨_, hcl, hat⟩ := World.cells?_some hc
      obtain ⟨q, rfl⟩ := quad_of_trod he hone h3.1 h3.2.1 h3.2.2.1 h3.2.2.2 hcl ht'
      refine ⟨q, fun j hj => ?_⟩
      have := hat j hj
      rwa [Go.Deep.add_add] at this
    let f : Nat → Quad := fun i => if h : i < len then Classical.choose (hex i h) else (0, 0, 0, 0)
    refine ⟨some a, len, cap, (List.range len).map f, hcs, ⟨by omega, hl⟩, by simp, fun hp => ?_⟩
    obtain ⟨b, off, spot⟩ := a
    have h00 := Classical.choose_spec (hex 0 hp) 0 (by omega)
    have hs : spot = none := by
      have := World.cell?_spot (w := w) (a := (⟨b, off, spot⟩ : Addr).add (0 * 4 + 0)) (v := .int .i64 (Classical.choose (hex 0 hp)).1) (by rw [h00]; rfl)
      simpa [Addr.add] using this
    subst hs
    have hadd : ∀ i, (⟨b, off, none⟩ : Addr).add i = ⟨b, off + i, none⟩ := fun i => by unfold Addr.add; split <;> simp_all
    refine ⟨b, off, rfl, ?_, fun i q hq => ?_⟩
    · rw [hadd] at h00
      exact World.block_lt_of_cell? w _ (u := .int .i64 (Classical.choose (hex 0 hp)).1) (by rw [h00]; rfl)
    · have hil : i < len := by
        rcases Nat.lt_or_ge i len with h' | h'
        · exact h'
        · rw [List.getElem?_eq_none (by simp; omega)] at hq; cases hq
      have hqq : q = Classical.choose (hex i hil) := by
        simp only [List.getElem?_map, List.getElem?_range hil, Option.map_some, Option.some.injEq] at hq
        rw [← hq]; simp only [f, dif_pos hil]
      have hc := Classical.choose_spec (hex i hil)
      rw [← hqq] at hc
      have c0 := hc 0 (by omega)
      have c1 := hc 1 (by omega)
      have c2 := hc 2 (by omega)
      have c3 := hc 3 (by omega)
      simp only [hadd, Nat.add_zero, ← Nat.add_assoc] at c0 c1 c2 c3
      exact ⟨c0, c1, c2, c3⟩
theorem isQuads_of_trod {t e : TypeId} {f0 f1 f2 f3 : Field} {A : Option Addr} {n c : Nat} {d : DataW H} {p : List MemPlace} (ht : P.underlying t = some (.slice e)) (he : P.underlying e = some (.struct #[f0, f1, f2, f3]))
    (h3 : P.underlying f0.type = some (.int .i64) ∧ P.underlying f1.type = some (.int .i64) ∧ P.underlying f2.type = some (.int .i64) ∧ P.underlying f3.type = some (.int .i64))
    (hone : oneCellFields P #[f0, f1, f2, f3] = true) (hC : P.cellsOf e = 4)
    (h : DataW.Trod enc P w base spare held t (.slice A n c) d p) : ∃ l, IsQuads w A n c l := by
  obtain ⟨fuel, hf⟩ := h
  obtain ⟨A', n', c', l, hv, hq⟩ := isQuads_of_cell ht he h3 hone hC (by simpa [Value.cells] using hf)
  injection hv with h1 h2 h3
  subst h1 h2 h3
  exact ⟨l, hq⟩
end
end Go.Proofs.Ytbkkfmcjfbbkaaa
/- How arguments that hold slices of ints are opened: []int, NormalForm. -/
namespace Go.Proofs.Ytbkkfmcjfbbkaaa
open Go.ChangeShapes Go.WideShapes Go.ChangeAt Go.RowKit Go.Joins Go.Deep
set_option linter.unusedVariables false
/-- What a walk is told of a slice of ints that came in. -/
def IsInts (w : World) (A : Option Addr) (n c : Nat) (l : List Int) : Prop := (n ≤ maxLen ∧ n ≤ c) ∧ SlI w A n l
section
variable {H : Type} {enc : TypeId × Value → H} {P : Program} {w : World} {base : Nat} {spare : Nat → Bool} {held : Bool}
theorem isInts_of_cell {t e : TypeId} {fuel : Nat} {v : Value} {x : DataW H × List MemPlace} (ht : P.underlying t = some (.slice e)) (he : P.underlying e = some (.int .i64)) (hC : P.cellsOf e = 1)
    (h : DataW.trod enc P w base spare held fuel t [v] = some x) : ∃ A n c l, v = .slice A n c ∧ IsInts w A n c l := by
  rcases open_ints ht he hC h with ⟨hcs, _⟩ | ⟨x, n, c, zs, hcs, _, hl, hm, hz, _, hcell, hwz⟩
  · simp only [List.cons.injEq, and_true] at hcs
    exact ⟨none, 0, 0, [], hcs, ⟨by simp [maxLen], Nat.le_refl _⟩, SlI.nil w none⟩
  · simp only [List.cons.injEq, and_true] at hcs
    have hlz : n ≤ zs.length := by rw [hz]; split <;> omega
    refine ⟨some x, n, c, zs.take n, hcs, ⟨by omega, hl⟩, by simp; omega, fun hp => ?_⟩
    obtain ⟨b, off, spot⟩ := x
    have h0 := hcell 0 (by omega)
    have hs : spot = none := by simpa [Addr.add] using World.cell?_spot h0
    subst hs
    refine ⟨b, off, rfl, ?_, fun i z hiz => ?_⟩
    · exact World.block_lt_of_cell? w _ (by simpa [Addr.add] using h0)
    · have hi : i < n := by
        rcases Nat.lt_or_ge i n with h' | h'
        · exact h'
        · rw [List.getElem?_eq_none (by simp; omega)] at hiz; cases hiz
      have hc := hcell i (by omega)
      rw [show (⟨b, off, none⟩ : Addr).add i = ⟨b, off + i, none⟩ from by unfold Addr.add; split <;> simp_all] at hc
      rw [hc]
      have : zs.getD i 0 = z := by
        rw [List.getElem?_take, if_pos hi] at hiz
        simp [hiz]
      rw [this]
theorem open_nf {r : Reach} {b0 : Nat} {t ti tp : TypeId} {f0 f1 g0 g1 p0 p1 p2 p3 : Field} {v : Value} {d : DataW H} {p : List MemPlace} (hs : P.underlying t = some (.struct #[f0, f1])) (hs1 : P.underlying f1.type = some (.struct #[g0, g1]))
    (hi : P.underlying f0.type = some (.slice ti)) (hii : P.underlying ti = some (.int .i64)) (hn : P.underlying g0.type = some (.int .i64)) (hp : P.underlying g1.type = some (.slice tp)) (hpp : P.underlying tp = some (.struct #[p0, p1, p2, p3]))
    (h3 : P.underlying p0.type = some (.int .i64) ∧ P.underlying p1.type = some (.int .i64) ∧ P.underlying p2.type = some (.int .i64) ∧ P.underlying p3.type = some (.int .i64))
    (ho : f0.offset = 0 ∧ f1.offset = 1 ∧ g0.offset = 0 ∧ g1.offset = 1) (hc : P.cellsOf t = 3 ∧ P.cellsOf f0.type = 1 ∧ P.cellsOf f1.type = 2 ∧ P.cellsOf g0.type = 1 ∧ P.cellsOf g1.type = 1 ∧ P.cellsOf ti = 1 ∧ P.cellsOf tp = 4)
    (hone : oneCellFields P #[p0, p1, p2, p3] = true)
    (hv : Value.okWide P w r b0 t v) (h : DataW.Trod enc P w base spare held t v d p) :
    ∃ A n c l N B m e q, v = .agg #[.slice A n c, .int .i64 N, .slice B m e] ∧ IsInts w A n c l ∧ (Lit.int .i64 N).wf = true ∧ IsQuads w B m e q := by
  obtain ⟨cs, rfl, hsz⟩ := okWide_struct hs hv
  obtain ⟨c0, c1, c2, rfl⟩ := array3 (hsz.trans hc.1)
  obtain ⟨fuel, hf⟩ := h
  obtain ⟨xs, k, _, _, _, hlen, hg⟩ := DataW.trod_struct hs hf
  match xs, hlen with
  | [y0, y1], _ =>
    have e0 := hg 0 f0 rfl
    have e1 := hg 1 f1 rfl
    simp [Value.cells, ho.1, hc.2.1] at e0
    simp [Value.cells, ho.2.1, hc.2.2.1] at e1
    obtain ⟨A, n, c, l, rfl, hA⟩ := isInts_of_cell hi hii hc.2.2.2.2.2.1 e0
    obtain ⟨xs1, k1, _, _, _, hlen1, hg1⟩ := DataW.trod_struct hs1 e1
    match xs1, hlen1 with
    | [z0, z1], _ =>
      have i0 := hg1 0 g0 rfl
      have i1 := hg1 1 g1 rfl
      simp [ho.2.2.1, hc.2.2.2.1] at i0
      simp [ho.2.2.2, hc.2.2.2.2.1] at i1
      obtain ⟨N, hN, _, wN⟩ := DataW.trod_int hn i0
      simp only [List.cons.injEq, and_true] at hN
      obtain ⟨B, m, e, q, rfl, hB⟩ := isQuads_of_cell hp hpp h3 hone hc.2.2.2.2.2.2 i1
      exact ⟨A, n, c, l, N, B, m, e, q, by rw [hN], hA, wN, hB⟩
end
end Go.Proofs.Ytbkkfmcjfbbkaaa
/- From a contract on abstract values to calls in a given world; what comes in, as abstract values over the printed encodings. -/
namespace Go.Proofs.Ytbkkfmcjfbbkaaa
open Go.RowKit
set_option maxRecDepth 100000
set_option linter.unusedVariables false
set_option linter.unusedSimpArgs false
def wM (w : World) : Imm := fun b o => match w.cell? ⟨b, o, none⟩ with
  | some v => if v.oneCell' then some v else none
  | none => none
theorem wM_some {w : World} {b o : Nat} {v : Value} (h : w.cell? ⟨b, o, none⟩ = some v) (h1 : v.oneCell' = true) : wM w b o = some v := by simp [wM, h, h1]
theorem wM_inv {w : World} {b o : Nat} {v : Value} (h : wM w b o = some v) : w.cell? ⟨b, o, none⟩ = some v ∧ v.oneCell' = true := by
  unfold wM at h
  split at h
  · rename_i u hu
    split at h
    · rename_i h1
      injection h with h; subst h
      exact ⟨hu, h1⟩
    · cases h
  · cases h
theorem spec_calls {P : Program} {f : FuncId} {args : List AV} {b : Bool} {vs : Array Value} {w : World} (hS : Spec P f args [] (.bool b) []) (hlen : args.length = vs.size)
    (hv : ∀ (i : Nat) (c : AV) (v : Value), args[i]? = some c → vs[i]? = some v → VR (wM w) (fun _ => none) c v) : Calls P f vs w fun e w' => e = .returned (.bool b) ∧ Below w.heap.size w w' := by
  refine (hS.2 (wM w) (fun _ => none) w vs (MR.empty _ _ _ fun b o v h => wM_inv h) (fun _ _ => rfl) hlen hv).mono ?_
  rintro e w' ⟨v, M', ρ', rfl, _, _, _, _, hr, hc, _, _⟩
  obtain rfl := hr.bool_inv
  refine ⟨rfl, hc.os, hc.tape, hc.output, hc.size, fun k hk => hc.block k hk ?_⟩
  rintro ⟨s, r, x, hs, _⟩
  simp [rowsOf] at hs
theorem encL_get {α : Type} {e : α → List AV} {sz : Nat} (h : ∀ x, (e x).length = sz) : ∀ (l : List α) (k j : Nat) (q : α), l[k]? = some q → j < sz → (encL e l)[k * sz + j]? = (e q)[j]?
  | x :: l, 0, j, q, hq, hj => by
    simp only [List.getElem?_cons_zero, Option.some.injEq] at hq
    subst hq
    rw [encL_cons, Nat.zero_mul, Nat.zero_add, List.getElem?_append_left (by rw [h]; exact hj)]
  | x :: l, k + 1, j, q, hq, hj => by
    rw [encL_cons, List.getElem?_append_right (by rw [h, Nat.succ_mul]; omega), h, show (k + 1) * sz + j - sz = k * sz + j by rw [Nat.succ_mul]; omega]
    exact encL_get h l k j q (by simpa using hq) hj
theorem pv_quads {w : World} {A : Option Addr} {n c : Nat} {l : List Quad} (h : SlQ w A n l) (hc : n ≤ c) : PV (wM w) (.sl (encL EIIII l) l.length) (.slice A n c) := by
  obtain rfl := h.1
  have H := h.2
  by_cases hp : 0 < l.length
  · obtain ⟨b, off, hA, hb, hcell⟩ := H hp
    have hlen := encL_len EIIIIl l
    have key : ∀ (i : Nat) (x : AV), (encL EIIII l)[i]? = some x → ∃ n : Int, x = .int .i64 n ∧ w.cell? ⟨b, off + i, none⟩ = some (.int .i64 n) := by
      intro i x hx
      have hi : i < l.length * 4 := by
        rw [← hlen]
        rcases Nat.lt_or_ge i (encL EIIII l).length with h' | h'
        · exact h'
        · rw [List.getElem?_eq_none h'] at hx; cases hx
      have hk : i / 4 < l.length := by omega
      have hq := List.getElem?_eq_getElem hk
      have e := encL_get EIIIIl l (i / 4) (i % 4) _ hq (by omega)
      rw [show i / 4 * 4 + i % 4 = i by omega, hx] at e
      obtain ⟨c0, c1, c2, c3⟩ := hcell (i / 4) _ hq
      have h4 : i % 4 = 0 ∨ i % 4 = 1 ∨ i % 4 = 2 ∨ i % 4 = 3 := by omega
      have hoff : off + i = off + i / 4 * 4 + i % 4 := by omega
      rw [hoff]
      rcases h4 with h4 | h4 | h4 | h4 <;> rw [h4] at e ⊢ <;> simp only [EIIII, List.getElem?_cons_zero, List.getElem?_cons_succ, Option.some.injEq] at e
      · exact ⟨_, e, c0⟩
      · exact ⟨_, e, c1⟩
      · exact ⟨_, e, c2⟩
      · exact ⟨_, e, c3⟩
    refine .sl _ _ _ _ b off (fun i => (w.cell? ⟨b, off + i, none⟩).getD undef) (fun _ => hA) hc (fun i x hx => ?_) (fun i x hx => ?_)
    · obtain ⟨n, rfl, hn⟩ := key i x hx
      rw [wM_some hn rfl, hn]; rfl
    · obtain ⟨n, rfl, hn⟩ := key i x hx
      simp only [hn, Option.getD_some]
      exact .int ..
  · have : l = [] := List.eq_nil_of_length_eq_zero (by omega)
    subst this
    exact .sl _ _ _ _ 0 0 (fun _ => undef) (fun h => absurd h (by simp)) hc (fun i x hx => by simp [encL] at hx) (fun i x hx => by simp [encL] at hx)
theorem pv_ints {w : World} {A : Option Addr} {n c : Nat} {l : List Int} (h : SlI w A n l) (hc : n ≤ c) : PV (wM w) (.sl (encL EI l) l.length) (.slice A n c) := by
  obtain rfl := h.1
  have H := h.2
  by_cases hp : 0 < l.length
  · obtain ⟨b, off, hA, hb, hcell⟩ := H hp
    have hlen := encL_len EIl l
    have key : ∀ (i : Nat) (x : AV), (encL EI l)[i]? = some x → ∃ n : Int, x = .int .i64 n ∧ w.cell? ⟨b, off + i, none⟩ = some (.int .i64 n) := by
      intro i x hx
      have hi : i < l.length := by
        have : i < l.length * 1 := by
          rw [← hlen]
          rcases Nat.lt_or_ge i (encL EI l).length with h' | h'
          · exact h'
          · rw [List.getElem?_eq_none h'] at hx; cases hx
        omega
      have hq := List.getElem?_eq_getElem hi
      have e := encL_get EIl l i 0 _ hq (by omega)
      rw [show i * 1 + 0 = i by omega, hx] at e
      simp only [EI, List.getElem?_cons_zero, Option.some.injEq] at e
      exact ⟨_, e, hcell i _ hq⟩
    refine .sl _ _ _ _ b off (fun i => (w.cell? ⟨b, off + i, none⟩).getD undef) (fun _ => hA) hc (fun i x hx => ?_) (fun i x hx => ?_)
    · obtain ⟨n, rfl, hn⟩ := key i x hx
      rw [wM_some hn rfl, hn]; rfl
    · obtain ⟨n, rfl, hn⟩ := key i x hx
      simp only [hn, Option.getD_some]
      exact .int ..
  · have : l = [] := List.eq_nil_of_length_eq_zero (by omega)
    subst this
    exact .sl _ _ _ _ 0 0 (fun _ => undef) (fun h => absurd h (by simp)) hc (fun i x hx => by simp [encL] at hx) (fun i x hx => by simp [encL] at hx)
theorem vr_int (M : Imm) (ρ : Plc) (n : Int) : VR M ρ (.int .i64 n) (.int .i64 n) := .plain (.int ..)
theorem vr_tab {w : World} {N : Int} {A : Option Addr} {n c : Nat} {l : List Quad} (h : SlQ w A n l) (hc : n ≤ c) : VR (wM w) (fun _ => none) (.agg [.int .i64 N, .sl (encL EIIII l) l.length]) (.agg #[.int .i64 N, .slice A n c]) := by
  refine .agg _ _ rfl (fun v hv => ?_) (fun i x v hx hv => ?_)
  · simp at hv; rcases hv with rfl | rfl <;> rfl
  · match i with
    | 0 => simp at hx hv; subst hx hv; exact .plain (.int ..)
    | 1 => simp at hx hv; subst hx hv; exact .plain (pv_quads h hc)
    | i + 2 => simp at hx
theorem vr_nf {w : World} {N : Int} {A B : Option Addr} {n c m d : Nat} {l : List Int} {k : List Quad} (h : SlI w A n l) (hc : n ≤ c) (h2 : SlQ w B m k) (hd : m ≤ d) :
    VR (wM w) (fun _ => none) (.agg [.sl (encL EI l) l.length, .int .i64 N, .sl (encL EIIII k) k.length]) (.agg #[.slice A n c, .int .i64 N, .slice B m d]) := by
  refine .agg _ _ rfl (fun v hv => ?_) (fun i x v hx hv => ?_)
  · simp at hv; rcases hv with rfl | rfl | rfl <;> rfl
  · match i with
    | 0 => simp at hx hv; subst hx hv; exact .plain (pv_ints h hc)
    | 1 => simp at hx hv; subst hx hv; exact .plain (.int ..)
    | 2 => simp at hx hv; subst hx hv; exact .plain (pv_quads h2 hd)
    | i + 3 => simp at hx
theorem vr_quad (M : Imm) (ρ : Plc) (a b c d : Int) : VR M ρ (.agg [.int .i64 a, .int .i64 b, .int .i64 c, .int .i64 d]) (.agg #[.int .i64 a, .int .i64 b, .int .i64 c, .int .i64 d]) := by
  refine .agg _ _ rfl (fun v hv => ?_) (fun i x v hx hv => ?_)
  · simp at hv; rcases hv with rfl | rfl | rfl | rfl <;> rfl
  · match i with
    | 0 => simp at hx hv; subst hx hv; exact .plain (.int ..)
    | 1 => simp at hx hv; subst hx hv; exact .plain (.int ..)
    | 2 => simp at hx hv; subst hx hv; exact .plain (.int ..)
    | 3 => simp at hx hv; subst hx hv; exact .plain (.int ..)
    | i + 4 => simp at hx
theorem args1 {M : Imm} {ρ : Plc} {x : AV} {u : Value} (h1 : VR M ρ x u) : ∀ (i : Nat) (c : AV) (w : Value), [x][i]? = some c → #[u][i]? = some w → VR M ρ c w := by
  intro i c w hc hw
  match i with
  | 0 => simp at hc hw; subst hc hw; exact h1
  | i + 1 => simp at hc
theorem args2 {M : Imm} {ρ : Plc} {x y : AV} {u v : Value} (h1 : VR M ρ x u) (h2 : VR M ρ y v) : ∀ (i : Nat) (c : AV) (w : Value), [x, y][i]? = some c → #[u, v][i]? = some w → VR M ρ c w := by
  intro i c w hc hw
  match i with
  | 0 => simp at hc hw; subst hc hw; exact h1
  | 1 => simp at hc hw; subst hc hw; exact h2
  | i + 2 => simp at hc
theorem args3 {M : Imm} {ρ : Plc} {x y z : AV} {u v t : Value} (h1 : VR M ρ x u) (h2 : VR M ρ y v) (h3 : VR M ρ z t) : ∀ (i : Nat) (c : AV) (w : Value), [x, y, z][i]? = some c → #[u, v, t][i]? = some w → VR M ρ c w := by
  intro i c w hc hw
  match i with
  | 0 => simp at hc hw; subst hc hw; exact h1
  | 1 => simp at hc hw; subst hc hw; exact h2
  | 2 => simp at hc hw; subst hc hw; exact h3
  | i + 3 => simp at hc
end Go.Proofs.Ytbkkfmcjfbbkaaa
/- How an argument []byte is opened, with its capacity; as an abstract value. -/
namespace Go.Proofs.Ytbkkfmcjfbbkaaa
open Go.ChangeShapes Go.WideShapes Go.ChangeAt Go.RowKit Go.Joins Go.Deep
set_option linter.unusedVariables false
set_option linter.unusedSimpArgs false
def IsBytesC (w : World) (A : Option Addr) (n c : Nat) (zs : List Int) : Prop :=
  n ≤ maxLen ∧ n ≤ c ∧ zs.length = n ∧ (∀ z ∈ zs, 0 ≤ z ∧ z ≤ 255) ∧ (0 < n → ∃ b off, A = some ⟨b, off, none⟩ ∧ b < w.heap.size ∧ ∀ i z, zs[i]? = some z → w.cell? ⟨b, off + i, none⟩ = some (.int .u8 z))
section
variable {H : Type} {enc : TypeId × Value → H} {P : Program} {w : World} {base : Nat} {spare : Nat → Bool} {held : Bool}
theorem isBytesC_of_trod {t e : TypeId} {A : Option Addr} {n c : Nat} {d : DataW H} {p : List MemPlace} (ht : P.underlying t = some (.slice e)) (he : P.underlying e = some (.int .u8)) (hC : P.cellsOf e = 1)
    (h : DataW.Trod enc P w base spare held t (.slice A n c) d p) : ∃ zs, IsBytesC w A n c zs := by
  obtain ⟨fuel, hf⟩ := h
  rcases open_ints ht he hC hf with ⟨hcs, _⟩ | ⟨x, l, c', zs, hcs, _, hl, hm, hz, _, hcell, hwz⟩
  · simp [Value.cells] at hcs
    obtain ⟨rfl, rfl, rfl⟩ := hcs
    exact ⟨[], by simp [maxLen], Nat.le_refl _, rfl, by simp, fun h => absurd h (by omega)⟩
  · simp [Value.cells] at hcs
    obtain ⟨rfl, rfl, rfl⟩ := hcs
    have hlz : n ≤ zs.length := by rw [hz]; split <;> omega
    refine ⟨zs.take n, by omega, hl, by simp; omega, fun z hz' => ?_, fun hp => ?_⟩
    · have := hwz z (List.mem_of_mem_take hz')
      have := bounds_u8 this
      omega
    · obtain ⟨b, off, spot⟩ := x
      have h0 := hcell 0 (by omega)
      have hs : spot = none := by simpa [Addr.add] using World.cell?_spot h0
      subst hs
      refine ⟨b, off, rfl, ?_, fun i z hiz => ?_⟩
      · exact World.block_lt_of_cell? w _ (by simpa [Addr.add] using h0)
      · have hi : i < n := by
          rcases Nat.lt_or_ge i n with h' | h'
          · exact h'
          · rw [List.getElem?_eq_none (by simp; omega)] at hiz; cases hiz
        have hc := hcell i (by omega)
        rw [show (⟨b, off, none⟩ : Addr).add i = ⟨b, off + i, none⟩ from by unfold Addr.add; split <;> simp_all] at hc
        rw [hc]
        have : zs.getD i 0 = z := by
          rw [List.getElem?_take, if_pos hi] at hiz
          simp [hiz]
        rw [this]

end
theorem pv_bytes {w : World} {A : Option Addr} {n c : Nat} {l : List Int} (h : IsBytesC w A n c l) : PV (wM w) (.sl (encL EB l) l.length) (.slice A n c) := by
  obtain rfl := h.2.2.1
  have hc := h.2.1
  have H := h.2.2.2.2
  by_cases hp : 0 < l.length
  · obtain ⟨b, off, hA, hb, hcell⟩ := H hp
    have hlen := encL_len EBl l
    have key : ∀ (i : Nat) (x : AV), (encL EB l)[i]? = some x → ∃ n : Int, x = .int .u8 n ∧ w.cell? ⟨b, off + i, none⟩ = some (.int .u8 n) := by
      intro i x hx
      have hi : i < l.length := by
        have : i < l.length * 1 := by
          rw [← hlen]
          rcases Nat.lt_or_ge i (encL EB l).length with h' | h'
          · exact h'
          · rw [List.getElem?_eq_none h'] at hx; cases hx
        omega
      have hq := List.getElem?_eq_getElem hi
      have e := encL_get EBl l i 0 _ hq (by omega)
      rw [show i * 1 + 0 = i by omega, hx] at e
      simp only [EB, List.getElem?_cons_zero, Option.some.injEq] at e
      exact ⟨_, e, hcell i _ hq⟩
    refine .sl _ _ _ _ b off (fun i => (w.cell? ⟨b, off + i, none⟩).getD undef) (fun _ => hA) hc (fun i x hx => ?_) (fun i x hx => ?_)
    · obtain ⟨n, rfl, hn⟩ := key i x hx
      rw [wM_some hn rfl, hn]; rfl
    · obtain ⟨n, rfl, hn⟩ := key i x hx
      simp only [hn, Option.getD_some]
      exact .int ..
  · have : l = [] := List.eq_nil_of_length_eq_zero (by omega)
    subst this
    exact .sl _ _ _ _ 0 0 (fun _ => undef) (fun h => absurd h (by simp)) hc (fun i x hx => by simp [encL] at hx) (fun i x hx => by simp [encL] at hx)
end Go.Proofs.Ytbkkfmcjfbbkaaa
