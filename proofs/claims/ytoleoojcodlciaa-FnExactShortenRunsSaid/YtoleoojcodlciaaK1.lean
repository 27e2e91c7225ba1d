/- Joined texts: Ty Gn Ih Gt Fs Br. -/
import Derived.Test.YtoleoojcodlciaaProg
import Derived.Test.YtoleoojcodlciaaGb
import Derived.Test.YtoleoojcodlciaaGu
import Derived.Test.YtoleoojcodlciaaIg
import Derived.WalkKit
import Derived.Lib.Hide
import Derived.Handy
import Derived.Deep.QuietTactic
import Derived.BigQuiet
import Derived.Deep.Slices
import Derived.Deep.Fields
import Derived.Lib.SmallJoins
import Derived.Test.YtoleoojcodlciaaRows
import Derived.ProofKit
import Derived.OpenShut
import Derived.ShutString
import Derived.ChangeOld
/- Facts on the program's types, printed by a program. -/
namespace Go.Proofs.Ytoleoojcodlciaa
open Go.RowKit
set_option linter.defProp false
def BR (f : Nat) : Bool := [10, 11, 12, 13, 15, 16, 17, 18, 25, 26, 45, 47, 62, 65, 66, 98, 100, 124, 147, 148, 164, 202, 203, 204, 205, 206].contains f
theorem ty_fz (n : Nat) : FZ BR n = false := by
  show List.contains _ (1000000 + n) = false
  rw [List.contains_eq_mem]
  refine decide_eq_false ?_
  simp only [List.mem_cons, List.not_mem_nil, or_false]
  omega
theorem ty_sz23 : szA Try.prog 23 = some (4, true) := by kernel_rfl
theorem ty_br9 : BR 9 = false := by kernel_rfl
theorem ty_br8 : BR 8 = false := by kernel_rfl
theorem ty_br10 : BR 10 = true := by kernel_rfl
theorem ty_br11 : BR 11 = true := by kernel_rfl
theorem ty_br12 : BR 12 = true := by kernel_rfl
theorem ty_br13 : BR 13 = true := by kernel_rfl
theorem ty_bt3 : isBoolT Try.prog 3 = false := by kernel_rfl
theorem ty_br14 : BR 14 = false := by kernel_rfl
theorem ty_br15 : BR 15 = true := by kernel_rfl
theorem ty_br16 : BR 16 = true := by kernel_rfl
theorem ty_br17 : BR 17 = true := by kernel_rfl
theorem ty_br18 : BR 18 = true := by kernel_rfl
theorem ty_sz38 : szA Try.prog 38 = some (2, true) := by kernel_rfl
theorem ty_br19 : BR 19 = false := by kernel_rfl
theorem ty_br21 : BR 21 = false := by kernel_rfl
theorem ty_br20 : BR 20 = false := by kernel_rfl
theorem ty_zr45 : zeroA Try.prog 45 = some ([.int .i64 0, .nil]) := by kernel_rfl
theorem ty_sz45 : szA Try.prog 45 = some (2, true) := by kernel_rfl
theorem ty_br22 : BR 22 = false := by kernel_rfl
theorem ty_br23 : BR 23 = false := by kernel_rfl
theorem ty_bt4 : isBoolT Try.prog 4 = true := by kernel_rfl
theorem ty_br24 : BR 24 = false := by kernel_rfl
theorem ty_br25 : BR 25 = true := by kernel_rfl
theorem ty_br26 : BR 26 = true := by kernel_rfl
theorem ty_br27 : BR 27 = false := by kernel_rfl
theorem ty_br28 : BR 28 = false := by kernel_rfl
theorem ty_br29 : BR 29 = false := by kernel_rfl
theorem ty_br30 : BR 30 = false := by kernel_rfl
theorem ty_br31 : BR 31 = false := by kernel_rfl
theorem ty_br32 : BR 32 = false := by kernel_rfl
theorem ty_br33 : BR 33 = false := by kernel_rfl
theorem ty_br34 : BR 34 = false := by kernel_rfl
theorem ty_br36 : BR 36 = false := by kernel_rfl
theorem ty_br35 : BR 35 = false := by kernel_rfl
theorem ty_br37 : BR 37 = false := by kernel_rfl
theorem ty_im69_0 : immB Try.prog 69 0 = false := by kernel_rfl
theorem ty_by69 : bytesA Try.prog 69 = 24 := by kernel_rfl
theorem ty_el24 : elA Try.prog 24 = some (69, 1) := by kernel_rfl
theorem ty_zr69 : zeroA Try.prog 69 = some ([.nil]) := by kernel_rfl
theorem ty_sz26 : szA Try.prog 26 = some (4, true) := by kernel_rfl
theorem ty_br38 : BR 38 = false := by kernel_rfl
theorem ty_fl26_0 : fldA Try.prog 26 0 = some (0, 1, false) := by kernel_rfl
theorem ty_sz3 : szA Try.prog 3 = some (1, false) := by kernel_rfl
theorem ty_it3 : isIntT Try.prog 3 = some (.i64) := by kernel_rfl
theorem ty_it68 : isIntT Try.prog 68 = some (.u64) := by kernel_rfl
theorem ty_el69 : elA Try.prog 69 = some (73, 5) := by kernel_rfl
theorem ty_zr73 : zeroA Try.prog 73 = some ([.int .i64 0, .int .i64 0, .int .i64 0, .int .i64 0, .int .i64 0]) := by kernel_rfl
theorem ty_by73 : bytesA Try.prog 73 = 40 := by kernel_rfl
theorem ty_fl26_1 : fldA Try.prog 26 1 = some (1, 1, false) := by kernel_rfl
theorem ty_fl26_3 : fldA Try.prog 26 3 = some (3, 1, false) := by kernel_rfl
theorem ty_fl26_2 : fldA Try.prog 26 2 = some (2, 1, false) := by kernel_rfl
theorem ty_br40 : BR 40 = false := by kernel_rfl
theorem ty_br39 : BR 39 = false := by kernel_rfl
theorem ty_sz73 : szA Try.prog 73 = some (5, true) := by kernel_rfl
theorem ty_im69_1 : immB Try.prog 69 1 = false := by kernel_rfl
theorem ty_br41 : BR 41 = false := by kernel_rfl
theorem ty_zr26 : zeroA Try.prog 26 = some ([.int .i64 0, .int .i64 0, .int .i64 0, .int .i64 0]) := by kernel_rfl
theorem ty_fl23_0 : fldA Try.prog 23 0 = some (0, 1, false) := by kernel_rfl
theorem ty_fl23_1 : fldA Try.prog 23 1 = some (1, 1, false) := by kernel_rfl
theorem ty_fl23_2 : fldA Try.prog 23 2 = some (2, 1, false) := by kernel_rfl
theorem ty_fl23_3 : fldA Try.prog 23 3 = some (3, 1, false) := by kernel_rfl
theorem ty_br42 : BR 42 = false := by kernel_rfl
theorem ty_br44 : BR 44 = false := by kernel_rfl
theorem ty_br43 : BR 43 = false := by kernel_rfl
theorem ty_br45 : BR 45 = true := by kernel_rfl
theorem ty_sl24 : isSlT Try.prog 24 = true := by kernel_rfl
theorem ty_sz69 : szA Try.prog 69 = some (1, false) := by kernel_rfl
theorem ty_br46 : BR 46 = false := by kernel_rfl
theorem ty_br47 : BR 47 = true := by kernel_rfl
theorem ty_br48 : BR 48 = false := by kernel_rfl
theorem ty_st45 : isStT Try.prog 45 = true := by kernel_rfl
theorem ty_br49 : BR 49 = false := by kernel_rfl
theorem ty_im86_0 : immB Try.prog 86 0 = false := by kernel_rfl
theorem ty_by86 : bytesA Try.prog 86 = 32 := by kernel_rfl
theorem ty_el40 : elA Try.prog 40 = some (86, 4) := by kernel_rfl
theorem ty_zr86 : zeroA Try.prog 86 = some ([.int .i64 0, .int .i64 0, .int .i64 0, .int .i64 0]) := by kernel_rfl
theorem ty_im40_1 : immB Try.prog 40 1 = false := by kernel_rfl
theorem ty_by40 : bytesA Try.prog 40 = 24 := by kernel_rfl
theorem ty_el31 : elA Try.prog 31 = some (40, 1) := by kernel_rfl
theorem ty_zr40 : zeroA Try.prog 40 = some ([.nil]) := by kernel_rfl
theorem ty_br50 : BR 50 = false := by kernel_rfl
theorem ty_im45_1 : immB Try.prog 45 1 = false := by kernel_rfl
theorem ty_by45 : bytesA Try.prog 45 = 32 := by kernel_rfl
theorem ty_el79 : elA Try.prog 79 = some (45, 2) := by kernel_rfl
theorem ty_sl31 : isSlT Try.prog 31 = true := by kernel_rfl
theorem ty_br52 : BR 52 = false := by kernel_rfl
theorem ty_br51 : BR 51 = false := by kernel_rfl
theorem ty_sl79 : isSlT Try.prog 79 = true := by kernel_rfl
theorem ty_br53 : BR 53 = false := by kernel_rfl
theorem ty_sz40 : szA Try.prog 40 = some (1, false) := by kernel_rfl
theorem ty_br54 : BR 54 = false := by kernel_rfl
theorem ty_im86_1 : immB Try.prog 86 1 = false := by kernel_rfl
theorem ty_fl38_1 : fldA Try.prog 38 1 = some (1, 1, false) := by kernel_rfl
theorem ty_sz36 : szA Try.prog 36 = some (1, false) := by kernel_rfl
theorem ty_br55 : BR 55 = false := by kernel_rfl
theorem ty_br56 : BR 56 = false := by kernel_rfl
theorem ty_fl45_0 : fldA Try.prog 45 0 = some (0, 1, false) := by kernel_rfl
theorem ty_br57 : BR 57 = false := by kernel_rfl
theorem ty_fl38_0 : fldA Try.prog 38 0 = some (0, 1, false) := by kernel_rfl
theorem ty_br58 : BR 58 = false := by kernel_rfl
theorem ty_fl45_1 : fldA Try.prog 45 1 = some (1, 1, false) := by kernel_rfl
theorem ty_sz43 : szA Try.prog 43 = some (1, false) := by kernel_rfl
theorem ty_br59 : BR 59 = false := by kernel_rfl
theorem ty_sl40 : isSlT Try.prog 40 = true := by kernel_rfl
theorem ty_sz86 : szA Try.prog 86 = some (4, true) := by kernel_rfl
theorem ty_br60 : BR 60 = false := by kernel_rfl
theorem ty_br61 : BR 61 = false := by kernel_rfl
theorem ty_br62 : BR 62 = true := by kernel_rfl
theorem ty_fl86_0 : fldA Try.prog 86 0 = some (0, 1, false) := by kernel_rfl
theorem ty_fl86_1 : fldA Try.prog 86 1 = some (1, 1, false) := by kernel_rfl
theorem ty_fl86_2 : fldA Try.prog 86 2 = some (2, 1, false) := by kernel_rfl
theorem ty_fl86_3 : fldA Try.prog 86 3 = some (3, 1, false) := by kernel_rfl
theorem ty_sl52 : isSlT Try.prog 52 = true := by kernel_rfl
theorem ty_br63 : BR 63 = false := by kernel_rfl
theorem ty_br64 : BR 64 = false := by kernel_rfl
theorem ty_sl54 : isSlT Try.prog 54 = true := by kernel_rfl
theorem ty_br65 : BR 65 = true := by kernel_rfl
theorem ty_br66 : BR 66 = true := by kernel_rfl
theorem ty_el54 : elA Try.prog 54 = some (102, 2) := by kernel_rfl
theorem ty_fl102_1 : fldA Try.prog 102 1 = some (1, 1, false) := by kernel_rfl
theorem ty_sz24 : szA Try.prog 24 = some (1, false) := by kernel_rfl
theorem ty_br67 : BR 67 = false := by kernel_rfl
theorem ty_sz102 : szA Try.prog 102 = some (2, true) := by kernel_rfl
theorem ty_br68 : BR 68 = false := by kernel_rfl
theorem ty_im3_0 : immB Try.prog 3 0 = false := by kernel_rfl
theorem ty_by3 : bytesA Try.prog 3 = 8 := by kernel_rfl
theorem ty_el57 : elA Try.prog 57 = some (3, 1) := by kernel_rfl
theorem ty_zr3 : zeroA Try.prog 3 = some ([.int .i64 0]) := by kernel_rfl
theorem ty_br69 : BR 69 = false := by kernel_rfl
theorem ty_im3_1 : immB Try.prog 3 1 = true := by kernel_rfl
theorem ty_br70 : BR 70 = false := by kernel_rfl
theorem ty_sl57 : isSlT Try.prog 57 = true := by kernel_rfl
theorem ty_sl62 : isSlT Try.prog 62 = true := by kernel_rfl
theorem ty_br71 : BR 71 = false := by kernel_rfl
theorem ty_br72 : BR 72 = false := by kernel_rfl
theorem ty_br73 : BR 73 = false := by kernel_rfl
theorem ty_br74 : BR 74 = false := by kernel_rfl
theorem ty_el62 : elA Try.prog 62 = some (112, 4) := by kernel_rfl
theorem ty_sz112 : szA Try.prog 112 = some (4, true) := by kernel_rfl
theorem ty_br75 : BR 75 = false := by kernel_rfl
theorem ty_br76 : BR 76 = false := by kernel_rfl
theorem ty_zr113 : zeroA Try.prog 113 = some ([.nil, .nil, .nil, .nil]) := by kernel_rfl
theorem ty_st113 : isStT Try.prog 113 = false := by kernel_rfl
theorem ty_ar113 : arA Try.prog 113 = some (4, 1) := by kernel_rfl
theorem ty_sz113 : szA Try.prog 113 = some (4, true) := by kernel_rfl
theorem ty_br79 : BR 79 = false := by kernel_rfl
theorem ty_el113 : elA Try.prog 113 = none := by kernel_rfl
theorem ty_br80 : BR 80 = false := by kernel_rfl
theorem ty_br81 : BR 81 = false := by kernel_rfl
theorem ty_zr71 : zeroA Try.prog 71 = some ([.int .i64 0, .int .i64 0, .int .i64 0, .int .i64 0]) := by kernel_rfl
theorem ty_st71 : isStT Try.prog 71 = true := by kernel_rfl
theorem ty_pl71_0 : placeA Try.prog 71 0 = some (0, 1) := by kernel_rfl
theorem ty_pl71_1 : placeA Try.prog 71 1 = some (1, 1) := by kernel_rfl
theorem ty_pl71_2 : placeA Try.prog 71 2 = some (2, 1) := by kernel_rfl
theorem ty_pl71_3 : placeA Try.prog 71 3 = some (3, 1) := by kernel_rfl
theorem ty_im71_8 : immB Try.prog 71 8 = false := by kernel_rfl
theorem ty_by71 : bytesA Try.prog 71 = 32 := by kernel_rfl
theorem ty_el116 : elA Try.prog 116 = some (71, 4) := by kernel_rfl
theorem ty_sz71 : szA Try.prog 71 = some (4, true) := by kernel_rfl
theorem ty_st73 : isStT Try.prog 73 = true := by kernel_rfl
theorem ty_pl73_0 : placeA Try.prog 73 0 = some (0, 4) := by kernel_rfl
theorem ty_br82 : BR 82 = false := by kernel_rfl
theorem ty_br83 : BR 83 = false := by kernel_rfl
theorem ty_fl71_0 : fldA Try.prog 71 0 = some (0, 1, false) := by kernel_rfl
theorem ty_fl71_1 : fldA Try.prog 71 1 = some (1, 1, false) := by kernel_rfl
theorem ty_fl71_2 : fldA Try.prog 71 2 = some (2, 1, false) := by kernel_rfl
theorem ty_fl71_3 : fldA Try.prog 71 3 = some (3, 1, false) := by kernel_rfl
theorem ty_br84 : BR 84 = false := by kernel_rfl
theorem ty_im73_0 : immB Try.prog 73 0 = false := by kernel_rfl
theorem ty_im73_1 : immB Try.prog 73 1 = false := by kernel_rfl
theorem ty_sl69 : isSlT Try.prog 69 = true := by kernel_rfl
theorem ty_br85 : BR 85 = false := by kernel_rfl
theorem ty_fl73_0 : fldA Try.prog 73 0 = some (0, 4, true) := by kernel_rfl
theorem ty_fl73_1 : fldA Try.prog 73 1 = some (4, 1, false) := by kernel_rfl
theorem ty_br86 : BR 86 = false := by kernel_rfl
theorem ty_im3_6 : immB Try.prog 3 6 = true := by kernel_rfl
theorem ty_br88 : BR 88 = false := by kernel_rfl
theorem ty_br87 : BR 87 = false := by kernel_rfl
theorem ty_pl45_0 : placeA Try.prog 45 0 = some (0, 1) := by kernel_rfl
theorem ty_st26 : isStT Try.prog 26 = true := by kernel_rfl
theorem ty_pl26_0 : placeA Try.prog 26 0 = some (0, 1) := by kernel_rfl
theorem ty_pl26_1 : placeA Try.prog 26 1 = some (1, 1) := by kernel_rfl
theorem ty_im26_1 : immB Try.prog 26 1 = false := by kernel_rfl
theorem ty_by26 : bytesA Try.prog 26 = 32 := by kernel_rfl
theorem ty_el43 : elA Try.prog 43 = some (26, 4) := by kernel_rfl
theorem ty_pl26_2 : placeA Try.prog 26 2 = some (2, 1) := by kernel_rfl
theorem ty_br89 : BR 89 = false := by kernel_rfl
theorem ty_sl43 : isSlT Try.prog 43 = true := by kernel_rfl
theorem ty_br90 : BR 90 = false := by kernel_rfl
theorem ty_st86 : isStT Try.prog 86 = true := by kernel_rfl
theorem ty_pl86_0 : placeA Try.prog 86 0 = some (0, 1) := by kernel_rfl
theorem ty_pl86_1 : placeA Try.prog 86 1 = some (1, 1) := by kernel_rfl
theorem ty_br91 : BR 91 = false := by kernel_rfl
theorem ty_sl36 : isSlT Try.prog 36 = true := by kernel_rfl
theorem ty_br92 : BR 92 = false := by kernel_rfl
theorem ty_br93 : BR 93 = false := by kernel_rfl
theorem ty_br94 : BR 94 = false := by kernel_rfl
theorem ty_el36 : elA Try.prog 36 = some (23, 4) := by kernel_rfl
theorem ty_zr125 : zeroA Try.prog 125 = some ([.int .i64 0, .nil]) := by kernel_rfl
theorem ty_st125 : isStT Try.prog 125 = true := by kernel_rfl
theorem ty_pl125_0 : placeA Try.prog 125 0 = some (0, 1) := by kernel_rfl
theorem ty_pl125_1 : placeA Try.prog 125 1 = some (1, 1) := by kernel_rfl
theorem ty_br95 : BR 95 = false := by kernel_rfl
theorem ty_br96 : BR 96 = false := by kernel_rfl
theorem ty_el52 : elA Try.prog 52 = some (5, 1) := by kernel_rfl
theorem ty_sz5 : szA Try.prog 5 = some (1, false) := by kernel_rfl
theorem ty_it5 : isIntT Try.prog 5 = some (.u8) := by kernel_rfl
theorem ty_zr127 : zeroA Try.prog 127 = some ([.nil, .int .i64 0, .int .i64 0]) := by kernel_rfl
theorem ty_st127 : isStT Try.prog 127 = true := by kernel_rfl
theorem ty_pl127_0 : placeA Try.prog 127 0 = some (0, 1) := by kernel_rfl
theorem ty_pl127_2 : placeA Try.prog 127 2 = some (2, 1) := by kernel_rfl
theorem ty_br98 : BR 98 = true := by kernel_rfl
theorem ty_br97 : BR 97 = false := by kernel_rfl
theorem ty_im102_0 : immB Try.prog 102 0 = false := by kernel_rfl
theorem ty_by102 : bytesA Try.prog 102 = 32 := by kernel_rfl
theorem ty_zr102 : zeroA Try.prog 102 = some ([.int .i64 0, .nil]) := by kernel_rfl
theorem ty_fl102_0 : fldA Try.prog 102 0 = some (0, 1, false) := by kernel_rfl
theorem ty_br99 : BR 99 = false := by kernel_rfl
theorem ty_st102 : isStT Try.prog 102 = true := by kernel_rfl
theorem ty_pl102_0 : placeA Try.prog 102 0 = some (0, 1) := by kernel_rfl
theorem ty_pl102_1 : placeA Try.prog 102 1 = some (1, 1) := by kernel_rfl
theorem ty_im102_1 : immB Try.prog 102 1 = false := by kernel_rfl
theorem ty_br100 : BR 100 = true := by kernel_rfl
theorem ty_br101 : BR 101 = false := by kernel_rfl
theorem ty_br102 : BR 102 = false := by kernel_rfl
theorem ty_br103 : BR 103 = false := by kernel_rfl
theorem ty_fn73 : flatN Try.prog 4 73 = some 5 := by kernel_rfl
theorem ty_br104 : BR 104 = false := by kernel_rfl
theorem ty_im3_3 : immB Try.prog 3 3 = true := by kernel_rfl
theorem ty_br105 : BR 105 = false := by kernel_rfl
theorem ty_br106 : BR 106 = false := by kernel_rfl
theorem ty_zr141 : zeroA Try.prog 141 = some ([.nil, .int .i64 0, .nil]) := by kernel_rfl
theorem ty_sz141 : szA Try.prog 141 = some (3, true) := by kernel_rfl
theorem ty_br107 : BR 107 = false := by kernel_rfl
theorem ty_br108 : BR 108 = false := by kernel_rfl
theorem ty_fl112_0 : fldA Try.prog 112 0 = some (0, 1, false) := by kernel_rfl
theorem ty_fl112_1 : fldA Try.prog 112 1 = some (1, 1, false) := by kernel_rfl
theorem ty_fl112_2 : fldA Try.prog 112 2 = some (2, 1, false) := by kernel_rfl
theorem ty_fl112_3 : fldA Try.prog 112 3 = some (3, 1, false) := by kernel_rfl
theorem ty_br78 : BR 78 = false := by kernel_rfl
theorem ty_br109 : BR 109 = false := by kernel_rfl
theorem ty_br110 : BR 110 = false := by kernel_rfl
theorem ty_br111 : BR 111 = false := by kernel_rfl
theorem ty_br114 : BR 114 = false := by kernel_rfl
theorem ty_br115 : BR 115 = false := by kernel_rfl
theorem ty_br116 : BR 116 = false := by kernel_rfl
theorem ty_br117 : BR 117 = false := by kernel_rfl
theorem ty_br118 : BR 118 = false := by kernel_rfl
theorem ty_br119 : BR 119 = false := by kernel_rfl
theorem ty_pl26_3 : placeA Try.prog 26 3 = some (3, 1) := by kernel_rfl
theorem ty_br120 : BR 120 = false := by kernel_rfl
theorem ty_br121 : BR 121 = false := by kernel_rfl
theorem ty_fn26 : flatN Try.prog 4 26 = some 4 := by kernel_rfl
theorem ty_sz125 : szA Try.prog 125 = some (2, true) := by kernel_rfl
theorem ty_br122 : BR 122 = false := by kernel_rfl
theorem ty_fl125_0 : fldA Try.prog 125 0 = some (0, 1, false) := by kernel_rfl
theorem ty_fl125_1 : fldA Try.prog 125 1 = some (1, 1, false) := by kernel_rfl
theorem ty_sz132 : szA Try.prog 132 = some (4, true) := by kernel_rfl
theorem ty_fl132_3 : fldA Try.prog 132 3 = some (3, 1, false) := by kernel_rfl
theorem ty_sz130 : szA Try.prog 130 = some (1, false) := by kernel_rfl
theorem ty_sl130 : isSlT Try.prog 130 = true := by kernel_rfl
theorem ty_br123 : BR 123 = false := by kernel_rfl
theorem ty_zr132 : zeroA Try.prog 132 = some ([.int .i64 0, .int .i64 0, .int .i64 0, .nil]) := by kernel_rfl
theorem ty_st132 : isStT Try.prog 132 = true := by kernel_rfl
theorem ty_pl132_0 : placeA Try.prog 132 0 = some (0, 1) := by kernel_rfl
theorem ty_pl132_1 : placeA Try.prog 132 1 = some (1, 1) := by kernel_rfl
theorem ty_fl132_1 : fldA Try.prog 132 1 = some (1, 1, false) := by kernel_rfl
theorem ty_fl132_2 : fldA Try.prog 132 2 = some (2, 1, false) := by kernel_rfl
theorem ty_zr160 : zeroA Try.prog 160 = some ([.int .i64 0, .int .i64 0, .int .i64 0, .int .i64 0, .int .i64 0, .int .i64 0, .int .i64 0, .int .i64 0]) := by kernel_rfl
theorem ty_st160 : isStT Try.prog 160 = true := by kernel_rfl
theorem ty_pl160_0 : placeA Try.prog 160 0 = some (0, 1) := by kernel_rfl
theorem ty_pl160_2 : placeA Try.prog 160 2 = some (5, 1) := by kernel_rfl
theorem ty_pl160_3 : placeA Try.prog 160 3 = some (6, 1) := by kernel_rfl
theorem ty_im160_1 : immB Try.prog 160 1 = false := by kernel_rfl
theorem ty_by160 : bytesA Try.prog 160 = 64 := by kernel_rfl
theorem ty_el130 : elA Try.prog 130 = some (160, 8) := by kernel_rfl
theorem ty_br124 : BR 124 = true := by kernel_rfl
theorem ty_pl160_1 : placeA Try.prog 160 1 = some (1, 4) := by kernel_rfl
theorem ty_sz160 : szA Try.prog 160 = some (8, true) := by kernel_rfl
theorem ty_fl160_4 : fldA Try.prog 160 4 = some (7, 1, false) := by kernel_rfl
theorem ty_br125 : BR 125 = false := by kernel_rfl
theorem ty_fl127_2 : fldA Try.prog 127 2 = some (2, 1, false) := by kernel_rfl
theorem ty_fl127_1 : fldA Try.prog 127 1 = some (1, 1, false) := by kernel_rfl
theorem ty_fl127_0 : fldA Try.prog 127 0 = some (0, 1, false) := by kernel_rfl
theorem ty_sz52 : szA Try.prog 52 = some (1, false) := by kernel_rfl
theorem ty_br126 : BR 126 = false := by kernel_rfl
theorem ty_br127 : BR 127 = false := by kernel_rfl
theorem ty_br128 : BR 128 = false := by kernel_rfl
theorem ty_br129 : BR 129 = false := by kernel_rfl
theorem ty_br130 : BR 130 = false := by kernel_rfl
theorem ty_br131 : BR 131 = false := by kernel_rfl
theorem ty_br132 : BR 132 = false := by kernel_rfl
theorem ty_br133 : BR 133 = false := by kernel_rfl
theorem ty_br134 : BR 134 = false := by kernel_rfl
theorem ty_st141 : isStT Try.prog 141 = true := by kernel_rfl
theorem ty_br135 : BR 135 = false := by kernel_rfl
theorem ty_fl141_0 : fldA Try.prog 141 0 = some (0, 1, false) := by kernel_rfl
theorem ty_sz57 : szA Try.prog 57 = some (1, false) := by kernel_rfl
theorem ty_br136 : BR 136 = false := by kernel_rfl
theorem ty_fl141_1 : fldA Try.prog 141 1 = some (1, 2, true) := by kernel_rfl
theorem ty_br137 : BR 137 = false := by kernel_rfl
theorem ty_br138 : BR 138 = false := by kernel_rfl
theorem ty_br139 : BR 139 = false := by kernel_rfl
theorem ty_br140 : BR 140 = false := by kernel_rfl
theorem ty_br141 : BR 141 = false := by kernel_rfl
theorem ty_br143 : BR 143 = false := by kernel_rfl
theorem ty_br142 : BR 142 = false := by kernel_rfl
theorem ty_br144 : BR 144 = false := by kernel_rfl
theorem ty_fl132_0 : fldA Try.prog 132 0 = some (0, 1, false) := by kernel_rfl
theorem ty_br145 : BR 145 = false := by kernel_rfl
theorem ty_br146 : BR 146 = false := by kernel_rfl
theorem ty_im3_5 : immB Try.prog 3 5 = true := by kernel_rfl
theorem ty_im3_8 : immB Try.prog 3 8 = true := by kernel_rfl
theorem ty_br147 : BR 147 = true := by kernel_rfl
theorem ty_br148 : BR 148 = true := by kernel_rfl
theorem ty_br149 : BR 149 = false := by kernel_rfl
theorem ty_br150 : BR 150 = false := by kernel_rfl
theorem ty_br151 : BR 151 = false := by kernel_rfl
theorem ty_pl73_1 : placeA Try.prog 73 1 = some (4, 1) := by kernel_rfl
theorem ty_br152 : BR 152 = false := by kernel_rfl
theorem ty_br153 : BR 153 = false := by kernel_rfl
theorem ty_br154 : BR 154 = false := by kernel_rfl
theorem ty_pl141_1 : placeA Try.prog 141 1 = some (1, 2) := by kernel_rfl
theorem ty_br155 : BR 155 = false := by kernel_rfl
theorem ty_br156 : BR 156 = false := by kernel_rfl
theorem ty_im86_2 : immB Try.prog 86 2 = false := by kernel_rfl
theorem ty_br157 : BR 157 = false := by kernel_rfl
theorem ty_br158 : BR 158 = false := by kernel_rfl
theorem ty_br159 : BR 159 = false := by kernel_rfl
theorem ty_br160 : BR 160 = false := by kernel_rfl
theorem ty_fl160_0 : fldA Try.prog 160 0 = some (0, 1, false) := by kernel_rfl
theorem ty_fl160_3 : fldA Try.prog 160 3 = some (6, 1, false) := by kernel_rfl
theorem ty_br161 : BR 161 = false := by kernel_rfl
theorem ty_br162 : BR 162 = false := by kernel_rfl
theorem ty_fl160_2 : fldA Try.prog 160 2 = some (5, 1, false) := by kernel_rfl
theorem ty_br163 : BR 163 = false := by kernel_rfl
theorem ty_br164 : BR 164 = true := by kernel_rfl
theorem ty_br165 : BR 165 = false := by kernel_rfl
theorem ty_br166 : BR 166 = false := by kernel_rfl
theorem ty_pl141_0 : placeA Try.prog 141 0 = some (0, 1) := by kernel_rfl
theorem ty_br167 : BR 167 = false := by kernel_rfl
theorem ty_br169 : BR 169 = false := by kernel_rfl
theorem ty_br168 : BR 168 = false := by kernel_rfl
theorem ty_br170 : BR 170 = false := by kernel_rfl
theorem ty_im26_0 : immB Try.prog 26 0 = false := by kernel_rfl
theorem ty_pl45_1 : placeA Try.prog 45 1 = some (1, 1) := by kernel_rfl
theorem ty_br171 : BR 171 = false := by kernel_rfl
theorem ty_br173 : BR 173 = false := by kernel_rfl
theorem ty_im40_2 : immB Try.prog 40 2 = false := by kernel_rfl
theorem ty_br172 : BR 172 = false := by kernel_rfl
theorem ty_im40_3 : immB Try.prog 40 3 = false := by kernel_rfl
theorem ty_fl160_1 : fldA Try.prog 160 1 = some (1, 4, true) := by kernel_rfl
theorem ty_pl160_4 : placeA Try.prog 160 4 = some (7, 1) := by kernel_rfl
theorem ty_fn160 : flatN Try.prog 4 160 = some 8 := by kernel_rfl
theorem ty_br174 : BR 174 = false := by kernel_rfl
theorem ty_br175 : BR 175 = false := by kernel_rfl
theorem ty_br176 : BR 176 = false := by kernel_rfl
theorem ty_br177 : BR 177 = false := by kernel_rfl
theorem ty_br178 : BR 178 = false := by kernel_rfl
theorem ty_br179 : BR 179 = false := by kernel_rfl
theorem ty_br180 : BR 180 = false := by kernel_rfl
theorem ty_br181 : BR 181 = false := by kernel_rfl
theorem ty_im26_3 : immB Try.prog 26 3 = false := by kernel_rfl
theorem ty_br182 : BR 182 = false := by kernel_rfl
theorem ty_br183 : BR 183 = false := by kernel_rfl
theorem ty_sl198 : isSlT Try.prog 198 = true := by kernel_rfl
theorem ty_el198 : elA Try.prog 198 = some (201, 6) := by kernel_rfl
theorem ty_fl201_1 : fldA Try.prog 201 1 = some (1, 5, true) := by kernel_rfl
theorem ty_fl201_0 : fldA Try.prog 201 0 = some (0, 1, false) := by kernel_rfl
theorem ty_br184 : BR 184 = false := by kernel_rfl
theorem ty_br185 : BR 185 = false := by kernel_rfl
theorem ty_br186 : BR 186 = false := by kernel_rfl
theorem ty_zr201 : zeroA Try.prog 201 = some ([.int .i64 0, .int .i64 0, .int .i64 0, .int .i64 0, .int .i64 0, .int .i64 0]) := by kernel_rfl
theorem ty_st201 : isStT Try.prog 201 = true := by kernel_rfl
theorem ty_pl201_0 : placeA Try.prog 201 0 = some (0, 1) := by kernel_rfl
theorem ty_pl201_1 : placeA Try.prog 201 1 = some (1, 5) := by kernel_rfl
theorem ty_im201_1 : immB Try.prog 201 1 = false := by kernel_rfl
theorem ty_by201 : bytesA Try.prog 201 = 48 := by kernel_rfl
theorem ty_br187 : BR 187 = false := by kernel_rfl
theorem ty_br188 : BR 188 = false := by kernel_rfl
theorem ty_br189 : BR 189 = false := by kernel_rfl
theorem ty_im201_2 : immB Try.prog 201 2 = false := by kernel_rfl
theorem ty_br190 : BR 190 = false := by kernel_rfl
theorem ty_br191 : BR 191 = false := by kernel_rfl
theorem ty_br192 : BR 192 = false := by kernel_rfl
theorem ty_br193 : BR 193 = false := by kernel_rfl
def TY :=
 (And.intro
 (And.intro
 (And.intro
 (And.intro
 (And.intro
 (And.intro
 (And.intro
 (And.intro
 ty_fz
 (And.intro
 ty_sz23
 ty_br9))
 (And.intro
 ty_br8
 (And.intro
 ty_br10
 ty_br11)))
 (And.intro
 (And.intro
 ty_br12
 (And.intro
 ty_br13
 ty_bt3))
 (And.intro
 ty_br14
 (And.intro
 ty_br15
 ty_br16))))
 (And.intro
 (And.intro
 (And.intro
 ty_br17
 (And.intro
 ty_br18
 ty_sz38))
 (And.intro
 ty_br19
 (And.intro
 ty_br21
 ty_br20)))
 (And.intro
 (And.intro
 ty_zr45
 (And.intro
 ty_sz45
 ty_br22))
 (And.intro
 ty_br23
 (And.intro
 ty_bt4
 ty_br24)))))
 (And.intro
 (And.intro
 (And.intro
 (And.intro
 ty_br25
 (And.intro
 ty_br26
 ty_br27))
 (And.intro
 ty_br28
 (And.intro
 ty_br29
 ty_br30)))
 (And.intro
 (And.intro
 ty_br31
 (And.intro
 ty_br32
 ty_br33))
 (And.intro
 ty_br34
 (And.intro
 ty_br36
 ty_br35))))
 (And.intro
 (And.intro
 (And.intro
 ty_br37
 (And.intro
 ty_im69_0
 ty_by69))
 (And.intro
 ty_el24
 (And.intro
 ty_zr69
 ty_sz26)))
 (And.intro
 (And.intro
 ty_br38
 (And.intro
 ty_fl26_0
 ty_sz3))
 (And.intro
 ty_it3
 (And.intro
 ty_it68
 ty_el69))))))
 (And.intro
 (And.intro
 (And.intro
 (And.intro
 (And.intro
 ty_zr73
 (And.intro
 ty_by73
 ty_fl26_1))
 (And.intro
 ty_fl26_3
 (And.intro
 ty_fl26_2
 ty_br40)))
 (And.intro
 (And.intro
 ty_br39
 (And.intro
 ty_sz73
 ty_im69_1))
 (And.intro
 ty_br41
 (And.intro
 ty_zr26
 ty_fl23_0))))
 (And.intro
 (And.intro
 (And.intro
 ty_fl23_1
 (And.intro
 ty_fl23_2
 ty_fl23_3))
 (And.intro
 ty_br42
 (And.intro
 ty_br44
 ty_br43)))
 (And.intro
 (And.intro
 ty_br45
 (And.intro
 ty_sl24
 ty_sz69))
 (And.intro
 ty_br46
 (And.intro
 ty_br47
 ty_br48)))))
 (And.intro
 (And.intro
 (And.intro
 (And.intro
 ty_st45
 (And.intro
 ty_br49
 ty_im86_0))
 (And.intro
 ty_by86
 (And.intro
 ty_el40
 ty_zr86)))
 (And.intro
 (And.intro
 ty_im40_1
 (And.intro
 ty_by40
 ty_el31))
 (And.intro
 ty_zr40
 (And.intro
 ty_br50
 ty_im45_1))))
 (And.intro
 (And.intro
 (And.intro
 ty_by45
 (And.intro
 ty_el79
 ty_sl31))
 (And.intro
 ty_br52
 (And.intro
 ty_br51
 ty_sl79)))
 (And.intro
 (And.intro
 ty_br53
 (And.intro
 ty_sz40
 ty_br54))
 (And.intro
 (And.intro
 ty_im86_1
 ty_fl38_1)
 (And.intro
 ty_sz36
 ty_br55)))))))
 (And.intro
 (And.intro
 (And.intro
 (And.intro
 (And.intro
 (And.intro
 ty_br56
 (And.intro
 ty_fl45_0
 ty_br57))
 (And.intro
 ty_fl38_0
 (And.intro
 ty_br58
 ty_fl45_1)))
 (And.intro
 (And.intro
 ty_sz43
 (And.intro
 ty_br59
 ty_sl40))
 (And.intro
 ty_sz86
 (And.intro
 ty_br60
 ty_br61))))
 (And.intro
 (And.intro
 (And.intro
 ty_br62
 (And.intro
 ty_fl86_0
 ty_fl86_1))
 (And.intro
 ty_fl86_2
 (And.intro
 ty_fl86_3
 ty_sl52)))
 (And.intro
 (And.intro
 ty_br63
 (And.intro
 ty_br64
 ty_sl54))
 (And.intro
 ty_br65
 (And.intro
 ty_br66
 ty_el54)))))
 (And.intro
 (And.intro
 (And.intro
 (And.intro
 ty_fl102_1
 (And.intro
 ty_sz24
 ty_br67))
 (And.intro
 ty_sz102
 (And.intro
 ty_br68
 ty_im3_0)))
 (And.intro
 (And.intro
 ty_by3
 (And.intro
 ty_el57
 ty_zr3))
 (And.intro
 ty_br69
 (And.intro
 ty_im3_1
 ty_br70))))
 (And.intro
 (And.intro
 (And.intro
 ty_sl57
 (And.intro
 ty_sl62
 ty_br71))
 (And.intro
 ty_br72
 (And.intro
 ty_br73
 ty_br74)))
 (And.intro
 (And.intro
 ty_el62
 (And.intro
 ty_sz112
 ty_br75))
 (And.intro
 ty_br76
 (And.intro
 ty_zr113
 ty_st113))))))
 (And.intro
 (And.intro
 (And.intro
 (And.intro
 (And.intro
 ty_ar113
 (And.intro
 ty_sz113
 ty_br79))
 (And.intro
 ty_el113
 (And.intro
 ty_br80
 ty_br81)))
 (And.intro
 (And.intro
 ty_zr71
 (And.intro
 ty_st71
 ty_pl71_0))
 (And.intro
 ty_pl71_1
 (And.intro
 ty_pl71_2
 ty_pl71_3))))
 (And.intro
 (And.intro
 (And.intro
 ty_im71_8
 (And.intro
 ty_by71
 ty_el116))
 (And.intro
 ty_sz71
 (And.intro
 ty_st73
 ty_pl73_0)))
 (And.intro
 (And.intro
 ty_br82
 (And.intro
 ty_br83
 ty_fl71_0))
 (And.intro
 ty_fl71_1
 (And.intro
 ty_fl71_2
 ty_fl71_3)))))
 (And.intro
 (And.intro
 (And.intro
 (And.intro
 ty_br84
 (And.intro
 ty_im73_0
 ty_im73_1))
 (And.intro
 ty_sl69
 (And.intro
 ty_br85
 ty_fl73_0)))
 (And.intro
 (And.intro
 ty_fl73_1
 (And.intro
 ty_br86
 ty_im3_6))
 (And.intro
 ty_br88
 (And.intro
 ty_br87
 ty_pl45_0))))
 (And.intro
 (And.intro
 (And.intro
 ty_st26
 (And.intro
 ty_pl26_0
 ty_pl26_1))
 (And.intro
 ty_im26_1
 (And.intro
 ty_by26
 ty_el43)))
 (And.intro
 (And.intro
 ty_pl26_2
 (And.intro
 ty_br89
 ty_sl43))
 (And.intro
 (And.intro
 ty_br90
 ty_st86)
 (And.intro
 ty_pl86_0
 ty_pl86_1))))))))
 (And.intro
 (And.intro
 (And.intro
 (And.intro
 (And.intro
 (And.intro
 (And.intro
 ty_br91
 (And.intro
 ty_sl36
 ty_br92))
 (And.intro
 ty_br93
 (And.intro
 ty_br94
 ty_el36)))
 (And.intro
 (And.intro
 ty_zr125
 (And.intro
 ty_st125
 ty_pl125_0))
 (And.intro
 ty_pl125_1
 (And.intro
 ty_br95
 ty_br96))))
 (And.intro
 (And.intro
 (And.intro
 ty_el52
 (And.intro
 ty_sz5
 ty_it5))
 (And.intro
 ty_zr127
 (And.intro
 ty_st127
 ty_pl127_0)))
 (And.intro
 (And.intro
 ty_pl127_2
 (And.intro
 ty_br98
 ty_br97))
 (And.intro
 ty_im102_0
 (And.intro
 ty_by102
 ty_zr102)))))
 (And.intro
 (And.intro
 (And.intro
 (And.intro
 ty_fl102_0
 (And.intro
 ty_br99
 ty_st102))
 (And.intro
 ty_pl102_0
 (And.intro
 ty_pl102_1
 ty_im102_1)))
 (And.intro
 (And.intro
 ty_br100
 (And.intro
 ty_br101
 ty_br102))
 (And.intro
 ty_br103
 (And.intro
 ty_fn73
 ty_br104))))
 (And.intro
 (And.intro
 (And.intro
 ty_im3_3
 (And.intro
 ty_br105
 ty_br106))
 (And.intro
 ty_zr141
 (And.intro
 ty_sz141
 ty_br107)))
 (And.intro
 (And.intro
 ty_br108
 (And.intro
 ty_fl112_0
 ty_fl112_1))
 (And.intro
 ty_fl112_2
 (And.intro
 ty_fl112_3
 ty_br78))))))
 (And.intro
 (And.intro
 (And.intro
 (And.intro
 (And.intro
 ty_br109
 (And.intro
 ty_br110
 ty_br111))
 (And.intro
 ty_br114
 (And.intro
 ty_br115
 ty_br116)))
 (And.intro
 (And.intro
 ty_br117
 (And.intro
 ty_br118
 ty_br119))
 (And.intro
 ty_pl26_3
 (And.intro
 ty_br120
 ty_br121))))
 (And.intro
 (And.intro
 (And.intro
 ty_fn26
 (And.intro
 ty_sz125
 ty_br122))
 (And.intro
 ty_fl125_0
 (And.intro
 ty_fl125_1
 ty_sz132)))
 (And.intro
 (And.intro
 ty_fl132_3
 (And.intro
 ty_sz130
 ty_sl130))
 (And.intro
 ty_br123
 (And.intro
 ty_zr132
 ty_st132)))))
 (And.intro
 (And.intro
 (And.intro
 (And.intro
 ty_pl132_0
 (And.intro
 ty_pl132_1
 ty_fl132_1))
 (And.intro
 ty_fl132_2
 (And.intro
 ty_zr160
 ty_st160)))
 (And.intro
 (And.intro
 ty_pl160_0
 (And.intro
 ty_pl160_2
 ty_pl160_3))
 (And.intro
 ty_im160_1
 (And.intro
 ty_by160
 ty_el130))))
 (And.intro
 (And.intro
 (And.intro
 ty_br124
 (And.intro
 ty_pl160_1
 ty_sz160))
 (And.intro
 ty_fl160_4
 (And.intro
 ty_br125
 ty_fl127_2)))
 (And.intro
 (And.intro
 ty_fl127_1
 (And.intro
 ty_fl127_0
 ty_sz52))
 (And.intro
 (And.intro
 ty_br126
 ty_br127)
 (And.intro
 ty_br128
 ty_br129)))))))
 (And.intro
 (And.intro
 (And.intro
 (And.intro
 (And.intro
 (And.intro
 ty_br130
 (And.intro
 ty_br131
 ty_br132))
 (And.intro
 ty_br133
 (And.intro
 ty_br134
 ty_st141)))
 (And.intro
 (And.intro
 ty_br135
 (And.intro
 ty_fl141_0
 ty_sz57))
 (And.intro
 ty_br136
 (And.intro
 ty_fl141_1
 ty_br137))))
 (And.intro
 (And.intro
 (And.intro
 ty_br138
 (And.intro
 ty_br139
 ty_br140))
 (And.intro
 ty_br141
 (And.intro
 ty_br143
 ty_br142)))
 (And.intro
 (And.intro
 ty_br144
 (And.intro
 ty_fl132_0
 ty_br145))
 (And.intro
 ty_br146
 (And.intro
 ty_im3_5
 ty_im3_8)))))
 (And.intro
 (And.intro
 (And.intro
 (And.intro
 ty_br147
 (And.intro
 ty_br148
 ty_br149))
 (And.intro
 ty_br150
 (And.intro
 ty_br151
 ty_pl73_1)))
 (And.intro
 (And.intro
 ty_br152
 (And.intro
 ty_br153
 ty_br154))
 (And.intro
 ty_pl141_1
 (And.intro
 ty_br155
 ty_br156))))
 (And.intro
 (And.intro
 (And.intro
 ty_im86_2
 (And.intro
 ty_br157
 ty_br158))
 (And.intro
 ty_br159
 (And.intro
 ty_br160
 ty_fl160_0)))
 (And.intro
 (And.intro
 ty_fl160_3
 (And.intro
 ty_br161
 ty_br162))
 (And.intro
 ty_fl160_2
 (And.intro
 ty_br163
 ty_br164))))))
 (And.intro
 (And.intro
 (And.intro
 (And.intro
 (And.intro
 ty_br165
 (And.intro
 ty_br166
 ty_pl141_0))
 (And.intro
 ty_br167
 (And.intro
 ty_br169
 ty_br168)))
 (And.intro
 (And.intro
 ty_br170
 (And.intro
 ty_im26_0
 ty_pl45_1))
 (And.intro
 ty_br171
 (And.intro
 ty_br173
 ty_im40_2))))
 (And.intro
 (And.intro
 (And.intro
 ty_br172
 (And.intro
 ty_im40_3
 ty_fl160_1))
 (And.intro
 ty_pl160_4
 (And.intro
 ty_fn160
 ty_br174)))
 (And.intro
 (And.intro
 ty_br175
 (And.intro
 ty_br176
 ty_br177))
 (And.intro
 ty_br178
 (And.intro
 ty_br179
 ty_br180)))))
 (And.intro
 (And.intro
 (And.intro
 (And.intro
 ty_br181
 (And.intro
 ty_im26_3
 ty_br182))
 (And.intro
 ty_br183
 (And.intro
 ty_sl198
 ty_el198)))
 (And.intro
 (And.intro
 ty_fl201_1
 (And.intro
 ty_fl201_0
 ty_br184))
 (And.intro
 ty_br185
 (And.intro
 ty_br186
 ty_zr201))))
 (And.intro
 (And.intro
 (And.intro
 ty_st201
 (And.intro
 ty_pl201_0
 ty_pl201_1))
 (And.intro
 ty_im201_1
 (And.intro
 ty_by201
 ty_br187)))
 (And.intro
 (And.intro
 ty_br188
 (And.intro
 ty_br189
 ty_im201_2))
 (And.intro
 (And.intro
 ty_br190
 ty_br191)
 (And.intro
 ty_br192
 ty_br193)))))))))
end Go.Proofs.Ytoleoojcodlciaa
-- NAMES ty_br193, ty_br192, ty_br191, ty_br190, ty_im201_2, ty_br189, ty_br188, ty_br187, ty_by201, ty_im201_1, ty_pl201_1, ty_pl201_0, ty_st201, ty_zr201, ty_br186, ty_br185, ty_br184, ty_fl201_0, ty_fl201_1, ty_el198, ty_sl198, ty_br183, ty_br182, ty_im26_3, ty_br181, ty_br180, ty_br179, ty_br178, ty_br177, ty_br176, ty_br175, ty_br174, ty_fn160, ty_pl160_4, ty_fl160_1, ty_im40_3, ty_br172, ty_im40_2, ty_br173, ty_br171, ty_pl45_1, ty_im26_0, ty_br170, ty_br168, ty_br169, ty_br167, ty_pl141_0, ty_br166, ty_br165, ty_br164, ty_br163, ty_fl160_2, ty_br162, ty_br161, ty_fl160_3, ty_fl160_0, ty_br160, ty_br159, ty_br158, ty_br157, ty_im86_2, ty_br156, ty_br155, ty_pl141_1, ty_br154, ty_br153, ty_br152, ty_pl73_1, ty_br151, ty_br150, ty_br149, ty_br148, ty_br147, ty_im3_8, ty_im3_5, ty_br146, ty_br145, ty_fl132_0, ty_br144, ty_br142, ty_br143, ty_br141, ty_br140, ty_br139, ty_br138, ty_br137, ty_fl141_1, ty_br136, ty_sz57, ty_fl141_0, ty_br135, ty_st141, ty_br134, ty_br133, ty_br132, ty_br131, ty_br130, ty_br129, ty_br128, ty_br127, ty_br126, ty_sz52, ty_fl127_0, ty_fl127_1, ty_fl127_2, ty_br125, ty_fl160_4, ty_sz160, ty_pl160_1, ty_br124, ty_el130, ty_by160, ty_im160_1, ty_pl160_3, ty_pl160_2, ty_pl160_0, ty_st160, ty_zr160, ty_fl132_2, ty_fl132_1, ty_pl132_1, ty_pl132_0, ty_st132, ty_zr132, ty_br123, ty_sl130, ty_sz130, ty_fl132_3, ty_sz132, ty_fl125_1, ty_fl125_0, ty_br122, ty_sz125, ty_fn26, ty_br121, ty_br120, ty_pl26_3, ty_br119, ty_br118, ty_br117, ty_br116, ty_br115, ty_br114, ty_br111, ty_br110, ty_br109, ty_br78, ty_fl112_3, ty_fl112_2, ty_fl112_1, ty_fl112_0, ty_br108, ty_br107, ty_sz141, ty_zr141, ty_br106, ty_br105, ty_im3_3, ty_br104, ty_fn73, ty_br103, ty_br102, ty_br101, ty_br100, ty_im102_1, ty_pl102_1, ty_pl102_0, ty_st102, ty_br99, ty_fl102_0, ty_zr102, ty_by102, ty_im102_0, ty_br97, ty_br98, ty_pl127_2, ty_pl127_0, ty_st127, ty_zr127, ty_it5, ty_sz5, ty_el52, ty_br96, ty_br95, ty_pl125_1, ty_pl125_0, ty_st125, ty_zr125, ty_el36, ty_br94, ty_br93, ty_br92, ty_sl36, ty_br91, ty_pl86_1, ty_pl86_0, ty_st86, ty_br90, ty_sl43, ty_br89, ty_pl26_2, ty_el43, ty_by26, ty_im26_1, ty_pl26_1, ty_pl26_0, ty_st26, ty_pl45_0, ty_br87, ty_br88, ty_im3_6, ty_br86, ty_fl73_1, ty_fl73_0, ty_br85, ty_sl69, ty_im73_1, ty_im73_0, ty_br84, ty_fl71_3, ty_fl71_2, ty_fl71_1, ty_fl71_0, ty_br83, ty_br82, ty_pl73_0, ty_st73, ty_sz71, ty_el116, ty_by71, ty_im71_8, ty_pl71_3, ty_pl71_2, ty_pl71_1, ty_pl71_0, ty_st71, ty_zr71, ty_br81, ty_br80, ty_el113, ty_br79, ty_sz113, ty_ar113, ty_st113, ty_zr113, ty_br76, ty_br75, ty_sz112, ty_el62, ty_br74, ty_br73, ty_br72, ty_br71, ty_sl62, ty_sl57, ty_br70, ty_im3_1, ty_br69, ty_zr3, ty_el57, ty_by3, ty_im3_0, ty_br68, ty_sz102, ty_br67, ty_sz24, ty_fl102_1, ty_el54, ty_br66, ty_br65, ty_sl54, ty_br64, ty_br63, ty_sl52, ty_fl86_3, ty_fl86_2, ty_fl86_1, ty_fl86_0, ty_br62, ty_br61, ty_br60, ty_sz86, ty_sl40, ty_br59, ty_sz43, ty_fl45_1, ty_br58, ty_fl38_0, ty_br57, ty_fl45_0, ty_br56, ty_br55, ty_sz36, ty_fl38_1, ty_im86_1, ty_br54, ty_sz40, ty_br53, ty_sl79, ty_br51, ty_br52, ty_sl31, ty_el79, ty_by45, ty_im45_1, ty_br50, ty_zr40, ty_el31, ty_by40, ty_im40_1, ty_zr86, ty_el40, ty_by86, ty_im86_0, ty_br49, ty_st45, ty_br48, ty_br47, ty_br46, ty_sz69, ty_sl24, ty_br45, ty_br43, ty_br44, ty_br42, ty_fl23_3, ty_fl23_2, ty_fl23_1, ty_fl23_0, ty_zr26, ty_br41, ty_im69_1, ty_sz73, ty_br39, ty_br40, ty_fl26_2, ty_fl26_3, ty_fl26_1, ty_by73, ty_zr73, ty_el69, ty_it68, ty_it3, ty_sz3, ty_fl26_0, ty_br38, ty_sz26, ty_zr69, ty_el24, ty_by69, ty_im69_0, ty_br37, ty_br35, ty_br36, ty_br34, ty_br33, ty_br32, ty_br31, ty_br30, ty_br29, ty_br28, ty_br27, ty_br26, ty_br25, ty_br24, ty_bt4, ty_br23, ty_br22, ty_sz45, ty_zr45, ty_br20, ty_br21, ty_br19, ty_sz38, ty_br18, ty_br17, ty_br16, ty_br15, ty_br14, ty_bt3, ty_br13, ty_br12, ty_br11, ty_br10, ty_br8, ty_br9, ty_sz23, ty_fz
/- Encodings of the program's types; printed. -/
namespace Go.Proofs.Ytoleoojcodlciaa
open Go.RowKit
set_option maxRecDepth 100000
set_option linter.unusedVariables false
set_option linter.unusedSimpArgs false
set_option linter.defProp false
set_option maxHeartbeats 4000000
theorem FM : Try.prog.follows .mixedOrders = true := by kernel_rfl
def EIIII (q : Int × Int × Int × Int) : List AV := [.int .i64 q.1, .int .i64 q.2.1, .int .i64 q.2.2.1, .int .i64 q.2.2.2]
theorem EIIIIl : ∀ q, (EIIII q).length = 4 := fun _ => rfl
theorem EIIIIe (q : Int × Int × Int × Int) : EIIII q = [.int .i64 q.1, .int .i64 q.2.1, .int .i64 q.2.2.1, .int .i64 q.2.2.2] := (rfl)
theorem EIIIIf : ∀ l, (∀ c ∈ encL EIIII l, Free c) = True := free_enc fun q => by simp only [EIIIIe, AL, and_self]
def EI (q : Int) : List AV := [.int .i64 q]
theorem EIl : ∀ q, (EI q).length = 1 := fun _ => rfl
theorem EIe (q : Int) : EI q = [.int .i64 q] := (rfl)
theorem EIf : ∀ l, (∀ c ∈ encL EI l, Free c) = True := free_enc fun q => by simp only [EIe, AL, and_self]
def EILIIIIE (q : Int × List (Int × Int × Int × Int)) : List AV := [.int .i64 q.1, .sl (encL EIIII q.2) q.2.length]
theorem EILIIIIEl : ∀ q, (EILIIIIE q).length = 2 := fun _ => rfl
theorem EILIIIIEe (q : Int × List (Int × Int × Int × Int)) : EILIIIIE q = [.int .i64 q.1, .sl (encL EIIII q.2) q.2.length] := (rfl)
def ELIIIIE (q : List (Int × Int × Int × Int)) : List AV := [.sl (encL EIIII q) q.length]
theorem ELIIIIEl : ∀ q, (ELIIIIE q).length = 1 := fun _ => rfl
theorem ELIIIIEe (q : List (Int × Int × Int × Int)) : ELIIIIE q = [.sl (encL EIIII q) q.length] := (rfl)
def EN := (And.intro (And.intro @EIIIIe @EIe) (And.intro @EILIIIIEe @ELIIIIEe))
def EF := (And.intro @EIIIIf @EIf)
theorem pe_LIIIIE {R : Nat → Option Row} {k : Nat} {le : List (List (Int × Int × Int × Int))} (h : FamAt 86 4 EIIII k le R) : (ownF k le).map (pass0 [] R) = encL ELIIIIE le := pass_own (fun _ => rfl) h
def FX := (And.intro (And.intro (And.intro (And.intro @ownF_len @ownF_nil) (And.intro @rowsL_len @rowsL_ren)) (And.intro (And.intro @ownF_ren @add_lt) (And.intro @cv_same (And.intro @cv_push @cv_push1)))) (And.intro (And.intro (And.intro @gfam_at @famAt_upd') (And.intro @famAt_add' (And.intro @famAt_nil' @upd_fam'))) (And.intro (And.intro @gfam_lt @noneFrom_upd) (And.intro @noneFrom_0 (And.intro @noneFrom_1 @pe_LIIIIE)))))
theorem lap_n {α : Type} (m : List α) : List.append [] m = m := (rfl)
theorem lap_c {α : Type} (a : α) (l m : List α) : List.append (a :: l) m = a :: List.append l m := (rfl)
def EV := And.intro (And.intro @lap_n @lap_c) (And.intro AE (And.intro TY (And.intro EN FX)))
abbrev LQ := List (Int × Int × Int × Int)
abbrev LF := List (Int × Int × Int × Int × Int)
theorem le_d {n m : Nat} (h : Nat.ble n m = true) : n ≤ m := Nat.le_of_ble_eq_true h
theorem no_j {n : Nat} {p : Nat → Prop} (h : Nat.ble n 0 = true) : ∀ j, j < n → p j := fun j hj => absurd (Nat.lt_of_lt_of_le hj (Nat.le_of_ble_eq_true h)) (Nat.not_lt_zero _)
def RSS := (And.intro (And.intro (And.intro (And.intro (And.intro (And.intro @Try.results7 @Try.results15) (And.intro @Try.results20 (And.intro @Try.results22 @Try.results23))) (And.intro (And.intro @Try.results26 (And.intro @Try.results27 @Try.results34)) (And.intro @Try.results35 (And.intro @Try.results36 @Try.results37)))) (And.intro (And.intro (And.intro @Try.results38 (And.intro @Try.results40 @Try.results42)) (And.intro @Try.results44 (And.intro @Try.results49 @Try.results50))) (And.intro (And.intro @Try.results51 (And.intro @Try.results52 @Try.results53)) (And.intro @Try.results54 (And.intro @Try.results56 @Try.results57))))) (And.intro (And.intro (And.intro (And.intro @Try.results59 (And.intro @Try.results60 @Try.results71)) (And.intro @Try.results72 (And.intro @Try.results73 @Try.results74))) (And.intro (And.intro @Try.results75 (And.intro @Try.results76 @Try.results77)) (And.intro @Try.results78 (And.intro @Try.results79 @Try.results80)))) (And.intro (And.intro (And.intro @Try.results81 (And.intro @Try.results83 @Try.results84)) (And.intro @Try.results86 (And.intro @Try.results87 @Try.results88))) (And.intro (And.intro @Try.results89 (And.intro @Try.results90 @Try.results91)) (And.intro @Try.results92 (And.intro @Try.results93 @Try.results94)))))) (And.intro (And.intro (And.intro (And.intro (And.intro @Try.results95 @Try.results105) (And.intro @Try.results106 (And.intro @Try.results107 @Try.results108))) (And.intro (And.intro @Try.results109 (And.intro @Try.results110 @Try.results111)) (And.intro @Try.results113 (And.intro @Try.results115 @Try.results116)))) (And.intro (And.intro (And.intro @Try.results117 (And.intro @Try.results118 @Try.results119)) (And.intro @Try.results120 (And.intro @Try.results121 @Try.results122))) (And.intro (And.intro @Try.results133 (And.intro @Try.results134 @Try.results135)) (And.intro @Try.results136 (And.intro @Try.results137 @Try.results138))))) (And.intro (And.intro (And.intro (And.intro @Try.results139 (And.intro @Try.results140 @Try.results141)) (And.intro @Try.results142 (And.intro @Try.results143 @Try.results155))) (And.intro (And.intro @Try.results156 (And.intro @Try.results157 @Try.results158)) (And.intro @Try.results159 (And.intro @Try.results166 @Try.results167)))) (And.intro (And.intro (And.intro @Try.results168 (And.intro @Try.results169 @Try.results170)) (And.intro @Try.results171 (And.intro @Try.results172 @Try.results173))) (And.intro (And.intro @Try.results178 (And.intro @Try.results179 @Try.results180)) (And.intro @Try.results181 (And.intro @Try.results182 @Try.results185)))))))
section
variable {C : Ctx} {Q : Exit → St → Prop} {T : Nat → AV} {R : Nat → Option Row} {b n : Nat} {ops : List Oper} {st : St}
theorem AR {id : Nat} {draw : Bool} {y : Code} (hC : C.N = n) (h : ∀ K : St → Prop, (∀ T' R' b', AW Try.prog C y (St.mk T' R' (b + 1024)) Q → K (St.mk T' R' b')) → aRun Try.prog BR ops b 0 ops (St.mk T R b) K) (hN : dstB n ops.toArray = true := by kernel_rfl) (hB : (!draw || regB BR ops.toArray) = true := by kernel_rfl) :
    AW Try.prog C (.seq (.region id ops.toArray draw) y) (St.mk T R b) Q := AW_rs (BR := BR) FM (by rw [hC]; exact hN) hB h
theorem AS {id : Nat} {draw : Bool} (hC : C.N = n) (h : ∀ K : St → Prop, (∀ T' R' b', Q .normal (St.mk T' R' (b + 1024)) → K (St.mk T' R' b')) → aRun Try.prog BR ops b 0 ops (St.mk T R b) K) (hN : dstB n ops.toArray = true := by kernel_rfl) (hB : (!draw || regB BR ops.toArray) = true := by kernel_rfl) :
    AW Try.prog C (.region id ops.toArray draw) (St.mk T R b) Q := AW_re (BR := BR) FM (by rw [hC]; exact hN) hB h
theorem AJ {id : Nat} {draw : Bool} {y : Code} (J : St → Prop) (hC : C.N = n) (h : ∀ K : St → Prop, (∀ T' R' b', cutK C J (St.mk T' R' b') → K (St.mk T' R' b')) → aRun Try.prog BR ops b 0 ops (St.mk T R b) K) (h2 : ∀ S, J S → AW Try.prog C y S Q) (hN : dstB n ops.toArray = true := by kernel_rfl) (hB : (!draw || regB BR ops.toArray) = true := by kernel_rfl) :
    AW Try.prog C (.seq (.region id ops.toArray draw) y) (St.mk T R b) Q := AW_rsJ (BR := BR) J FM (by rw [hC]; exact hN) hB h h2
theorem SO {f : FuncId} {fn : Func} {c : Code} {args : List AV} {mem mem' : List Row} {ret : AV} (hf : Try.prog.funcs[f]? = some fn) (hb : fn.body = some c) (hn : fn.ntmps = n)
    (h : ∀ C : Ctx, C.N = n → (∀ s, mem.length ≤ s → C.ρ0 s = none) → AW Try.prog C c (st0 args mem) (fun e st' => (e = .normal ∨ e = .ret) ∧ EndA Try.prog fn mem.length ret mem' st')) (hcl : callable Try.prog f = true := by kernel_rfl)
    (hl : args.length ≤ n := by simp only [List.length_cons, List.length_nil, Nat.reduceAdd, Nat.reduceLeDiff]) : Spec Try.prog f args mem ret mem' := spec_of hf hb hcl (hn ▸ hl) fun C hN hρ => h C (hN.trans hn) hρ
theorem AB {β : Type} {c : Operand} {x y : Code} {d : Bool} {X Y : Option β} {r : β} (h : br d X Y = some r) (ht : d = true → X = some r → AW Try.prog C x st Q) (hf : d = false → Y = some r → AW Try.prog C y st Q) (hc : st.ev c = .bool d := by simp only [EV, seval]) :
    AW Try.prog C (.cond c x y) st Q := AW_condK hc (brK h ht hf)
theorem AK {c : Code} (h : AW Try.prog C c st Q) : AW Try.prog C c st Q := h
theorem EQ {k : Nat} {fn : Func} {ret : AV} {mem' : List Row} (ids : List Nat) (h : endR Try.prog st fn.results.toList k ids ret mem' := by simp only [EV, RSS, seval]) (hnd : nodB ids = true := by kernel_rfl)
    (hk : upB k (fun j => match ids[j]? with | some i => i == j | none => false) = true := by kernel_rfl) : (Exit.ret = .normal ∨ Exit.ret = .ret) ∧ EndA Try.prog fn k ret mem' st := end_q ids (.inr rfl) hnd hk h
theorem AX {k b' : Nat} (lt : List (Nat × AV)) (lr : List (Nat × Row)) (G : List (Nat × Option Nat)) (fz : List Nat) (hρ : ∀ s, k ≤ s → C.ρ0 s = none) (h : Q .ret ⟨mkT lt, mkR lr, b'⟩)
    (hG : gOK k G fz (lr.map fun x => (x.1, x.2.solid)) = true := by kernel_rfl) (hT : leT (lk G) (fzF fz R) T lt := by simp only [AL, EV, seval]) (hR : leR (lk G) (fzF fz R) R lr := by simp only [AL, EV, seval]) : AW Try.prog C .ret ⟨T, R, b⟩ Q :=
  AW_le (Le_can (b' := b') G fz hρ hG hT hR) (AW_ret h)
theorem AC {J : St → Prop} {k b' : Nat} {lt : List (Nat × AV)} {lr : List (Nat × Row)} (hJ : J ⟨mkT lt, mkR lr, b'⟩) (G : List (Nat × Option Nat)) (fz : List Nat) (hρ : ∀ s, k ≤ s → C.ρ0 s = none) (hG : gOK k G fz (lr.map fun x => (x.1, x.2.solid)) = true := by kernel_rfl)
    (hT : leT (lk G) (fzF fz R) T lt := by simp only [AL, EV, seval]) (hR : leR (lk G) (fzF fz R) R lr := by simp only [AL, EV, seval]) : cutK C J ⟨T, R, b⟩ := cutL hJ (Le_can G fz hρ hG hT hR)
theorem AN {id b' : Nat} {draw : Bool} {y : Code} {T' : Nat → AV} {R' : Nat → Option Row} (hC : C.N = n) (h : AW Try.prog C y (St.mk T' R' (b + 1024)) Q) (he : ∀ K : St → Prop, K (St.mk T' R' b') → aRun Try.prog BR ops b 0 ops (St.mk T R b) K := by intro K h; simp only [EV, seval]; exact h) (hN : dstB n ops.toArray = true := by kernel_rfl) (hB : (!draw || regB BR ops.toArray) = true := by kernel_rfl) :
    AW Try.prog C (.seq (.region id ops.toArray draw) y) (St.mk T R b) Q := AR hC (fun K hK => he K (hK _ _ _ h)) hN hB
theorem AZ {id b' : Nat} {draw : Bool} {T' : Nat → AV} {R' : Nat → Option Row} (hC : C.N = n) (h : Q .normal (St.mk T' R' (b + 1024))) (he : ∀ K : St → Prop, K (St.mk T' R' b') → aRun Try.prog BR ops b 0 ops (St.mk T R b) K := by intro K h; simp only [EV, seval]; exact h) (hN : dstB n ops.toArray = true := by kernel_rfl) (hB : (!draw || regB BR ops.toArray) = true := by kernel_rfl) :
    AW Try.prog C (.region id ops.toArray draw) (St.mk T R b) Q := AS hC (fun K hK => he K (hK _ _ _ h)) hN hB
theorem CP {BR : Nat → Bool} {i : Nat} {bs : Nat} {l : List Oper} {K : St → Prop} {f : FuncId} {args args' : List AV} {dst : Option Tmp} {ret : AV} {mem' : List Row} (hS : Spec Try.prog f args' [] ret mem')
    (hK : aRun Try.prog BR ops bs (i + 1) l (({ st with rows := addRows st.rows (bs + 16 * i) (mem'.map (Row.ren (mId [] (bs + 16 * i)))) } : St).put dst (ren3 (mId [] (bs + 16 * i)) ret)) K)
    (ha : cvA (args.map (pass2 [] fun _ => none)) args' := by simp only [AL, EV, seval]) (hl : mem'.length ≤ 16 := by exact le_d rfl) (hs : ∀ j, j < mem'.length → st.rows (bs + 16 * i + j) = none := by exact no_j rfl) :
    rC Try.prog BR ops bs i l st K f args dst := rC_p hS ha hl hs hK
theorem AP {id b' : Nat} {draw : Bool} {y : Code} {T' : Nat → AV} {R' : Nat → Option Row} {f : FuncId} {args' : List AV} {ret : AV} {mem' : List Row} (hC : C.N = n) (hS : Spec Try.prog f args' [] ret mem') (h : AW Try.prog C y (St.mk T' R' (b + 1024)) Q) (he : ∀ K : St → Prop, Spec Try.prog f args' [] ret mem' → K (St.mk T' R' b') → aRun Try.prog BR ops b 0 ops (St.mk T R b) K := by intro K hS h; simp only [EV, seval]; refine CP hS ?_; simp only [EV, seval]; exact h) (hN : dstB n ops.toArray = true := by kernel_rfl) (hB : (!draw || regB BR ops.toArray) = true := by kernel_rfl) :
    AW Try.prog C (.seq (.region id ops.toArray draw) y) (St.mk T R b) Q := AR hC (fun K hK => he K hS (hK _ _ _ h)) hN hB
end
end Go.Proofs.Ytoleoojcodlciaa
/- impl.IsValidGate's contract for the engine, from its walk. -/
namespace Go.Proofs.Ytoleoojcodlciaa
open Go.RowKit Pop
set_option maxRecDepth 100000
set_option linter.unusedVariables false
set_option linter.unusedSimpArgs false
def i_IsValidGate (a1 a2 a3 a4 a5 : Int) : Option Bool := some (ivg a1 a2 a3 a4 a5)
theorem i_IsValidGate_ok {a1 a2 a3 a4 a5 : Int} {r : Bool} (h : i_IsValidGate a1 a2 a3 a4 a5 = some r) :
    Spec Try.prog 76 [.agg [.int .i64 a1, .int .i64 a2, .int .i64 a3, .int .i64 a4], .int .i64 a5] [] (.bool r) [] := by
  injection h with h
  subst h
  exact spec_lift (by kernel_rfl) rfl (fun M ρ => .plain (.bool _)) (fun w => ivg_any a1 a2 a3 a4 a5 w)
#print axioms i_IsValidGate_ok
end Go.Proofs.Ytoleoojcodlciaa
/- The engine: an own slice cut short (s = s[:k]) in a region whose order is not drawn. Over any program. -/
namespace Go.Proofs.Ytoleoojcodlciaa
open Go.RowKit
set_option maxRecDepth 100000
set_option linter.unusedVariables false
set_option linter.unusedSimpArgs false
section
variable {P : Program} {BR : Nat → Bool} {C : Ctx} {M : Imm} {ρ : Plc} {st : St} {a : Act} {w : World}
theorem ownsRow_take {w : World} {base : Nat} {e : TypeId} {sz g cap n k : Nat} {xs : List Value} (h : w.ownsRow base e sz (.slice (some ⟨g, 0, none⟩) n cap) n xs) (hk : k ≤ n) :
    w.ownsRow base e sz (.slice (some ⟨g, 0, none⟩) k cap) k (xs.take (k * sz)) := by
  obtain ⟨h1, h2⟩ := h
  have hm : k * sz ≤ n * sz := Nat.mul_le_mul_right _ hk
  rcases h2 with ⟨h0, _⟩ | ⟨g', cap', cur, hv, hb, hg, hn, hcap, hsz, htake⟩
  · cases h0
  · cases hv
    refine ⟨by rw [List.length_take]; omega, .inr ⟨g, cap, cur, rfl, hb, hg, by omega, hcap, hsz, ?_⟩⟩
    rw [← htake, List.take_take, Nat.min_eq_left hm]
theorem trunc_ok {o : Oper} {t : TypeId} {x hi : Operand} (hop : o.op = .slice t x none (some hi) none) {e : TypeId} {sz' : Nat} (he : elA P t = some (e, sz')) {site s n : Nat} {E : TypeId} {sz : Nat} {cs : List AV} {k : Int}
    (hx : st.ev x = .own s n) (hh : st.ev hi = .int .i64 k) (hk : 0 ≤ k ∧ k < n) (hr : st.rows s = some (.row E sz cs)) (hs : st.rows site = none) (hR : Rel C M ρ st a w) (hd : ∀ k, o.dst = some k → k < C.N) :
    ∃ z ρ', (execOp a.eval o).run P w = .ok (.value z) w ∧ Rel C M ρ' (({ st with rows := upd (upd st.rows s (some .gone)) site (some (.row E sz (cs.take (k.toNat * sz)))) } : St).put o.dst (.own site k.toNat)) (a.put o.dst z) w := by
  have ex := hR.ev x
  rw [hx] at ex
  have eh := hR.ev hi
  rw [hh] at eh
  have eh := eh.int_inv
  obtain ⟨g, cap, ⟨hρ, hv⟩ | ⟨_, hn, _⟩⟩ := ex.own_inv
  rotate_left
  · omega
  obtain ⟨y, hy, hY⟩ := hR.mr.row s _ hr rfl
  rw [hρ] at hy; injection hy with hy; subst hy
  rcases hY with ⟨hn1, _⟩ | ⟨_, xs, h1, h2, h3, h4⟩
  · cases hn1
  simp only at h1
  obtain ⟨inf, hu, hinf, hsz⟩ := elA_inv he
  have hcap : n ≤ cap := by
    rcases h1.2 with ⟨h0, _⟩ | ⟨g', cap', cur, hv', _, _, hn, _⟩
    · cases h0
    · cases hv'; exact hn
  have h1' := ownsRow_take h1 (k := k.toNat) (by omega)
  have hsx : s ≠ site := fun e => by rw [e, hs] at hr; cases hr
  have bnd : (Instr.sliceBounds true n cap (none : Option Value) (some (.int .i64 k)) none).run P w = .ok (0, k.toNat, cap) w := by
    have c1 : k ≤ (cap : Int) := by omega
    simp [Instr.sliceBounds, Instr.sliceBound, asIntOf, c1, hk.1]
  have hrun : (execOp a.eval o).run P w = .ok (.value (.slice (some ⟨g, 0, none⟩) k.toNat cap)) w := by
    have h0 : Instr.sliceAt t (.slice (some ⟨g, 0, none⟩) n cap) none (some (.int .i64 k)) none = (do
                    match ← underlying t with
                    | .array n' elem =>
                      let a ← Instr.sureAddr (.slice (some ⟨g, 0, none⟩) n cap)
                      let (l, h, m) ← Instr.sliceBounds false n' n' none (some (.int .i64 k)) none
                      let size ← sizeOf elem
                      pure (.slice (some (if m = l then a else a.add (l * size))) (h - l) (m - l))
                    | _ => Instr.slice t (.slice (some ⟨g, 0, none⟩) n cap) none (some (.int .i64 k)) none) := rfl
    have hsl : (Instr.sliceAt t (.slice (some ⟨g, 0, none⟩) n cap) none (some (.int .i64 k)) none).run P w = .ok (.slice (some ⟨g, 0, none⟩) k.toNat cap) w := by
      have hc0 : ¬ cap = 0 := by omega
      simp [h0, Instr.sliceAt, run_underlying hu, Instr.slice, bnd, sizeOf, typeInfo, hinf, hsz, hc0, Addr.add]
    unfold execOp
    simp [hop, hv, eh, hsl]
  have hgone := hR.set (r' := .gone) (w' := w) hr rfl hρ rfl ⟨rfl, rfl, rfl, Nat.le_refl _, fun _ _ _ => rfl⟩ (fun h => by cases h)
  have hA := hgone.addAt (s := site) (r := .row E sz (cs.take (k.toNat * sz))) (x := ⟨g, k.toNat, cap, false⟩) (by show upd st.rows s (some .gone) site = none; rw [upd_ne _ _ (Ne.symm hsx)]; exact hs)
    (fun _ => .inr ⟨rfl, xs.take (k.toNat * sz), h1', by rw [List.length_take, List.length_take, h2], fun v hv => h3 v (List.mem_of_mem_take hv), fun i c q hc hq => by
      rw [List.getElem?_take] at hc hq
      split at hc
      · rename_i hi'; rw [if_pos hi'] at hq; exact h4 i c q hc hq
      · cases hc⟩) (fun j q y hj hq hy hn1 _ => by
      have hj : upd st.rows s (some .gone) j = some q := hj
      have hjk : j ≠ s := fun e => by rw [e, upd_same] at hj; injection hj with hj; subst hj; cases hq
      rw [upd_ne _ _ hjk] at hj
      have hne := hR.mr.inj j s q _ y _ hj hr hq rfl hy hρ hjk hn1 rfl
      simp only at hne ⊢
      exact hne) (fun b o v hM _ => by
      have hne := hR.mr.apt b o v s _ _ hM hr rfl hρ rfl
      simp only at hne ⊢
      exact hne) (fun _ => by
      have := hR.new s _ _ hr rfl hρ rfl
      exact this)
  exact ⟨_, _, hrun, hA.put (.own site g k.toNat cap (upd_same _ _ _)) hd⟩
theorem aSeq_opsK {ops : Array Oper} (hN : dstB C.N ops = true) {Q : Exit → Act → World → Prop} {K : St → Prop} (L2 : List Nat) (hK : ∀ st' M' ρ' a' w', K st' → Rel C M' ρ' st' a' w' → wpOps P ops Q L2 a' w') :
    ∀ (L : List Nat) (bs : Nat) (st : St) (M : Imm) (ρ : Plc) (a : Act) (w : World), aSeq P BR ops bs L st K → Rel C M ρ st a w → wpOps P ops Q (L ++ L2) a w
  | [], bs, st, M, ρ, a, w, h, hR => hK _ _ _ _ _ h hR
  | i :: L, bs, st, M, ρ, a, w, h, hR => by
    obtain ⟨o, st', ho, hg, h⟩ := h
    rw [List.cons_append, wpOps_cons]
    exact gst_ok ho hg hR (dstB_spec hN ho) (fun M' ρ' a' w' hR' => aSeq_opsK hN L2 hK L bs st' M' ρ' a' w' h hR')
theorem aRun_seq2 {ops : List Oper} {bs : Nat} {K : St → Prop} : ∀ (l : List Oper) (i : Nat) (st : St), (∀ j, j < l.length → l[j]? = ops[i + j]?) → aRun P BR ops bs i l st K → aSeq P BR ops.toArray bs (List.range' i l.length) st K
  | [], i, st, _, h => h
  | o :: l, i, st, hl, h => by
    obtain ⟨st', h1, h2⟩ := aG_gst h
    have h0 : ops[i]? = some o := by simpa using (hl 0 (by simp)).symm
    rw [List.length_cons, List.range'_succ]
    exact ⟨o, st', by simpa using h0, h1, aRun_seq2 l (i + 1) st' (fun j hj => by have := hl (j + 1) (by simpa using hj); simpa [Nat.add_assoc, Nat.add_comm 1 j] using this) h2⟩
/-- The step that cuts. -/
def trK (site : Nat) (x hi : Operand) (dst : Option Tmp) (st : St) (K : St → Prop) : Prop :=
  ∃ s n E sz cs k, st.ev x = .own s n ∧ st.ev hi = .int .i64 k ∧ (0 ≤ k ∧ k < (n : Int)) ∧ st.rows s = some (.row E sz cs) ∧ st.rows site = none ∧
    K (({ st with rows := upd (upd st.rows s (some .gone)) site (some (.row E sz (cs.take (k.toNat * sz)))) } : St).put dst (.own site k.toNat))
theorem trK_mk {α : Type} {e : α → List AV} {sz : Nat} {l v : List α} {k : Int} {site s : Nat} {x hi : Operand} {dst : Option Tmp} {K : St → Prop} {E : TypeId} (he : ∀ x, (e x).length = sz) (hq : slc l 0 k = some v) (hlt : k < (l.length : Int))
    (hx : st.ev x = .own s l.length) (hh : st.ev hi = .int .i64 k) (hr : st.rows s = some (.row E sz (encL e l))) (hs : st.rows site = none)
    (hK : K (({ st with rows := upd (upd st.rows s (some .gone)) site (some (.row E sz (encL e v))) } : St).put dst (.own site v.length))) : trK site x hi dst st K := by
  obtain ⟨⟨h1, h2, h3⟩, h4, h5⟩ := slc_E he hq
  refine ⟨s, l.length, E, sz, encL e l, k, hx, hh, ⟨h2, hlt⟩, hr, hs, ?_⟩
  have e0 : k.toNat = v.length := by simpa using h5
  have e1 : (encL e l).take (k.toNat * sz) = encL e v := by rw [e0]; simpa using h4
  rw [e1, e0]
  exact hK
theorem AW_trunc {Q : Exit → St → Prop} {id : Nat} {y : Code} {ops : List Oper} (l1 : List Oper) (o : Oper) (l2 : List Oper) {t : TypeId} {x hi : Operand} {T : Nat → AV} {R : Nat → Option Row} {b : Nat} (site i1 : Nat) (hsite : site = b + 16 * l1.length) (hi1 : i1 = l1.length + 1) (hops : ops = l1 ++ o :: l2) (hg : o.guard = none) (hop : o.op = .slice t x none (some hi) none) {e : TypeId} {sz' : Nat} (he : elA P t = some (e, sz'))
    (hN : dstB C.N ops.toArray = true)
    (h : ∀ K : St → Prop, (∀ T' R' b', AW P C y (St.mk T' R' (b + 1024)) Q → K (St.mk T' R' b')) → aRun P BR ops b 0 l1 (St.mk T R b) fun st1 => trK site x hi o.dst st1 fun st2 => aRun P BR ops b i1 l2 st2 K) :
    AW P C (.seq (.region id ops.toArray false) y) (St.mk T R b) Q := AW_seq fun M ρ a w hR => by
  subst hsite hi1
  have h := h (fun st' => AW P C y (St.mk st'.tmps st'.rows (b + 1024)) Q) (fun T' R' b' h => h)
  have hlen : ops.length = l1.length + (1 + l2.length) := by rw [hops]; simp; omega
  have e1 : List.range ops.toArray.size = List.range' 0 l1.length ++ (l1.length :: List.range' (l1.length + 1) l2.length) := by
    rw [List.size_toArray, List.range_eq_range', hlen, ← List.range'_append_1, Nat.zero_add, Nat.add_comm 1, List.range'_succ]
  refine wp_region ?_
  rw [e1]
  have s1 := aRun_seq2 l1 0 _ (fun j hj => by rw [hops, Nat.zero_add, List.getElem?_append_left hj]) h
  refine aSeq_opsK (K := fun st1 => trK (b + 16 * l1.length) x hi o.dst st1 fun st2 => aRun P BR ops b (l1.length + 1) l2 st2 _) hN _ (fun st1 M1 ρ1 a1 w1 ht hR1 => ?_) _ _ _ M ρ a w s1 hR
  obtain ⟨s, n, E, sz, cs, k, hx, hh, hk, hr, hs, h2⟩ := ht
  have ho : ops.toArray[l1.length]? = some o := by rw [hops]; simp
  obtain ⟨z, ρ', hu, hU⟩ := trunc_ok hop he hx hh hk hr hs hR1 (dstB_spec hN ho)
  rw [wpOps_cons]
  unfold wpOp
  simp only [ho]
  have hw : Region.wanted o (yielded ops.toArray a1.tmps) = true := by simp [Region.wanted, hg]
  rw [if_pos hw]
  refine .inl ?_
  unfold Oper.wp
  rw [hu]
  have s2 := aRun_seq2 l2 (l1.length + 1) _ (fun j hj => by
    rw [hops, List.getElem?_append_right (by omega), show l1.length + 1 + j - l1.length = j + 1 by omega, List.getElem?_cons_succ]) h2
  refine aSeq_ops hN (Q := fun e a' w' => ∃ st' M' ρ', thenA (fun st' => AW P C y st' Q) Q e st' ∧ Rel C M' ρ' st' a' w') (fun st' M' ρ' a' w' h1 h2 => ?_) _ _ _ _ _ _ _ s2 hU
  exact ⟨St.mk st'.tmps st'.rows (b + 1024), M', ρ', h1, h2.next _⟩
end
end Go.Proofs.Ytoleoojcodlciaa
/- How arguments of the statements are opened: slices read as lists. -/
namespace Go.Proofs.Ytoleoojcodlciaa
open Go.RowKit Go.Lib
set_option linter.unusedVariables false
set_option linter.unusedSimpArgs false
abbrev Quad := Int × Int × Int × Int
def qc (q : Quad) : List Value := [.int .i64 q.1, .int .i64 q.2.1, .int .i64 q.2.2.1, .int .i64 q.2.2.2]
def qcs (l : List Quad) : List Value := l.flatMap qc

theorem qcs_nil : qcs [] = [] := rfl
theorem qcs_cons (q : Quad) (l : List Quad) : qcs (q :: l) = qc q ++ qcs l := rfl
theorem qcs_append (l m : List Quad) : qcs (l ++ m) = qcs l ++ qcs m := by simp [qcs]
theorem qcs_length (l : List Quad) : (qcs l).length = l.length * 4 := by
  induction l with
  | nil => rfl
  | cons q l ih => rw [qcs_cons, List.length_append, ih, List.length_cons]; simp [qc]; omega
theorem qcs_get (l : List Quad) : ∀ (i j : Nat) (q : Quad), l[i]? = some q → j < 4 → (qcs l)[i * 4 + j]? = (qc q)[j]? := by
  induction l with
  | nil => intro i j q h; simp at h
  | cons p l ih =>
    intro i j q h hj
    rw [qcs_cons]
    cases i with
    | zero =>
      simp at h; subst h
      rw [Nat.zero_mul, Nat.zero_add, List.getElem?_append_left (by simp [qc]; omega)]
    | succ i =>
      rw [List.getElem?_append_right (by simp [qc]; omega)]
      rw [show (i + 1) * 4 + j - (qc p).length = i * 4 + j by simp [qc]; omega]
      exact ih i j q (by simpa using h) hj
theorem qcs_one (l : List Quad) : ∀ u ∈ qcs l, u.oneCell' = true := by
  intro u hu
  simp only [qcs, List.mem_flatMap] at hu
  obtain ⟨q, _, hq⟩ := hu
  simp only [qc, List.mem_cons, List.not_mem_nil, or_false] at hq
  rcases hq with rfl | rfl | rfl | rfl <;> rfl

/-- The slice that begins at A and has n elements reads as the list l. -/
def SlQ (w : World) (A : Option Addr) (n : Nat) (l : List Quad) : Prop :=
  l.length = n ∧ (0 < n → ∃ b off, A = some ⟨b, off, none⟩ ∧ b < w.heap.size ∧ ∀ (i : Nat) (q : Quad), l[i]? = some q →
    w.cell? ⟨b, off + i * 4, none⟩ = some (.int .i64 q.1) ∧ w.cell? ⟨b, off + i * 4 + 1, none⟩ = some (.int .i64 q.2.1) ∧
    w.cell? ⟨b, off + i * 4 + 2, none⟩ = some (.int .i64 q.2.2.1) ∧ w.cell? ⟨b, off + i * 4 + 3, none⟩ = some (.int .i64 q.2.2.2))

theorem SlQ.at {w : World} {A : Option Addr} {n k : Nat} {l : List Quad} (h : SlQ w A n l) (hk : k < n) :
    ∃ (b off : Nat) (q0 q1 q2 q3 : Int), A = some ⟨b, off, none⟩ ∧ b < w.heap.size ∧ Hid (l[k]? = some (q0, q1, q2, q3)) ∧
      w.cell? ⟨b, off + k * 4, none⟩ = some (.int .i64 q0) ∧ w.cell? ⟨b, off + k * 4 + 1, none⟩ = some (.int .i64 q1) ∧
      w.cell? ⟨b, off + k * 4 + 2, none⟩ = some (.int .i64 q2) ∧ w.cell? ⟨b, off + k * 4 + 3, none⟩ = some (.int .i64 q3) := by
  obtain ⟨b, off, hA, hb, hc⟩ := h.2 (by omega)
  have hl : k < l.length := by rw [h.1]; exact hk
  obtain ⟨c0, c1, c2, c3⟩ := hc k _ (List.getElem?_eq_getElem hl)
  exact ⟨b, off, l[k].1, l[k].2.1, l[k].2.2.1, l[k].2.2.2, hA, hb, hid (List.getElem?_eq_getElem hl), c0, c1, c2, c3⟩

theorem SlQ.keep {w w' : World} {A : Option Addr} {n : Nat} {l : List Quad} (h : SlQ w A n l) (hs : w.heap.size ≤ w'.heap.size)
    (hk : ∀ p : Addr, p.block < w.heap.size → w'.cell? p = w.cell? p) : SlQ w' A n l :=
  ⟨h.1, fun hn => by
    obtain ⟨b, off, hA, hb, hc⟩ := h.2 hn
    refine ⟨b, off, hA, by omega, fun i q hq => ?_⟩
    obtain ⟨c0, c1, c2, c3⟩ := hc i q hq
    exact ⟨(hk _ hb).trans c0, (hk _ hb).trans c1, (hk _ hb).trans c2, (hk _ hb).trans c3⟩⟩
theorem SlQ.below {w w' : World} {A : Option Addr} {n : Nat} {l : List Quad} (h : SlQ w A n l) (hb : Below w.heap.size w w') : SlQ w' A n l :=
  h.keep hb.size fun _ hp => hb.cell hp
theorem SlQ.alloc {w : World} {A : Option Addr} {n : Nat} {l : List Quad} (h : SlQ w A n l) (o : Obj) : SlQ (w.alloc o) A n l :=
  h.below ((Below.refl _ _).alloc (Nat.le_refl _) o)
theorem SlQ.drewN {w : World} {A : Option Addr} {n : Nat} {l : List Quad} (h : SlQ w A n l) (k : Nat) : SlQ (w.drewN k) A n l := h
theorem SlQ.drew {w : World} {A : Option Addr} {n : Nat} {l : List Quad} (h : SlQ w A n l) : SlQ w.drew A n l := h
theorem SlQ.nil (w : World) (A : Option Addr) : SlQ w A 0 [] := ⟨rfl, fun h => absurd h (by omega)⟩

def SlI (w : World) (A : Option Addr) (n : Nat) (l : List Int) : Prop :=
  l.length = n ∧ (0 < n → ∃ b off, A = some ⟨b, off, none⟩ ∧ b < w.heap.size ∧ ∀ (i : Nat) (q : Int), l[i]? = some q → w.cell? ⟨b, off + i, none⟩ = some (.int .i64 q))
theorem SlI.at {w : World} {A : Option Addr} {n k : Nat} {l : List Int} (h : SlI w A n l) (hk : k < n) :
    ∃ (b off : Nat) (q : Int), A = some ⟨b, off, none⟩ ∧ b < w.heap.size ∧ Hid (l[k]? = some q) ∧ w.cell? ⟨b, off + k, none⟩ = some (.int .i64 q) := by
  obtain ⟨b, off, hA, hb, hc⟩ := h.2 (by omega)
  have hl : k < l.length := by rw [h.1]; exact hk
  exact ⟨b, off, l[k], hA, hb, hid (List.getElem?_eq_getElem hl), hc k _ (List.getElem?_eq_getElem hl)⟩
theorem SlI.keep {w w' : World} {A : Option Addr} {n : Nat} {l : List Int} (h : SlI w A n l) (hs : w.heap.size ≤ w'.heap.size)
    (hk : ∀ p : Addr, p.block < w.heap.size → w'.cell? p = w.cell? p) : SlI w' A n l :=
  ⟨h.1, fun hn => by
    obtain ⟨b, off, hA, hb, hc⟩ := h.2 hn
    exact ⟨b, off, hA, by omega, fun i q hq => (hk _ hb).trans (hc i q hq)⟩⟩
theorem SlI.below {w w' : World} {A : Option Addr} {n : Nat} {l : List Int} (h : SlI w A n l) (hb : Below w.heap.size w w') : SlI w' A n l :=
  h.keep hb.size fun _ hp => hb.cell hp
theorem SlI.alloc {w : World} {A : Option Addr} {n : Nat} {l : List Int} (h : SlI w A n l) (o : Obj) : SlI (w.alloc o) A n l :=
  h.below ((Below.refl _ _).alloc (Nat.le_refl _) o)
theorem SlI.nil (w : World) (A : Option Addr) : SlI w A 0 [] := ⟨rfl, fun h => absurd h (by omega)⟩
end Go.Proofs.Ytoleoojcodlciaa
/- Common facts for the statements of this seat: how arguments are opened. -/
namespace Go.Proofs.Ytoleoojcodlciaa
open Go.ChangeShapes Go.WideShapes Go.ChangeAt Go.RowKit Go.Joins Go.Deep
set_option linter.unusedVariables false

theorem own : ownKnob Try.prog.godebug = none := by kernel_rfl
theorem laidOut : laidOutB Try.prog = true := by kernel_rfl

/-- What a walk is told of a slice of bytes that came in. -/
def IsBytes (w : World) (A : Option Addr) (n c : Nat) (zs : List Int) : Prop :=
  n ≤ maxLen ∧ zs.length = n ∧ (∀ z ∈ zs, 0 ≤ z ∧ z ≤ 255) ∧ (0 < n → ∃ b off, A = some ⟨b, off, none⟩ ∧ b < w.heap.size ∧ ∀ i z, zs[i]? = some z → w.cell? ⟨b, off + i, none⟩ = some (.int .u8 z))

section
variable {H : Type} {enc : TypeId × Value → H} {P : Program} {w : World} {base : Nat} {spare : Nat → Bool} {held : Bool}
theorem isBytes_of_trod {t e : TypeId} {A : Option Addr} {n c : Nat} {d : DataW H} {p : List MemPlace} (ht : P.underlying t = some (.slice e)) (he : P.underlying e = some (.int .u8)) (hC : P.cellsOf e = 1)
    (h : DataW.Trod enc P w base spare held t (.slice A n c) d p) : ∃ zs, IsBytes w A n c zs := by
  obtain ⟨fuel, hf⟩ := h
  rcases open_ints ht he hC hf with ⟨hcs, _⟩ | ⟨x, l, c', zs, hcs, _, hl, hm, hz, _, hcell, hwz⟩
  · simp [Value.cells] at hcs
    obtain ⟨rfl, rfl, rfl⟩ := hcs
    exact ⟨[], by simp [maxLen], rfl, by simp, fun h => absurd h (by omega)⟩
  · simp [Value.cells] at hcs
    obtain ⟨rfl, rfl, rfl⟩ := hcs
    have hlz : n ≤ zs.length := by rw [hz]; split <;> omega
    refine ⟨zs.take n, by omega, by simp; omega, fun z hz' => ?_, fun hp => ?_⟩
    · have := hwz z (List.mem_of_mem_take hz')
      have := bounds_u8 this
      omega
    · obtain ⟨b, off, spot⟩ := x
      have h0 := hcell 0 (by omega)
      have hs : spot = none := by simpa [Addr.add] using World.cell?_spot h0
      subst hs
      refine ⟨b, off, rfl, ?_, fun i z hiz => ?_⟩
      · exact World.block_lt_of_cell? w _ (by simpa [Addr.add] using h0)
      · have hi : i < n := by
          rcases Nat.lt_or_ge i n with h' | h'
          · exact h'
          · rw [List.getElem?_eq_none (by simp; omega)] at hiz; cases hiz
        have hc := hcell i (by omega)
        rw [show (⟨b, off, none⟩ : Addr).add i = ⟨b, off + i, none⟩ from by unfold Addr.add; split <;> simp_all] at hc
        rw [hc]
        have : zs.getD i 0 = z := by
          rw [List.getElem?_take, if_pos hi] at hiz
          simp [hiz]
        rw [this]

theorem quad_of_trod {e : TypeId} {f0 f1 f2 f3 : Field} {fuel : Nat} {cs : List Value} {x : DataW H × List MemPlace} (he : P.underlying e = some (.struct #[f0, f1, f2, f3])) (hone : oneCellFields P #[f0, f1, f2, f3] = true)
    (h0 : P.underlying f0.type = some (.int .i64)) (h1 : P.underlying f1.type = some (.int .i64)) (h2 : P.underlying f2.type = some (.int .i64)) (h3 : P.underlying f3.type = some (.int .i64))
    (hl : cs.length = 4) (h : DataW.trod enc P w base spare held fuel e cs = some x) : ∃ q : Quad, cs = qc q := by
  obtain ⟨xs, n, _, hx, _, hlen, hg⟩ := DataW.trod_struct he h
  obtain ⟨o0, k0⟩ := hone_of hone 0 f0 rfl
  obtain ⟨o1, k1⟩ := hone_of hone 1 f1 rfl
  obtain ⟨o2, k2⟩ := hone_of hone 2 f2 rfl
  obtain ⟨o3, k3⟩ := hone_of hone 3 f3 rfl
  match cs, hl, xs, hlen with
  | [c0, c1, c2, c3], _, [y0, y1, y2, y3], _ =>
    have g0 := hg 0 f0 rfl
    have g1 := hg 1 f1 rfl
    have g2 := hg 2 f2 rfl
    have g3 := hg 3 f3 rfl
    simp [o0, k0] at g0
    simp [o1, k1] at g1
    simp [o2, k2] at g2
    simp [o3, k3] at g3
    obtain ⟨a0, e0, _⟩ := DataW.trod_int h0 g0
    obtain ⟨a1, e1, _⟩ := DataW.trod_int h1 g1
    obtain ⟨a2, e2, _⟩ := DataW.trod_int h2 g2
    obtain ⟨a3, e3, _⟩ := DataW.trod_int h3 g3
    simp only [List.cons.injEq, and_true] at e0 e1 e2 e3
    exact ⟨(a0, a1, a2, a3), by simp [qc, e0, e1, e2, e3]⟩

/-- What a walk is told of a slice of structs with four ints that came in. -/
def IsQuads (w : World) (A : Option Addr) (n c : Nat) (l : List Quad) : Prop := (n ≤ maxLen ∧ n ≤ c) ∧ SlQ w A n l
theorem isQuads_of_cell {t e : TypeId} {f0 f1 f2 f3 : Field} {fuel : Nat} {v : Value} {x : DataW H × List MemPlace} (ht : P.underlying t = some (.slice e)) (he : P.underlying e = some (.struct #[f0, f1, f2, f3]))
    (h3 : P.underlying f0.type = some (.int .i64) ∧ P.underlying f1.type = some (.int .i64) ∧ P.underlying f2.type = some (.int .i64) ∧ P.underlying f3.type = some (.int .i64))
    (hone : oneCellFields P #[f0, f1, f2, f3] = true) (hC : P.cellsOf e = 4)
    (h : DataW.trod enc P w base spare held fuel t [v] = some x) : ∃ A n c l, v = .slice A n c ∧ IsQuads w A n c l := by
  rcases open_slice ht h with ⟨hcs, _⟩ | ⟨a, len, cap, m, k, D, Pl, hcs, hb, hl, hm, hmm, hx, hi⟩
  · simp only [List.cons.injEq, and_true] at hcs
    exact ⟨none, 0, 0, [], hcs, ⟨by simp [maxLen], Nat.le_refl _⟩, SlQ.nil w none⟩
  · simp only [List.cons.injEq, and_true] at hcs
    have hlm : len ≤ m := by rw [hmm]; split <;> omega
    have hex : ∀ i, i < len → ∃ q : Quad, ∀ j, j < 4 → w.cell? (a.add (i * 4 + j)) = (qc q)[j]? := by
      intro i hil
      obtain ⟨cs', hc, ht'⟩ := hi i (by omega)
      rw [hC] at hc
      obtain ⟨_, hcl, hat⟩ := World.cells?_some hc
      obtain ⟨q, rfl⟩ := quad_of_trod he hone h3.1 h3.2.1 h3.2.2.1 h3.2.2.2 hcl ht'
      refine ⟨q, fun j hj => ?_⟩
      have := hat j hj
      rwa [Go.Deep.add_add] at this
    let f : Nat → Quad := fun i => if h : i < len then Classical.choose (hex i h) else (0, 0, 0, 0)
    refine ⟨some a, len, cap, (List.range len).map f, hcs, ⟨by omega, hl⟩, by simp, fun hp => ?_⟩
    obtain ⟨b, off, spot⟩ := a
    have h00 := Classical.choose_spec (hex 0 hp) 0 (by omega)
    have hs : spot = none := by
      have := World.cell?_spot (w := w) (a := (⟨b, off, spot⟩ : Addr).add (0 * 4 + 0)) (v := .int .i64 (Classical.choose (hex 0 hp)).1) (by rw [h00]; rfl)
      simpa [Addr.add] using this
    subst hs
    have hadd : ∀ i, (⟨b, off, none⟩ : Addr).add i = ⟨b, off + i, none⟩ := fun i => by unfold Addr.add; split <;> simp_all
    refine ⟨b, off, rfl, ?_, fun i q hq => ?_⟩
    · rw [hadd] at h00
      exact World.block_lt_of_cell? w _ (u := .int .i64 (Classical.choose (hex 0 hp)).1) (by rw [h00]; rfl)
    · have hil : i < len := by
        rcases Nat.lt_or_ge i len with h' | h'
        · exact h'
        · rw [List.getElem?_eq_none (by simp; omega)] at hq; cases hq
      have hqq : q = Classical.choose (hex i hil) := by
        simp only [List.getElem?_map, List.getElem?_range hil, Option.map_some, Option.some.injEq] at hq
        rw [← hq]; simp only [f, dif_pos hil]
      have hc := Classical.choose_spec (hex i hil)
      rw [← hqq] at hc
      have c0 := hc 0 (by omega)
      have c1 := hc 1 (by omega)
      have c2 := hc 2 (by omega)
      have c3 := hc 3 (by omega)
      simp only [hadd, Nat.add_zero, ← Nat.add_assoc] at c0 c1 c2 c3
      exact ⟨c0, c1, c2, c3⟩
theorem isQuads_of_trod {t e : TypeId} {f0 f1 f2 f3 : Field} {A : Option Addr} {n c : Nat} {d : DataW H} {p : List MemPlace} (ht : P.underlying t = some (.slice e)) (he : P.underlying e = some (.struct #[f0, f1, f2, f3]))
    (h3 : P.underlying f0.type = some (.int .i64) ∧ P.underlying f1.type = some (.int .i64) ∧ P.underlying f2.type = some (.int .i64) ∧ P.underlying f3.type = some (.int .i64))
    (hone : oneCellFields P #[f0, f1, f2, f3] = true) (hC : P.cellsOf e = 4)
    (h : DataW.Trod enc P w base spare held t (.slice A n c) d p) : ∃ l, IsQuads w A n c l := by
  obtain ⟨fuel, hf⟩ := h
  obtain ⟨A', n', c', l, hv, hq⟩ := isQuads_of_cell ht he h3 hone hC (by simpa [Value.cells] using hf)
  injection hv with h1 h2 h3
  subst h1 h2 h3
  exact ⟨l, hq⟩
end
end Go.Proofs.Ytoleoojcodlciaa
/- How arguments that hold slices of ints are opened: []int, NormalForm. -/
namespace Go.Proofs.Ytoleoojcodlciaa
open Go.ChangeShapes Go.WideShapes Go.ChangeAt Go.RowKit Go.Joins Go.Deep
set_option linter.unusedVariables false
/-- What a walk is told of a slice of ints that came in. -/
def IsInts (w : World) (A : Option Addr) (n c : Nat) (l : List Int) : Prop := (n ≤ maxLen ∧ n ≤ c) ∧ SlI w A n l
section
variable {H : Type} {enc : TypeId × Value → H} {P : Program} {w : World} {base : Nat} {spare : Nat → Bool} {held : Bool}
theorem isInts_of_cell {t e : TypeId} {fuel : Nat} {v : Value} {x : DataW H × List MemPlace} (ht : P.underlying t = some (.slice e)) (he : P.underlying e = some (.int .i64)) (hC : P.cellsOf e = 1)
    (h : DataW.trod enc P w base spare held fuel t [v] = some x) : ∃ A n c l, v = .slice A n c ∧ IsInts w A n c l := by
  rcases open_ints ht he hC h with ⟨hcs, _⟩ | ⟨x, n, c, zs, hcs, _, hl, hm, hz, _, hcell, hwz⟩
  · simp only [List.cons.injEq, and_true] at hcs
    exact ⟨none, 0, 0, [], hcs, ⟨by simp [maxLen], Nat.le_refl _⟩, SlI.nil w none⟩
  · simp only [List.cons.injEq, and_true] at hcs
    have hlz : n ≤ zs.length := by rw [hz]; split <;> omega
    refine ⟨some x, n, c, zs.take n, hcs, ⟨by omega, hl⟩, by simp; omega, fun hp => ?_⟩
    obtain ⟨b, off, spot⟩ := x
    have h0 := hcell 0 (by omega)
    have hs : spot = none := by simpa [Addr.add] using World.cell?_spot h0
    subst hs
    refine ⟨b, off, rfl, ?_, fun i z hiz => ?_⟩
    · exact World.block_lt_of_cell? w _ (by simpa [Addr.add] using h0)
    · have hi : i < n := by
        rcases Nat.lt_or_ge i n with h' | h'
        · exact h'
        · rw [List.getElem?_eq_none (by simp; omega)] at hiz; cases hiz
      have hc := hcell i (by omega)
      rw [show (⟨b, off, none⟩ : Addr).add i = ⟨b, off + i, none⟩ from by unfold Addr.add; split <;> simp_all] at hc
      rw [hc]
      have : zs.getD i 0 = z := by
        rw [List.getElem?_take, if_pos hi] at hiz
        simp [hiz]
      rw [this]
theorem open_nf {r : Reach} {b0 : Nat} {t ti tp : TypeId} {f0 f1 g0 g1 p0 p1 p2 p3 : Field} {v : Value} {d : DataW H} {p : List MemPlace} (hs : P.underlying t = some (.struct #[f0, f1])) (hs1 : P.underlying f1.type = some (.struct #[g0, g1]))
    (hi : P.underlying f0.type = some (.slice ti)) (hii : P.underlying ti = some (.int .i64)) (hn : P.underlying g0.type = some (.int .i64)) (hp : P.underlying g1.type = some (.slice tp)) (hpp : P.underlying tp = some (.struct #[p0, p1, p2, p3]))
    (h3 : P.underlying p0.type = some (.int .i64) ∧ P.underlying p1.type = some (.int .i64) ∧ P.underlying p2.type = some (.int .i64) ∧ P.underlying p3.type = some (.int .i64))
    (ho : f0.offset = 0 ∧ f1.offset = 1 ∧ g0.offset = 0 ∧ g1.offset = 1) (hc : P.cellsOf t = 3 ∧ P.cellsOf f0.type = 1 ∧ P.cellsOf f1.type = 2 ∧ P.cellsOf g0.type = 1 ∧ P.cellsOf g1.type = 1 ∧ P.cellsOf ti = 1 ∧ P.cellsOf tp = 4)
    (hone : oneCellFields P #[p0, p1, p2, p3] = true)
    (hv : Value.okWide P w r b0 t v) (h : DataW.Trod enc P w base spare held t v d p) :
    ∃ A n c l N B m e q, v = .agg #[.slice A n c, .int .i64 N, .slice B m e] ∧ IsInts w A n c l ∧ (Lit.int .i64 N).wf = true ∧ IsQuads w B m e q := by
  obtain ⟨cs, rfl, hsz⟩ := okWide_struct hs hv
  obtain ⟨c0, c1, c2, rfl⟩ := array3 (hsz.trans hc.1)
  obtain ⟨fuel, hf⟩ := h
  obtain ⟨xs, k, _, _, _, hlen, hg⟩ := DataW.trod_struct hs hf
  match xs, hlen with
  | [y0, y1], _ =>
    have e0 := hg 0 f0 rfl
    have e1 := hg 1 f1 rfl
    simp [Value.cells, ho.1, hc.2.1] at e0
    simp [Value.cells, ho.2.1, hc.2.2.1] at e1
    obtain ⟨A, n, c, l, rfl, hA⟩ := isInts_of_cell hi hii hc.2.2.2.2.2.1 e0
    obtain ⟨xs1, k1, _, _, _, hlen1, hg1⟩ := DataW.trod_struct hs1 e1
    match xs1, hlen1 with
    | [z0, z1], _ =>
      have i0 := hg1 0 g0 rfl
      have i1 := hg1 1 g1 rfl
      simp [ho.2.2.1, hc.2.2.2.1] at i0
      simp [ho.2.2.2, hc.2.2.2.2.1] at i1
      obtain ⟨N, hN, _, wN⟩ := DataW.trod_int hn i0
      simp only [List.cons.injEq, and_true] at hN
      obtain ⟨B, m, e, q, rfl, hB⟩ := isQuads_of_cell hp hpp h3 hone hc.2.2.2.2.2.2 i1
      exact ⟨A, n, c, l, N, B, m, e, q, by rw [hN], hA, wN, hB⟩
end
end Go.Proofs.Ytoleoojcodlciaa
/- From a contract on abstract values to calls in a given world; what comes in, as abstract values over the printed encodings. -/
namespace Go.Proofs.Ytoleoojcodlciaa
open Go.RowKit
set_option maxRecDepth 100000
set_option linter.unusedVariables false
set_option linter.unusedSimpArgs false
def wM (w : World) : Imm := fun b o => match w.cell? ⟨b, o, none⟩ with
  | some v => if v.oneCell' then some v else none
  | none => none
theorem wM_some {w : World} {b o : Nat} {v : Value} (h : w.cell? ⟨b, o, none⟩ = some v) (h1 : v.oneCell' = true) : wM w b o = some v := by simp [wM, h, h1]
theorem wM_inv {w : World} {b o : Nat} {v : Value} (h : wM w b o = some v) : w.cell? ⟨b, o, none⟩ = some v ∧ v.oneCell' = true := by
  unfold wM at h
  split at h
  · rename_i u hu
    split at h
    · rename_i h1
      injection h with h; subst h
      exact ⟨hu, h1⟩
    · cases h
  · cases h
theorem spec_calls {P : Program} {f : FuncId} {args : List AV} {b : Bool} {vs : Array Value} {w : World} (hS : Spec P f args [] (.bool b) []) (hlen : args.length = vs.size)
    (hv : ∀ (i : Nat) (c : AV) (v : Value), args[i]? = some c → vs[i]? = some v → VR (wM w) (fun _ => none) c v) : Calls P f vs w fun e w' => e = .returned (.bool b) ∧ Below w.heap.size w w' := by
  refine (hS.2 (wM w) (fun _ => none) w vs (MR.empty _ _ _ fun b o v h => wM_inv h) (fun _ _ => rfl) hlen hv).mono ?_
  rintro e w' ⟨v, M', ρ', rfl, _, _, _, _, hr, hc, _, _⟩
  obtain rfl := hr.bool_inv
  refine ⟨rfl, hc.os, hc.tape, hc.output, hc.size, fun k hk => hc.block k hk ?_⟩
  rintro ⟨s, r, x, hs, _⟩
  simp [rowsOf] at hs
theorem encL_get {α : Type} {e : α → List AV} {sz : Nat} (h : ∀ x, (e x).length = sz) : ∀ (l : List α) (k j : Nat) (q : α), l[k]? = some q → j < sz → (encL e l)[k * sz + j]? = (e q)[j]?
  | x :: l, 0, j, q, hq, hj => by
    simp only [List.getElem?_cons_zero, Option.some.injEq] at hq
    subst hq
    rw [encL_cons, Nat.zero_mul, Nat.zero_add, List.getElem?_append_left (by rw [h]; exact hj)]
  | x :: l, k + 1, j, q, hq, hj => by
    rw [encL_cons, List.getElem?_append_right (by rw [h, Nat.succ_mul]; omega), h, show (k + 1) * sz + j - sz = k * sz + j by rw [Nat.succ_mul]; omega]
    exact encL_get h l k j q (by simpa using hq) hj
theorem pv_quads {w : World} {A : Option Addr} {n c : Nat} {l : List Quad} (h : SlQ w A n l) (hc : n ≤ c) : PV (wM w) (.sl (encL EIIII l) l.length) (.slice A n c) := by
  obtain rfl := h.1
  have H := h.2
  by_cases hp : 0 < l.length
  · obtain ⟨b, off, hA, hb, hcell⟩ := H hp
    have hlen := encL_len EIIIIl l
    have key : ∀ (i : Nat) (x : AV), (encL EIIII l)[i]? = some x → ∃ n : Int, x = .int .i64 n ∧ w.cell? ⟨b, off + i, none⟩ = some (.int .i64 n) := by
      intro i x hx
      have hi : i < l.length * 4 := by
        rw [← hlen]
        rcases Nat.lt_or_ge i (encL EIIII l).length with h' | h'
        · exact h'
        · rw [List.getElem?_eq_none h'] at hx; cases hx
      have hk : i / 4 < l.length := by omega
      have hq := List.getElem?_eq_getElem hk
      have e := encL_get EIIIIl l (i / 4) (i % 4) _ hq (by omega)
      rw [show i / 4 * 4 + i % 4 = i by omega, hx] at e
      obtain ⟨c0, c1, c2, c3⟩ := hcell (i / 4) _ hq
      have h4 : i % 4 = 0 ∨ i % 4 = 1 ∨ i % 4 = 2 ∨ i % 4 = 3 := by omega
      have hoff : off + i = off + i / 4 * 4 + i % 4 := by omega
      rw [hoff]
      rcases h4 with h4 | h4 | h4 | h4 <;> rw [h4] at e ⊢ <;> simp only [EIIII, List.getElem?_cons_zero, List.getElem?_cons_succ, Option.some.injEq] at e
      · exact ⟨_, e, c0⟩
      · exact ⟨_, e, c1⟩
      · exact ⟨_, e, c2⟩
      · exact ⟨_, e, c3⟩
    refine .sl _ _ _ _ b off (fun i => (w.cell? ⟨b, off + i, none⟩).getD undef) (fun _ => hA) hc (fun i x hx => ?_) (fun i x hx => ?_)
    · obtain ⟨n, rfl, hn⟩ := key i x hx
      rw [wM_some hn rfl, hn]; rfl
    · obtain ⟨n, rfl, hn⟩ := key i x hx
      simp only [hn, Option.getD_some]
      exact .int ..
  · have : l = [] := List.eq_nil_of_length_eq_zero (by omega)
    subst this
    exact .sl _ _ _ _ 0 0 (fun _ => undef) (fun h => absurd h (by simp)) hc (fun i x hx => by simp [encL] at hx) (fun i x hx => by simp [encL] at hx)
theorem vr_int (M : Imm) (ρ : Plc) (n : Int) : VR M ρ (.int .i64 n) (.int .i64 n) := .plain (.int ..)
theorem vr_tab {w : World} {N : Int} {A : Option Addr} {n c : Nat} {l : List Quad} (h : SlQ w A n l) (hc : n ≤ c) : VR (wM w) (fun _ => none) (.agg [.int .i64 N, .sl (encL EIIII l) l.length]) (.agg #[.int .i64 N, .slice A n c]) := by
  refine .agg _ _ rfl (fun v hv => ?_) (fun i x v hx hv => ?_)
  · simp at hv; rcases hv with rfl | rfl <;> rfl
  · match i with
    | 0 => simp at hx hv; subst hx hv; exact .plain (.int ..)
    | 1 => simp at hx hv; subst hx hv; exact .plain (pv_quads h hc)
    | i + 2 => simp at hx
theorem vr_quad (M : Imm) (ρ : Plc) (a b c d : Int) : VR M ρ (.agg [.int .i64 a, .int .i64 b, .int .i64 c, .int .i64 d]) (.agg #[.int .i64 a, .int .i64 b, .int .i64 c, .int .i64 d]) := by
  refine .agg _ _ rfl (fun v hv => ?_) (fun i x v hx hv => ?_)
  · simp at hv; rcases hv with rfl | rfl | rfl | rfl <;> rfl
  · match i with
    | 0 => simp at hx hv; subst hx hv; exact .plain (.int ..)
    | 1 => simp at hx hv; subst hx hv; exact .plain (.int ..)
    | 2 => simp at hx hv; subst hx hv; exact .plain (.int ..)
    | 3 => simp at hx hv; subst hx hv; exact .plain (.int ..)
    | i + 4 => simp at hx
theorem args1 {M : Imm} {ρ : Plc} {x : AV} {u : Value} (h1 : VR M ρ x u) : ∀ (i : Nat) (c : AV) (w : Value), [x][i]? = some c → #[u][i]? = some w → VR M ρ c w := by
  intro i c w hc hw
  match i with
  | 0 => simp at hc hw; subst hc hw; exact h1
  | i + 1 => simp at hc
theorem args2 {M : Imm} {ρ : Plc} {x y : AV} {u v : Value} (h1 : VR M ρ x u) (h2 : VR M ρ y v) : ∀ (i : Nat) (c : AV) (w : Value), [x, y][i]? = some c → #[u, v][i]? = some w → VR M ρ c w := by
  intro i c w hc hw
  match i with
  | 0 => simp at hc hw; subst hc hw; exact h1
  | 1 => simp at hc hw; subst hc hw; exact h2
  | i + 2 => simp at hc
theorem args3 {M : Imm} {ρ : Plc} {x y z : AV} {u v t : Value} (h1 : VR M ρ x u) (h2 : VR M ρ y v) (h3 : VR M ρ z t) : ∀ (i : Nat) (c : AV) (w : Value), [x, y, z][i]? = some c → #[u, v, t][i]? = some w → VR M ρ c w := by
  intro i c w hc hw
  match i with
  | 0 => simp at hc hw; subst hc hw; exact h1
  | 1 => simp at hc hw; subst hc hw; exact h2
  | 2 => simp at hc hw; subst hc hw; exact h3
  | i + 3 => simp at hc
end Go.Proofs.Ytoleoojcodlciaa
