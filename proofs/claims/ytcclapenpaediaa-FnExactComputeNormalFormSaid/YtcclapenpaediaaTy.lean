/- Facts on the program's types, printed by a program. -/
import Derived.Test.YtcclapenpaediaaProg
import Derived.Test.YtcclapenpaediaaGb
namespace Go.Proofs.Ytcclapenpaediaa
open Go.RowKit
set_option linter.defProp false
def BR (f : Nat) : Bool := [21, 22, 50, 57, 75, 77, 78, 80, 82, 83, 85, 107, 118, 119, 120, 128, 132, 133, 134, 135, 136, 137, 138, 154, 155, 156, 159, 160, 166, 168, 180, 181, 182, 183, 184].contains f
theorem ty_fz (n : Nat) : FZ BR n = false := by
  show List.contains _ (1000000 + n) = false
  rw [List.contains_eq_mem]
  refine decide_eq_false ?_
  simp only [List.mem_cons, List.not_mem_nil, or_false]
  omega
theorem ty_sz24 : szA Try.prog 24 = some (2, true) := by kernel_rfl
theorem ty_br15 : BR 15 = false := by kernel_rfl
theorem ty_bt3 : isBoolT Try.prog 3 = false := by kernel_rfl
theorem ty_br17 : BR 17 = false := by kernel_rfl
theorem ty_br16 : BR 16 = false := by kernel_rfl
theorem ty_zr31 : zeroA Try.prog 31 = some ([.int .i64 0, .nil]) := by kernel_rfl
theorem ty_sz31 : szA Try.prog 31 = some (2, true) := by kernel_rfl
theorem ty_br18 : BR 18 = false := by kernel_rfl
theorem ty_br19 : BR 19 = false := by kernel_rfl
theorem ty_bt4 : isBoolT Try.prog 4 = true := by kernel_rfl
theorem ty_br20 : BR 20 = false := by kernel_rfl
theorem ty_br21 : BR 21 = true := by kernel_rfl
theorem ty_br22 : BR 22 = true := by kernel_rfl
theorem ty_br23 : BR 23 = false := by kernel_rfl
theorem ty_br24 : BR 24 = false := by kernel_rfl
theorem ty_br25 : BR 25 = false := by kernel_rfl
theorem ty_br26 : BR 26 = false := by kernel_rfl
theorem ty_br27 : BR 27 = false := by kernel_rfl
theorem ty_br28 : BR 28 = false := by kernel_rfl
theorem ty_br29 : BR 29 = false := by kernel_rfl
theorem ty_fl31_0 : fldA Try.prog 31 0 = some (0, 1, false) := by kernel_rfl
theorem ty_sz3 : szA Try.prog 3 = some (1, false) := by kernel_rfl
theorem ty_br30 : BR 30 = false := by kernel_rfl
theorem ty_br31 : BR 31 = false := by kernel_rfl
theorem ty_sl26 : isSlT Try.prog 26 = true := by kernel_rfl
theorem ty_br32 : BR 32 = false := by kernel_rfl
theorem ty_sl44 : isSlT Try.prog 44 = true := by kernel_rfl
theorem ty_br33 : BR 33 = false := by kernel_rfl
theorem ty_br34 : BR 34 = false := by kernel_rfl
theorem ty_br35 : BR 35 = false := by kernel_rfl
theorem ty_br36 : BR 36 = false := by kernel_rfl
theorem ty_im49_0 : immB Try.prog 49 0 = false := by kernel_rfl
theorem ty_by49 : bytesA Try.prog 49 = 32 := by kernel_rfl
theorem ty_el26 : elA Try.prog 26 = some (49, 4) := by kernel_rfl
theorem ty_zr49 : zeroA Try.prog 49 = some ([.int .i64 0, .int .i64 0, .int .i64 0, .int .i64 0]) := by kernel_rfl
theorem ty_sz49 : szA Try.prog 49 = some (4, true) := by kernel_rfl
theorem ty_br37 : BR 37 = false := by kernel_rfl
theorem ty_im49_1 : immB Try.prog 49 1 = false := by kernel_rfl
theorem ty_br38 : BR 38 = false := by kernel_rfl
theorem ty_br39 : BR 39 = false := by kernel_rfl
theorem ty_br40 : BR 40 = false := by kernel_rfl
theorem ty_br41 : BR 41 = false := by kernel_rfl
theorem ty_br42 : BR 42 = false := by kernel_rfl
theorem ty_br43 : BR 43 = false := by kernel_rfl
theorem ty_zr55 : zeroA Try.prog 55 = some ([.int .i64 0, .nil]) := by kernel_rfl
theorem ty_st55 : isStT Try.prog 55 = true := by kernel_rfl
theorem ty_pl55_0 : placeA Try.prog 55 0 = some (0, 1) := by kernel_rfl
theorem ty_pl55_1 : placeA Try.prog 55 1 = some (1, 1) := by kernel_rfl
theorem ty_br44 : BR 44 = false := by kernel_rfl
theorem ty_sz58 : szA Try.prog 58 = some (2, true) := by kernel_rfl
theorem ty_br45 : BR 45 = false := by kernel_rfl
theorem ty_br47 : BR 47 = false := by kernel_rfl
theorem ty_br46 : BR 46 = false := by kernel_rfl
theorem ty_sz55 : szA Try.prog 55 = some (2, true) := by kernel_rfl
theorem ty_br48 : BR 48 = false := by kernel_rfl
theorem ty_br49 : BR 49 = false := by kernel_rfl
theorem ty_br50 : BR 50 = true := by kernel_rfl
theorem ty_br51 : BR 51 = false := by kernel_rfl
theorem ty_sz68 : szA Try.prog 68 = some (3, true) := by kernel_rfl
theorem ty_br52 : BR 52 = false := by kernel_rfl
theorem ty_br54 : BR 54 = false := by kernel_rfl
theorem ty_br53 : BR 53 = false := by kernel_rfl
theorem ty_zr72 : zeroA Try.prog 72 = some ([.nil, .int .i64 0, .nil]) := by kernel_rfl
theorem ty_sz72 : szA Try.prog 72 = some (3, true) := by kernel_rfl
theorem ty_br55 : BR 55 = false := by kernel_rfl
theorem ty_br56 : BR 56 = false := by kernel_rfl
theorem ty_br57 : BR 57 = true := by kernel_rfl
theorem ty_sz77 : szA Try.prog 77 = some (4, true) := by kernel_rfl
theorem ty_br59 : BR 59 = false := by kernel_rfl
theorem ty_br58 : BR 58 = false := by kernel_rfl
theorem ty_br60 : BR 60 = false := by kernel_rfl
theorem ty_br61 : BR 61 = false := by kernel_rfl
theorem ty_br62 : BR 62 = false := by kernel_rfl
theorem ty_br64 : BR 64 = false := by kernel_rfl
theorem ty_br63 : BR 63 = false := by kernel_rfl
theorem ty_br65 : BR 65 = false := by kernel_rfl
theorem ty_br66 : BR 66 = false := by kernel_rfl
theorem ty_br67 : BR 67 = false := by kernel_rfl
theorem ty_fl72_0 : fldA Try.prog 72 0 = some (0, 1, false) := by kernel_rfl
theorem ty_sz66 : szA Try.prog 66 = some (1, false) := by kernel_rfl
theorem ty_sl66 : isSlT Try.prog 66 = true := by kernel_rfl
theorem ty_fl24_1 : fldA Try.prog 24 1 = some (1, 1, false) := by kernel_rfl
theorem ty_sz22 : szA Try.prog 22 = some (1, false) := by kernel_rfl
theorem ty_br68 : BR 68 = false := by kernel_rfl
theorem ty_br69 : BR 69 = false := by kernel_rfl
theorem ty_br70 : BR 70 = false := by kernel_rfl
theorem ty_el44 : elA Try.prog 44 = some (26, 1) := by kernel_rfl
theorem ty_sz26 : szA Try.prog 26 = some (1, false) := by kernel_rfl
theorem ty_fl24_0 : fldA Try.prog 24 0 = some (0, 1, false) := by kernel_rfl
theorem ty_br71 : BR 71 = false := by kernel_rfl
theorem ty_fl31_1 : fldA Try.prog 31 1 = some (1, 1, false) := by kernel_rfl
theorem ty_sz29 : szA Try.prog 29 = some (1, false) := by kernel_rfl
theorem ty_br72 : BR 72 = false := by kernel_rfl
theorem ty_br73 : BR 73 = false := by kernel_rfl
theorem ty_br74 : BR 74 = false := by kernel_rfl
theorem ty_br75 : BR 75 = true := by kernel_rfl
theorem ty_fl49_0 : fldA Try.prog 49 0 = some (0, 1, false) := by kernel_rfl
theorem ty_fl49_1 : fldA Try.prog 49 1 = some (1, 1, false) := by kernel_rfl
theorem ty_fl49_2 : fldA Try.prog 49 2 = some (2, 1, false) := by kernel_rfl
theorem ty_fl49_3 : fldA Try.prog 49 3 = some (3, 1, false) := by kernel_rfl
theorem ty_br76 : BR 76 = false := by kernel_rfl
theorem ty_zr100 : zeroA Try.prog 100 = some ([.int .i64 0, .nil, .nil]) := by kernel_rfl
theorem ty_st100 : isStT Try.prog 100 = true := by kernel_rfl
theorem ty_pl100_0 : placeA Try.prog 100 0 = some (0, 2) := by kernel_rfl
theorem ty_br77 : BR 77 = true := by kernel_rfl
theorem ty_br78 : BR 78 = true := by kernel_rfl
theorem ty_fl100_1 : fldA Try.prog 100 1 = some (2, 1, false) := by kernel_rfl
theorem ty_br79 : BR 79 = false := by kernel_rfl
theorem ty_im113_0 : immB Try.prog 113 0 = false := by kernel_rfl
theorem ty_by113 : bytesA Try.prog 113 = 32 := by kernel_rfl
theorem ty_el29 : elA Try.prog 29 = some (113, 4) := by kernel_rfl
theorem ty_zr113 : zeroA Try.prog 113 = some ([.int .i64 0, .int .i64 0, .int .i64 0, .int .i64 0]) := by kernel_rfl
theorem ty_st31 : isStT Try.prog 31 = true := by kernel_rfl
theorem ty_pl31_0 : placeA Try.prog 31 0 = some (0, 1) := by kernel_rfl
theorem ty_pl31_1 : placeA Try.prog 31 1 = some (1, 1) := by kernel_rfl
theorem ty_zr104 : zeroA Try.prog 104 = some ([.int .i64 0, .nil, .nil]) := by kernel_rfl
theorem ty_st104 : isStT Try.prog 104 = true := by kernel_rfl
theorem ty_pl104_0 : placeA Try.prog 104 0 = some (0, 2) := by kernel_rfl
theorem ty_br80 : BR 80 = true := by kernel_rfl
theorem ty_fl104_1 : fldA Try.prog 104 1 = some (2, 1, false) := by kernel_rfl
theorem ty_sl38 : isSlT Try.prog 38 = true := by kernel_rfl
theorem ty_br81 : BR 81 = false := by kernel_rfl
theorem ty_br82 : BR 82 = true := by kernel_rfl
theorem ty_br83 : BR 83 = true := by kernel_rfl
theorem ty_br85 : BR 85 = true := by kernel_rfl
theorem ty_br84 : BR 84 = false := by kernel_rfl
theorem ty_fn49 : flatN Try.prog 4 49 = some 4 := by kernel_rfl
theorem ty_br86 : BR 86 = false := by kernel_rfl
theorem ty_sl29 : isSlT Try.prog 29 = true := by kernel_rfl
theorem ty_fl113_0 : fldA Try.prog 113 0 = some (0, 1, false) := by kernel_rfl
theorem ty_sz113 : szA Try.prog 113 = some (4, true) := by kernel_rfl
theorem ty_br87 : BR 87 = false := by kernel_rfl
theorem ty_br88 : BR 88 = false := by kernel_rfl
theorem ty_fn113 : flatN Try.prog 4 113 = some 4 := by kernel_rfl
theorem ty_im26_1 : immB Try.prog 26 1 = false := by kernel_rfl
theorem ty_by26 : bytesA Try.prog 26 = 24 := by kernel_rfl
theorem ty_zr26 : zeroA Try.prog 26 = some ([.nil]) := by kernel_rfl
theorem ty_im31_1 : immB Try.prog 31 1 = false := by kernel_rfl
theorem ty_by31 : bytesA Try.prog 31 = 32 := by kernel_rfl
theorem ty_el89 : elA Try.prog 89 = some (31, 2) := by kernel_rfl
theorem ty_br90 : BR 90 = false := by kernel_rfl
theorem ty_br89 : BR 89 = false := by kernel_rfl
theorem ty_sl89 : isSlT Try.prog 89 = true := by kernel_rfl
theorem ty_br91 : BR 91 = false := by kernel_rfl
theorem ty_st113 : isStT Try.prog 113 = true := by kernel_rfl
theorem ty_pl113_0 : placeA Try.prog 113 0 = some (0, 1) := by kernel_rfl
theorem ty_pl113_1 : placeA Try.prog 113 1 = some (1, 1) := by kernel_rfl
theorem ty_pl113_2 : placeA Try.prog 113 2 = some (2, 1) := by kernel_rfl
theorem ty_br92 : BR 92 = false := by kernel_rfl
theorem ty_im113_3 : immB Try.prog 113 3 = false := by kernel_rfl
theorem ty_fl113_1 : fldA Try.prog 113 1 = some (1, 1, false) := by kernel_rfl
theorem ty_fl113_2 : fldA Try.prog 113 2 = some (2, 1, false) := by kernel_rfl
theorem ty_im49_2 : immB Try.prog 49 2 = false := by kernel_rfl
theorem ty_br93 : BR 93 = false := by kernel_rfl
theorem ty_im113_1 : immB Try.prog 113 1 = false := by kernel_rfl
theorem ty_br94 : BR 94 = false := by kernel_rfl
theorem ty_br95 : BR 95 = false := by kernel_rfl
theorem ty_br96 : BR 96 = false := by kernel_rfl
theorem ty_br97 : BR 97 = false := by kernel_rfl
theorem ty_fl55_0 : fldA Try.prog 55 0 = some (0, 1, false) := by kernel_rfl
theorem ty_fl55_1 : fldA Try.prog 55 1 = some (1, 1, false) := by kernel_rfl
theorem ty_fl58_1 : fldA Try.prog 58 1 = some (1, 1, false) := by kernel_rfl
theorem ty_sz56 : szA Try.prog 56 = some (1, false) := by kernel_rfl
theorem ty_br98 : BR 98 = false := by kernel_rfl
theorem ty_br99 : BR 99 = false := by kernel_rfl
theorem ty_fl58_0 : fldA Try.prog 58 0 = some (0, 1, false) := by kernel_rfl
theorem ty_fl68_0 : fldA Try.prog 68 0 = some (0, 1, false) := by kernel_rfl
theorem ty_br100 : BR 100 = false := by kernel_rfl
theorem ty_fl68_1 : fldA Try.prog 68 1 = some (1, 2, true) := by kernel_rfl
theorem ty_br101 : BR 101 = false := by kernel_rfl
theorem ty_el66 : elA Try.prog 66 = some (3, 1) := by kernel_rfl
theorem ty_br102 : BR 102 = false := by kernel_rfl
theorem ty_br103 : BR 103 = false := by kernel_rfl
theorem ty_fl72_1 : fldA Try.prog 72 1 = some (1, 2, true) := by kernel_rfl
theorem ty_br104 : BR 104 = false := by kernel_rfl
theorem ty_br105 : BR 105 = false := by kernel_rfl
theorem ty_br106 : BR 106 = false := by kernel_rfl
theorem ty_br107 : BR 107 = true := by kernel_rfl
theorem ty_br108 : BR 108 = false := by kernel_rfl
theorem ty_br109 : BR 109 = false := by kernel_rfl
theorem ty_br110 : BR 110 = false := by kernel_rfl
theorem ty_fl77_0 : fldA Try.prog 77 0 = some (0, 1, false) := by kernel_rfl
theorem ty_fl77_1 : fldA Try.prog 77 1 = some (1, 1, false) := by kernel_rfl
theorem ty_fl77_2 : fldA Try.prog 77 2 = some (2, 1, false) := by kernel_rfl
theorem ty_fl77_3 : fldA Try.prog 77 3 = some (3, 1, false) := by kernel_rfl
theorem ty_br111 : BR 111 = false := by kernel_rfl
theorem ty_br112 : BR 112 = false := by kernel_rfl
theorem ty_br113 : BR 113 = false := by kernel_rfl
theorem ty_br114 : BR 114 = false := by kernel_rfl
theorem ty_br115 : BR 115 = false := by kernel_rfl
theorem ty_sl56 : isSlT Try.prog 56 = true := by kernel_rfl
theorem ty_br116 : BR 116 = false := by kernel_rfl
theorem ty_st72 : isStT Try.prog 72 = true := by kernel_rfl
theorem ty_el56 : elA Try.prog 56 = some (77, 4) := by kernel_rfl
theorem ty_br117 : BR 117 = false := by kernel_rfl
theorem ty_br118 : BR 118 = true := by kernel_rfl
theorem ty_br119 : BR 119 = true := by kernel_rfl
theorem ty_br120 : BR 120 = true := by kernel_rfl
theorem ty_br121 : BR 121 = false := by kernel_rfl
theorem ty_sl22 : isSlT Try.prog 22 = true := by kernel_rfl
theorem ty_br122 : BR 122 = false := by kernel_rfl
theorem ty_im3_6 : immB Try.prog 3 6 = true := by kernel_rfl
theorem ty_by3 : bytesA Try.prog 3 = 8 := by kernel_rfl
theorem ty_zr3 : zeroA Try.prog 3 = some ([.int .i64 0]) := by kernel_rfl
theorem ty_el22 : elA Try.prog 22 = some (133, 4) := by kernel_rfl
theorem ty_sz133 : szA Try.prog 133 = some (4, true) := by kernel_rfl
theorem ty_br123 : BR 123 = false := by kernel_rfl
theorem ty_br124 : BR 124 = false := by kernel_rfl
theorem ty_br125 : BR 125 = false := by kernel_rfl
theorem ty_fl113_3 : fldA Try.prog 113 3 = some (3, 1, false) := by kernel_rfl
theorem ty_fl100_0 : fldA Try.prog 100 0 = some (0, 2, true) := by kernel_rfl
theorem ty_br126 : BR 126 = false := by kernel_rfl
theorem ty_br127 : BR 127 = false := by kernel_rfl
theorem ty_br128 : BR 128 = true := by kernel_rfl
theorem ty_st49 : isStT Try.prog 49 = true := by kernel_rfl
theorem ty_pl49_0 : placeA Try.prog 49 0 = some (0, 1) := by kernel_rfl
theorem ty_pl49_1 : placeA Try.prog 49 1 = some (1, 1) := by kernel_rfl
theorem ty_pl49_2 : placeA Try.prog 49 2 = some (2, 1) := by kernel_rfl
theorem ty_br129 : BR 129 = false := by kernel_rfl
theorem ty_br130 : BR 130 = false := by kernel_rfl
theorem ty_br131 : BR 131 = false := by kernel_rfl
theorem ty_fl104_0 : fldA Try.prog 104 0 = some (0, 2, true) := by kernel_rfl
theorem ty_br132 : BR 132 = true := by kernel_rfl
theorem ty_br133 : BR 133 = true := by kernel_rfl
theorem ty_br134 : BR 134 = true := by kernel_rfl
theorem ty_el38 : elA Try.prog 38 = some (5, 1) := by kernel_rfl
theorem ty_sz5 : szA Try.prog 5 = some (1, false) := by kernel_rfl
theorem ty_it5 : isIntT Try.prog 5 = some (.u8) := by kernel_rfl
theorem ty_it3 : isIntT Try.prog 3 = some (.i64) := by kernel_rfl
theorem ty_zr139 : zeroA Try.prog 139 = some ([.nil, .int .i64 0, .int .i64 0]) := by kernel_rfl
theorem ty_st139 : isStT Try.prog 139 = true := by kernel_rfl
theorem ty_pl139_0 : placeA Try.prog 139 0 = some (0, 1) := by kernel_rfl
theorem ty_pl139_2 : placeA Try.prog 139 2 = some (2, 1) := by kernel_rfl
theorem ty_br135 : BR 135 = true := by kernel_rfl
theorem ty_im3_3 : immB Try.prog 3 3 = true := by kernel_rfl
theorem ty_br136 : BR 136 = true := by kernel_rfl
theorem ty_br137 : BR 137 = true := by kernel_rfl
theorem ty_br138 : BR 138 = true := by kernel_rfl
theorem ty_br139 : BR 139 = false := by kernel_rfl
theorem ty_br140 : BR 140 = false := by kernel_rfl
theorem ty_br141 : BR 141 = false := by kernel_rfl
theorem ty_br142 : BR 142 = false := by kernel_rfl
theorem ty_pl113_3 : placeA Try.prog 113 3 = some (3, 1) := by kernel_rfl
theorem ty_br143 : BR 143 = false := by kernel_rfl
theorem ty_br144 : BR 144 = false := by kernel_rfl
theorem ty_it146 : isIntT Try.prog 146 = some (.u64) := by kernel_rfl
theorem ty_br146 : BR 146 = false := by kernel_rfl
theorem ty_br145 : BR 145 = false := by kernel_rfl
theorem ty_br147 : BR 147 = false := by kernel_rfl
theorem ty_im3_0 : immB Try.prog 3 0 = false := by kernel_rfl
theorem ty_pl72_0 : placeA Try.prog 72 0 = some (0, 1) := by kernel_rfl
theorem ty_pl72_1 : placeA Try.prog 72 1 = some (1, 2) := by kernel_rfl
theorem ty_br148 : BR 148 = false := by kernel_rfl
theorem ty_br149 : BR 149 = false := by kernel_rfl
theorem ty_br150 : BR 150 = false := by kernel_rfl
theorem ty_im3_1 : immB Try.prog 3 1 = true := by kernel_rfl
theorem ty_br151 : BR 151 = false := by kernel_rfl
theorem ty_im26_2 : immB Try.prog 26 2 = false := by kernel_rfl
theorem ty_br152 : BR 152 = false := by kernel_rfl
theorem ty_im26_3 : immB Try.prog 26 3 = false := by kernel_rfl
theorem ty_br153 : BR 153 = false := by kernel_rfl
theorem ty_br154 : BR 154 = true := by kernel_rfl
theorem ty_br155 : BR 155 = true := by kernel_rfl
theorem ty_im3_4 : immB Try.prog 3 4 = true := by kernel_rfl
theorem ty_br156 : BR 156 = true := by kernel_rfl
theorem ty_br157 : BR 157 = false := by kernel_rfl
theorem ty_fl133_0 : fldA Try.prog 133 0 = some (0, 1, false) := by kernel_rfl
theorem ty_fl133_1 : fldA Try.prog 133 1 = some (1, 1, false) := by kernel_rfl
theorem ty_fl133_2 : fldA Try.prog 133 2 = some (2, 1, false) := by kernel_rfl
theorem ty_fl133_3 : fldA Try.prog 133 3 = some (3, 1, false) := by kernel_rfl
theorem ty_br158 : BR 158 = false := by kernel_rfl
theorem ty_br159 : BR 159 = true := by kernel_rfl
theorem ty_br160 : BR 160 = true := by kernel_rfl
theorem ty_br161 : BR 161 = false := by kernel_rfl
theorem ty_br162 : BR 162 = false := by kernel_rfl
theorem ty_br163 : BR 163 = false := by kernel_rfl
theorem ty_br164 : BR 164 = false := by kernel_rfl
theorem ty_br165 : BR 165 = false := by kernel_rfl
theorem ty_im3_12 : immB Try.prog 3 12 = true := by kernel_rfl
theorem ty_im3_5 : immB Try.prog 3 5 = true := by kernel_rfl
theorem ty_im3_8 : immB Try.prog 3 8 = true := by kernel_rfl
theorem ty_br166 : BR 166 = true := by kernel_rfl
theorem ty_fl139_2 : fldA Try.prog 139 2 = some (2, 1, false) := by kernel_rfl
theorem ty_fl139_1 : fldA Try.prog 139 1 = some (1, 1, false) := by kernel_rfl
theorem ty_fl139_0 : fldA Try.prog 139 0 = some (0, 1, false) := by kernel_rfl
theorem ty_sz38 : szA Try.prog 38 = some (1, false) := by kernel_rfl
theorem ty_br167 : BR 167 = false := by kernel_rfl
theorem ty_im3_11 : immB Try.prog 3 11 = true := by kernel_rfl
theorem ty_br168 : BR 168 = true := by kernel_rfl
theorem ty_br171 : BR 171 = false := by kernel_rfl
def TY :=
 (And.intro
 (And.intro
 (And.intro
 (And.intro
 (And.intro
 (And.intro
 (And.intro
 (And.intro
 ty_fz
 ty_sz24)
 (And.intro
 ty_br15
 ty_bt3))
 (And.intro
 (And.intro
 ty_br17
 ty_br16)
 (And.intro
 ty_zr31
 (And.intro
 ty_sz31
 ty_br18))))
 (And.intro
 (And.intro
 (And.intro
 ty_br19
 ty_bt4)
 (And.intro
 ty_br20
 ty_br21))
 (And.intro
 (And.intro
 ty_br22
 ty_br23)
 (And.intro
 ty_br24
 (And.intro
 ty_br25
 ty_br26)))))
 (And.intro
 (And.intro
 (And.intro
 (And.intro
 ty_br27
 ty_br28)
 (And.intro
 ty_br29
 ty_fl31_0))
 (And.intro
 (And.intro
 ty_sz3
 ty_br30)
 (And.intro
 ty_br31
 (And.intro
 ty_sl26
 ty_br32))))
 (And.intro
 (And.intro
 (And.intro
 ty_sl44
 ty_br33)
 (And.intro
 ty_br34
 ty_br35))
 (And.intro
 (And.intro
 ty_br36
 ty_im49_0)
 (And.intro
 ty_by49
 (And.intro
 ty_el26
 ty_zr49))))))
 (And.intro
 (And.intro
 (And.intro
 (And.intro
 (And.intro
 ty_sz49
 ty_br37)
 (And.intro
 ty_im49_1
 ty_br38))
 (And.intro
 (And.intro
 ty_br39
 ty_br40)
 (And.intro
 ty_br41
 (And.intro
 ty_br42
 ty_br43))))
 (And.intro
 (And.intro
 (And.intro
 ty_zr55
 ty_st55)
 (And.intro
 ty_pl55_0
 ty_pl55_1))
 (And.intro
 (And.intro
 ty_br44
 ty_sz58)
 (And.intro
 ty_br45
 (And.intro
 ty_br47
 ty_br46)))))
 (And.intro
 (And.intro
 (And.intro
 (And.intro
 ty_sz55
 ty_br48)
 (And.intro
 ty_br49
 ty_br50))
 (And.intro
 (And.intro
 ty_br51
 ty_sz68)
 (And.intro
 ty_br52
 (And.intro
 ty_br54
 ty_br53))))
 (And.intro
 (And.intro
 (And.intro
 ty_zr72
 ty_sz72)
 (And.intro
 ty_br55
 ty_br56))
 (And.intro
 (And.intro
 ty_br57
 ty_sz77)
 (And.intro
 ty_br59
 (And.intro
 ty_br58
 ty_br60)))))))
 (And.intro
 (And.intro
 (And.intro
 (And.intro
 (And.intro
 (And.intro
 ty_br61
 ty_br62)
 (And.intro
 ty_br64
 ty_br63))
 (And.intro
 (And.intro
 ty_br65
 ty_br66)
 (And.intro
 ty_br67
 (And.intro
 ty_fl72_0
 ty_sz66))))
 (And.intro
 (And.intro
 (And.intro
 ty_sl66
 ty_fl24_1)
 (And.intro
 ty_sz22
 ty_br68))
 (And.intro
 (And.intro
 ty_br69
 ty_br70)
 (And.intro
 ty_el44
 (And.intro
 ty_sz26
 ty_fl24_0)))))
 (And.intro
 (And.intro
 (And.intro
 (And.intro
 ty_br71
 ty_fl31_1)
 (And.intro
 ty_sz29
 ty_br72))
 (And.intro
 (And.intro
 ty_br73
 ty_br74)
 (And.intro
 ty_br75
 (And.intro
 ty_fl49_0
 ty_fl49_1))))
 (And.intro
 (And.intro
 (And.intro
 ty_fl49_2
 ty_fl49_3)
 (And.intro
 ty_br76
 ty_zr100))
 (And.intro
 (And.intro
 ty_st100
 ty_pl100_0)
 (And.intro
 ty_br77
 (And.intro
 ty_br78
 ty_fl100_1))))))
 (And.intro
 (And.intro
 (And.intro
 (And.intro
 (And.intro
 ty_br79
 ty_im113_0)
 (And.intro
 ty_by113
 ty_el29))
 (And.intro
 (And.intro
 ty_zr113
 ty_st31)
 (And.intro
 ty_pl31_0
 (And.intro
 ty_pl31_1
 ty_zr104))))
 (And.intro
 (And.intro
 (And.intro
 ty_st104
 ty_pl104_0)
 (And.intro
 ty_br80
 ty_fl104_1))
 (And.intro
 (And.intro
 ty_sl38
 ty_br81)
 (And.intro
 ty_br82
 (And.intro
 ty_br83
 ty_br85)))))
 (And.intro
 (And.intro
 (And.intro
 (And.intro
 ty_br84
 ty_fn49)
 (And.intro
 ty_br86
 ty_sl29))
 (And.intro
 (And.intro
 ty_fl113_0
 ty_sz113)
 (And.intro
 ty_br87
 (And.intro
 ty_br88
 ty_fn113))))
 (And.intro
 (And.intro
 (And.intro
 ty_im26_1
 ty_by26)
 (And.intro
 ty_zr26
 (And.intro
 ty_im31_1
 ty_by31)))
 (And.intro
 (And.intro
 ty_el89
 ty_br90)
 (And.intro
 ty_br89
 (And.intro
 ty_sl89
 ty_br91))))))))
 (And.intro
 (And.intro
 (And.intro
 (And.intro
 (And.intro
 (And.intro
 (And.intro
 ty_st113
 ty_pl113_0)
 (And.intro
 ty_pl113_1
 ty_pl113_2))
 (And.intro
 (And.intro
 ty_br92
 ty_im113_3)
 (And.intro
 ty_fl113_1
 (And.intro
 ty_fl113_2
 ty_im49_2))))
 (And.intro
 (And.intro
 (And.intro
 ty_br93
 ty_im113_1)
 (And.intro
 ty_br94
 ty_br95))
 (And.intro
 (And.intro
 ty_br96
 ty_br97)
 (And.intro
 ty_fl55_0
 (And.intro
 ty_fl55_1
 ty_fl58_1)))))
 (And.intro
 (And.intro
 (And.intro
 (And.intro
 ty_sz56
 ty_br98)
 (And.intro
 ty_br99
 ty_fl58_0))
 (And.intro
 (And.intro
 ty_fl68_0
 ty_br100)
 (And.intro
 ty_fl68_1
 (And.intro
 ty_br101
 ty_el66))))
 (And.intro
 (And.intro
 (And.intro
 ty_br102
 ty_br103)
 (And.intro
 ty_fl72_1
 ty_br104))
 (And.intro
 (And.intro
 ty_br105
 ty_br106)
 (And.intro
 ty_br107
 (And.intro
 ty_br108
 ty_br109))))))
 (And.intro
 (And.intro
 (And.intro
 (And.intro
 (And.intro
 ty_br110
 ty_fl77_0)
 (And.intro
 ty_fl77_1
 ty_fl77_2))
 (And.intro
 (And.intro
 ty_fl77_3
 ty_br111)
 (And.intro
 ty_br112
 (And.intro
 ty_br113
 ty_br114))))
 (And.intro
 (And.intro
 (And.intro
 ty_br115
 ty_sl56)
 (And.intro
 ty_br116
 ty_st72))
 (And.intro
 (And.intro
 ty_el56
 ty_br117)
 (And.intro
 ty_br118
 (And.intro
 ty_br119
 ty_br120)))))
 (And.intro
 (And.intro
 (And.intro
 (And.intro
 ty_br121
 ty_sl22)
 (And.intro
 ty_br122
 ty_im3_6))
 (And.intro
 (And.intro
 ty_by3
 ty_zr3)
 (And.intro
 ty_el22
 (And.intro
 ty_sz133
 ty_br123))))
 (And.intro
 (And.intro
 (And.intro
 ty_br124
 ty_br125)
 (And.intro
 ty_fl113_3
 (And.intro
 ty_fl100_0
 ty_br126)))
 (And.intro
 (And.intro
 ty_br127
 ty_br128)
 (And.intro
 ty_st49
 (And.intro
 ty_pl49_0
 ty_pl49_1)))))))
 (And.intro
 (And.intro
 (And.intro
 (And.intro
 (And.intro
 (And.intro
 ty_pl49_2
 ty_br129)
 (And.intro
 ty_br130
 ty_br131))
 (And.intro
 (And.intro
 ty_fl104_0
 ty_br132)
 (And.intro
 ty_br133
 (And.intro
 ty_br134
 ty_el38))))
 (And.intro
 (And.intro
 (And.intro
 ty_sz5
 ty_it5)
 (And.intro
 ty_it3
 ty_zr139))
 (And.intro
 (And.intro
 ty_st139
 ty_pl139_0)
 (And.intro
 ty_pl139_2
 (And.intro
 ty_br135
 ty_im3_3)))))
 (And.intro
 (And.intro
 (And.intro
 (And.intro
 ty_br136
 ty_br137)
 (And.intro
 ty_br138
 ty_br139))
 (And.intro
 (And.intro
 ty_br140
 ty_br141)
 (And.intro
 ty_br142
 (And.intro
 ty_pl113_3
 ty_br143))))
 (And.intro
 (And.intro
 (And.intro
 ty_br144
 ty_it146)
 (And.intro
 ty_br146
 ty_br145))
 (And.intro
 (And.intro
 ty_br147
 ty_im3_0)
 (And.intro
 ty_pl72_0
 (And.intro
 ty_pl72_1
 ty_br148))))))
 (And.intro
 (And.intro
 (And.intro
 (And.intro
 (And.intro
 ty_br149
 ty_br150)
 (And.intro
 ty_im3_1
 ty_br151))
 (And.intro
 (And.intro
 ty_im26_2
 ty_br152)
 (And.intro
 ty_im26_3
 (And.intro
 ty_br153
 ty_br154))))
 (And.intro
 (And.intro
 (And.intro
 ty_br155
 ty_im3_4)
 (And.intro
 ty_br156
 ty_br157))
 (And.intro
 (And.intro
 ty_fl133_0
 ty_fl133_1)
 (And.intro
 ty_fl133_2
 (And.intro
 ty_fl133_3
 ty_br158)))))
 (And.intro
 (And.intro
 (And.intro
 (And.intro
 ty_br159
 ty_br160)
 (And.intro
 ty_br161
 ty_br162))
 (And.intro
 (And.intro
 ty_br163
 ty_br164)
 (And.intro
 ty_br165
 (And.intro
 ty_im3_12
 ty_im3_5))))
 (And.intro
 (And.intro
 (And.intro
 ty_im3_8
 ty_br166)
 (And.intro
 ty_fl139_2
 (And.intro
 ty_fl139_1
 ty_fl139_0)))
 (And.intro
 (And.intro
 ty_sz38
 ty_br167)
 (And.intro
 ty_im3_11
 (And.intro
 ty_br168
 ty_br171)))))))))
end Go.Proofs.Ytcclapenpaediaa
-- NAMES ty_br171, ty_br168, ty_im3_11, ty_br167, ty_sz38, ty_fl139_0, ty_fl139_1, ty_fl139_2, ty_br166, ty_im3_8, ty_im3_5, ty_im3_12, ty_br165, ty_br164, ty_br163, ty_br162, ty_br161, ty_br160, ty_br159, ty_br158, ty_fl133_3, ty_fl133_2, ty_fl133_1, ty_fl133_0, ty_br157, ty_br156, ty_im3_4, ty_br155, ty_br154, ty_br153, ty_im26_3, ty_br152, ty_im26_2, ty_br151, ty_im3_1, ty_br150, ty_br149, ty_br148, ty_pl72_1, ty_pl72_0, ty_im3_0, ty_br147, ty_br145, ty_br146, ty_it146, ty_br144, ty_br143, ty_pl113_3, ty_br142, ty_br141, ty_br140, ty_br139, ty_br138, ty_br137, ty_br136, ty_im3_3, ty_br135, ty_pl139_2, ty_pl139_0, ty_st139, ty_zr139, ty_it3, ty_it5, ty_sz5, ty_el38, ty_br134, ty_br133, ty_br132, ty_fl104_0, ty_br131, ty_br130, ty_br129, ty_pl49_2, ty_pl49_1, ty_pl49_0, ty_st49, ty_br128, ty_br127, ty_br126, ty_fl100_0, ty_fl113_3, ty_br125, ty_br124, ty_br123, ty_sz133, ty_el22, ty_zr3, ty_by3, ty_im3_6, ty_br122, ty_sl22, ty_br121, ty_br120, ty_br119, ty_br118, ty_br117, ty_el56, ty_st72, ty_br116, ty_sl56, ty_br115, ty_br114, ty_br113, ty_br112, ty_br111, ty_fl77_3, ty_fl77_2, ty_fl77_1, ty_fl77_0, ty_br110, ty_br109, ty_br108, ty_br107, ty_br106, ty_br105, ty_br104, ty_fl72_1, ty_br103, ty_br102, ty_el66, ty_br101, ty_fl68_1, ty_br100, ty_fl68_0, ty_fl58_0, ty_br99, ty_br98, ty_sz56, ty_fl58_1, ty_fl55_1, ty_fl55_0, ty_br97, ty_br96, ty_br95, ty_br94, ty_im113_1, ty_br93, ty_im49_2, ty_fl113_2, ty_fl113_1, ty_im113_3, ty_br92, ty_pl113_2, ty_pl113_1, ty_pl113_0, ty_st113, ty_br91, ty_sl89, ty_br89, ty_br90, ty_el89, ty_by31, ty_im31_1, ty_zr26, ty_by26, ty_im26_1, ty_fn113, ty_br88, ty_br87, ty_sz113, ty_fl113_0, ty_sl29, ty_br86, ty_fn49, ty_br84, ty_br85, ty_br83, ty_br82, ty_br81, ty_sl38, ty_fl104_1, ty_br80, ty_pl104_0, ty_st104, ty_zr104, ty_pl31_1, ty_pl31_0, ty_st31, ty_zr113, ty_el29, ty_by113, ty_im113_0, ty_br79, ty_fl100_1, ty_br78, ty_br77, ty_pl100_0, ty_st100, ty_zr100, ty_br76, ty_fl49_3, ty_fl49_2, ty_fl49_1, ty_fl49_0, ty_br75, ty_br74, ty_br73, ty_br72, ty_sz29, ty_fl31_1, ty_br71, ty_fl24_0, ty_sz26, ty_el44, ty_br70, ty_br69, ty_br68, ty_sz22, ty_fl24_1, ty_sl66, ty_sz66, ty_fl72_0, ty_br67, ty_br66, ty_br65, ty_br63, ty_br64, ty_br62, ty_br61, ty_br60, ty_br58, ty_br59, ty_sz77, ty_br57, ty_br56, ty_br55, ty_sz72, ty_zr72, ty_br53, ty_br54, ty_br52, ty_sz68, ty_br51, ty_br50, ty_br49, ty_br48, ty_sz55, ty_br46, ty_br47, ty_br45, ty_sz58, ty_br44, ty_pl55_1, ty_pl55_0, ty_st55, ty_zr55, ty_br43, ty_br42, ty_br41, ty_br40, ty_br39, ty_br38, ty_im49_1, ty_br37, ty_sz49, ty_zr49, ty_el26, ty_by49, ty_im49_0, ty_br36, ty_br35, ty_br34, ty_br33, ty_sl44, ty_br32, ty_sl26, ty_br31, ty_br30, ty_sz3, ty_fl31_0, ty_br29, ty_br28, ty_br27, ty_br26, ty_br25, ty_br24, ty_br23, ty_br22, ty_br21, ty_br20, ty_bt4, ty_br19, ty_br18, ty_sz31, ty_zr31, ty_br16, ty_br17, ty_bt3, ty_br15, ty_sz24, ty_fz
