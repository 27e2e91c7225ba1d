/- Facts on the program's types, printed by a program. -/
import Derived.Test.YtfpfalknddfejaaProg
import Derived.Test.YtfpfalknddfejaaGb
namespace Go.Proofs.Ytfpfalknddfejaa
open Go.RowKit
set_option linter.defProp false
def BR (f : Nat) : Bool := [36, 53, 60, 66, 85, 88, 89, 90, 91, 92, 93, 95, 116, 117, 118, 119, 121, 125, 128, 138, 139, 140, 141, 142].contains f
theorem ty_fz (n : Nat) : FZ BR n = false := by
  show List.contains _ (1000000 + n) = false
  rw [List.contains_eq_mem]
  refine decide_eq_false ?_
  simp only [List.mem_cons, List.not_mem_nil, or_false]
  omega
theorem ty_sz24 : szA Try.prog 24 = some (2, true) := by kernel_rfl
theorem ty_br15 : BR 15 = false := by kernel_rfl
theorem ty_bt3 : isBoolT Try.prog 3 = false := by kernel_rfl
theorem ty_br17 : BR 17 = false := by kernel_rfl
theorem ty_sz26 : szA Try.prog 26 = some (4, true) := by kernel_rfl
theorem ty_br18 : BR 18 = false := by kernel_rfl
theorem ty_br16 : BR 16 = false := by kernel_rfl
theorem ty_zr28 : zeroA Try.prog 28 = some ([.int .i64 0, .int .i64 0, .int .i64 0, .int .i64 0]) := by kernel_rfl
theorem ty_sz28 : szA Try.prog 28 = some (4, true) := by kernel_rfl
theorem ty_zr33 : zeroA Try.prog 33 = some ([.int .i64 0, .nil]) := by kernel_rfl
theorem ty_sz33 : szA Try.prog 33 = some (2, true) := by kernel_rfl
theorem ty_br19 : BR 19 = false := by kernel_rfl
theorem ty_br20 : BR 20 = false := by kernel_rfl
theorem ty_bt4 : isBoolT Try.prog 4 = true := by kernel_rfl
theorem ty_br21 : BR 21 = false := by kernel_rfl
theorem ty_br22 : BR 22 = false := by kernel_rfl
theorem ty_br23 : BR 23 = false := by kernel_rfl
theorem ty_br24 : BR 24 = false := by kernel_rfl
theorem ty_br25 : BR 25 = false := by kernel_rfl
theorem ty_sz46 : szA Try.prog 46 = some (3, true) := by kernel_rfl
theorem ty_br26 : BR 26 = false := by kernel_rfl
theorem ty_br28 : BR 28 = false := by kernel_rfl
theorem ty_br27 : BR 27 = false := by kernel_rfl
theorem ty_zr50 : zeroA Try.prog 50 = some ([.nil, .int .i64 0, .nil]) := by kernel_rfl
theorem ty_sz50 : szA Try.prog 50 = some (3, true) := by kernel_rfl
theorem ty_br29 : BR 29 = false := by kernel_rfl
theorem ty_br30 : BR 30 = false := by kernel_rfl
theorem ty_sz55 : szA Try.prog 55 = some (4, true) := by kernel_rfl
theorem ty_br32 : BR 32 = false := by kernel_rfl
theorem ty_br31 : BR 31 = false := by kernel_rfl
theorem ty_br33 : BR 33 = false := by kernel_rfl
theorem ty_br34 : BR 34 = false := by kernel_rfl
theorem ty_br35 : BR 35 = false := by kernel_rfl
theorem ty_br36 : BR 36 = true := by kernel_rfl
theorem ty_br37 : BR 37 = false := by kernel_rfl
theorem ty_br38 : BR 38 = false := by kernel_rfl
theorem ty_br39 : BR 39 = false := by kernel_rfl
theorem ty_zr57 : zeroA Try.prog 57 = some ([.int .i64 0, .int .i64 0, .int .i64 0, .int .i64 0]) := by kernel_rfl
theorem ty_sz57 : szA Try.prog 57 = some (4, true) := by kernel_rfl
theorem ty_br40 : BR 40 = false := by kernel_rfl
theorem ty_fl28_0 : fldA Try.prog 28 0 = some (0, 1, false) := by kernel_rfl
theorem ty_sz3 : szA Try.prog 3 = some (1, false) := by kernel_rfl
theorem ty_br41 : BR 41 = false := by kernel_rfl
theorem ty_fn28 : flatN Try.prog 4 28 = some 4 := by kernel_rfl
theorem ty_br42 : BR 42 = false := by kernel_rfl
theorem ty_br43 : BR 43 = false := by kernel_rfl
theorem ty_br44 : BR 44 = false := by kernel_rfl
theorem ty_br45 : BR 45 = false := by kernel_rfl
theorem ty_br46 : BR 46 = false := by kernel_rfl
theorem ty_br47 : BR 47 = false := by kernel_rfl
theorem ty_br48 : BR 48 = false := by kernel_rfl
theorem ty_br49 : BR 49 = false := by kernel_rfl
theorem ty_br50 : BR 50 = false := by kernel_rfl
theorem ty_br51 : BR 51 = false := by kernel_rfl
theorem ty_br52 : BR 52 = false := by kernel_rfl
theorem ty_br53 : BR 53 = true := by kernel_rfl
theorem ty_br54 : BR 54 = false := by kernel_rfl
theorem ty_br55 : BR 55 = false := by kernel_rfl
theorem ty_br57 : BR 57 = false := by kernel_rfl
theorem ty_br56 : BR 56 = false := by kernel_rfl
theorem ty_br58 : BR 58 = false := by kernel_rfl
theorem ty_br59 : BR 59 = false := by kernel_rfl
theorem ty_br60 : BR 60 = true := by kernel_rfl
theorem ty_sz91 : szA Try.prog 91 = some (2, true) := by kernel_rfl
theorem ty_br61 : BR 61 = false := by kernel_rfl
theorem ty_br63 : BR 63 = false := by kernel_rfl
theorem ty_br62 : BR 62 = false := by kernel_rfl
theorem ty_zr95 : zeroA Try.prog 95 = some ([.int .i64 0, .nil]) := by kernel_rfl
theorem ty_sz95 : szA Try.prog 95 = some (2, true) := by kernel_rfl
theorem ty_br64 : BR 64 = false := by kernel_rfl
theorem ty_br65 : BR 65 = false := by kernel_rfl
theorem ty_br66 : BR 66 = true := by kernel_rfl
theorem ty_fl24_1 : fldA Try.prog 24 1 = some (1, 1, false) := by kernel_rfl
theorem ty_sz22 : szA Try.prog 22 = some (1, false) := by kernel_rfl
theorem ty_br67 : BR 67 = false := by kernel_rfl
theorem ty_br68 : BR 68 = false := by kernel_rfl
theorem ty_br69 : BR 69 = false := by kernel_rfl
theorem ty_fl33_0 : fldA Try.prog 33 0 = some (0, 1, false) := by kernel_rfl
theorem ty_st28 : isStT Try.prog 28 = true := by kernel_rfl
theorem ty_fl28_3 : fldA Try.prog 28 3 = some (3, 1, false) := by kernel_rfl
theorem ty_pl28_0 : placeA Try.prog 28 0 = some (0, 1) := by kernel_rfl
theorem ty_pl28_3 : placeA Try.prog 28 3 = some (3, 1) := by kernel_rfl
theorem ty_fl28_1 : fldA Try.prog 28 1 = some (1, 1, false) := by kernel_rfl
theorem ty_it3 : isIntT Try.prog 3 = some (.i64) := by kernel_rfl
theorem ty_it101 : isIntT Try.prog 101 = some (.u64) := by kernel_rfl
theorem ty_fl33_1 : fldA Try.prog 33 1 = some (1, 1, false) := by kernel_rfl
theorem ty_sz31 : szA Try.prog 31 = some (1, false) := by kernel_rfl
theorem ty_el31 : elA Try.prog 31 = some (28, 4) := by kernel_rfl
theorem ty_fl28_2 : fldA Try.prog 28 2 = some (2, 1, false) := by kernel_rfl
theorem ty_fl24_0 : fldA Try.prog 24 0 = some (0, 1, false) := by kernel_rfl
theorem ty_br70 : BR 70 = false := by kernel_rfl
theorem ty_fl26_0 : fldA Try.prog 26 0 = some (0, 1, false) := by kernel_rfl
theorem ty_fl26_1 : fldA Try.prog 26 1 = some (1, 1, false) := by kernel_rfl
theorem ty_fl26_2 : fldA Try.prog 26 2 = some (2, 1, false) := by kernel_rfl
theorem ty_fl26_3 : fldA Try.prog 26 3 = some (3, 1, false) := by kernel_rfl
theorem ty_br71 : BR 71 = false := by kernel_rfl
theorem ty_br72 : BR 72 = false := by kernel_rfl
theorem ty_pl28_1 : placeA Try.prog 28 1 = some (1, 1) := by kernel_rfl
theorem ty_pl28_2 : placeA Try.prog 28 2 = some (2, 1) := by kernel_rfl
theorem ty_im28_3 : immB Try.prog 28 3 = false := by kernel_rfl
theorem ty_by28 : bytesA Try.prog 28 = 32 := by kernel_rfl
theorem ty_sl31 : isSlT Try.prog 31 = true := by kernel_rfl
theorem ty_br73 : BR 73 = false := by kernel_rfl
theorem ty_br74 : BR 74 = false := by kernel_rfl
theorem ty_br75 : BR 75 = false := by kernel_rfl
theorem ty_fl46_0 : fldA Try.prog 46 0 = some (0, 1, false) := by kernel_rfl
theorem ty_sz44 : szA Try.prog 44 = some (1, false) := by kernel_rfl
theorem ty_br76 : BR 76 = false := by kernel_rfl
theorem ty_fl46_1 : fldA Try.prog 46 1 = some (1, 2, true) := by kernel_rfl
theorem ty_fl50_0 : fldA Try.prog 50 0 = some (0, 1, false) := by kernel_rfl
theorem ty_sl44 : isSlT Try.prog 44 = true := by kernel_rfl
theorem ty_el44 : elA Try.prog 44 = some (3, 1) := by kernel_rfl
theorem ty_fl50_1 : fldA Try.prog 50 1 = some (1, 2, true) := by kernel_rfl
theorem ty_br77 : BR 77 = false := by kernel_rfl
theorem ty_br78 : BR 78 = false := by kernel_rfl
theorem ty_br79 : BR 79 = false := by kernel_rfl
theorem ty_br80 : BR 80 = false := by kernel_rfl
theorem ty_br81 : BR 81 = false := by kernel_rfl
theorem ty_fl55_0 : fldA Try.prog 55 0 = some (0, 1, false) := by kernel_rfl
theorem ty_fl57_0 : fldA Try.prog 57 0 = some (0, 1, false) := by kernel_rfl
theorem ty_fl55_1 : fldA Try.prog 55 1 = some (1, 1, false) := by kernel_rfl
theorem ty_fl57_1 : fldA Try.prog 57 1 = some (1, 1, false) := by kernel_rfl
theorem ty_fl55_2 : fldA Try.prog 55 2 = some (2, 1, false) := by kernel_rfl
theorem ty_fl57_2 : fldA Try.prog 57 2 = some (2, 1, false) := by kernel_rfl
theorem ty_fl55_3 : fldA Try.prog 55 3 = some (3, 1, false) := by kernel_rfl
theorem ty_fl57_3 : fldA Try.prog 57 3 = some (3, 1, false) := by kernel_rfl
theorem ty_br82 : BR 82 = false := by kernel_rfl
theorem ty_br83 : BR 83 = false := by kernel_rfl
theorem ty_br84 : BR 84 = false := by kernel_rfl
theorem ty_st33 : isStT Try.prog 33 = true := by kernel_rfl
theorem ty_pl33_0 : placeA Try.prog 33 0 = some (0, 1) := by kernel_rfl
theorem ty_im28_1 : immB Try.prog 28 1 = false := by kernel_rfl
theorem ty_br85 : BR 85 = true := by kernel_rfl
theorem ty_br86 : BR 86 = false := by kernel_rfl
theorem ty_sl64 : isSlT Try.prog 64 = true := by kernel_rfl
theorem ty_br87 : BR 87 = false := by kernel_rfl
theorem ty_br88 : BR 88 = true := by kernel_rfl
theorem ty_br89 : BR 89 = true := by kernel_rfl
theorem ty_br90 : BR 90 = true := by kernel_rfl
theorem ty_br91 : BR 91 = true := by kernel_rfl
theorem ty_br92 : BR 92 = true := by kernel_rfl
theorem ty_br93 : BR 93 = true := by kernel_rfl
theorem ty_el64 : elA Try.prog 64 = some (5, 1) := by kernel_rfl
theorem ty_br94 : BR 94 = false := by kernel_rfl
theorem ty_br95 : BR 95 = true := by kernel_rfl
theorem ty_br96 : BR 96 = false := by kernel_rfl
theorem ty_br98 : BR 98 = false := by kernel_rfl
theorem ty_br97 : BR 97 = false := by kernel_rfl
theorem ty_br99 : BR 99 = false := by kernel_rfl
theorem ty_im57_0 : immB Try.prog 57 0 = false := by kernel_rfl
theorem ty_by57 : bytesA Try.prog 57 = 32 := by kernel_rfl
theorem ty_el85 : elA Try.prog 85 = some (57, 4) := by kernel_rfl
theorem ty_im85_1 : immB Try.prog 85 1 = false := by kernel_rfl
theorem ty_by85 : bytesA Try.prog 85 = 24 := by kernel_rfl
theorem ty_el77 : elA Try.prog 77 = some (85, 1) := by kernel_rfl
theorem ty_zr85 : zeroA Try.prog 85 = some ([.nil]) := by kernel_rfl
theorem ty_br100 : BR 100 = false := by kernel_rfl
theorem ty_im33_1 : immB Try.prog 33 1 = false := by kernel_rfl
theorem ty_by33 : bytesA Try.prog 33 = 32 := by kernel_rfl
theorem ty_el125 : elA Try.prog 125 = some (33, 2) := by kernel_rfl
theorem ty_sl77 : isSlT Try.prog 77 = true := by kernel_rfl
theorem ty_br101 : BR 101 = false := by kernel_rfl
theorem ty_sl125 : isSlT Try.prog 125 = true := by kernel_rfl
theorem ty_br102 : BR 102 = false := by kernel_rfl
theorem ty_sz85 : szA Try.prog 85 = some (1, false) := by kernel_rfl
theorem ty_br103 : BR 103 = false := by kernel_rfl
theorem ty_im57_1 : immB Try.prog 57 1 = false := by kernel_rfl
theorem ty_br104 : BR 104 = false := by kernel_rfl
theorem ty_sl82 : isSlT Try.prog 82 = true := by kernel_rfl
theorem ty_st95 : isStT Try.prog 95 = true := by kernel_rfl
theorem ty_pl95_0 : placeA Try.prog 95 0 = some (0, 1) := by kernel_rfl
theorem ty_pl95_1 : placeA Try.prog 95 1 = some (1, 1) := by kernel_rfl
theorem ty_el82 : elA Try.prog 82 = some (55, 4) := by kernel_rfl
theorem ty_sl85 : isSlT Try.prog 85 = true := by kernel_rfl
theorem ty_br105 : BR 105 = false := by kernel_rfl
theorem ty_fl91_1 : fldA Try.prog 91 1 = some (1, 1, false) := by kernel_rfl
theorem ty_sz82 : szA Try.prog 82 = some (1, false) := by kernel_rfl
theorem ty_br106 : BR 106 = false := by kernel_rfl
theorem ty_fl95_0 : fldA Try.prog 95 0 = some (0, 1, false) := by kernel_rfl
theorem ty_br107 : BR 107 = false := by kernel_rfl
theorem ty_fl95_1 : fldA Try.prog 95 1 = some (1, 1, false) := by kernel_rfl
theorem ty_fl91_0 : fldA Try.prog 91 0 = some (0, 1, false) := by kernel_rfl
theorem ty_br108 : BR 108 = false := by kernel_rfl
theorem ty_sl22 : isSlT Try.prog 22 = true := by kernel_rfl
theorem ty_br109 : BR 109 = false := by kernel_rfl
theorem ty_br110 : BR 110 = false := by kernel_rfl
theorem ty_el22 : elA Try.prog 22 = some (26, 4) := by kernel_rfl
theorem ty_zr3 : zeroA Try.prog 3 = some ([.int .i64 0]) := by kernel_rfl
theorem ty_by3 : bytesA Try.prog 3 = 8 := by kernel_rfl
theorem ty_br111 : BR 111 = false := by kernel_rfl
theorem ty_im3_3 : immB Try.prog 3 3 = true := by kernel_rfl
theorem ty_br112 : BR 112 = false := by kernel_rfl
theorem ty_br113 : BR 113 = false := by kernel_rfl
theorem ty_br114 : BR 114 = false := by kernel_rfl
theorem ty_br115 : BR 115 = false := by kernel_rfl
theorem ty_sz5 : szA Try.prog 5 = some (1, false) := by kernel_rfl
theorem ty_it5 : isIntT Try.prog 5 = some (.u8) := by kernel_rfl
theorem ty_zr137 : zeroA Try.prog 137 = some ([.nil, .int .i64 0, .int .i64 0]) := by kernel_rfl
theorem ty_st137 : isStT Try.prog 137 = true := by kernel_rfl
theorem ty_pl137_0 : placeA Try.prog 137 0 = some (0, 1) := by kernel_rfl
theorem ty_pl137_2 : placeA Try.prog 137 2 = some (2, 1) := by kernel_rfl
theorem ty_br116 : BR 116 = true := by kernel_rfl
theorem ty_im3_4 : immB Try.prog 3 4 = true := by kernel_rfl
theorem ty_br117 : BR 117 = true := by kernel_rfl
theorem ty_br118 : BR 118 = true := by kernel_rfl
theorem ty_im3_11 : immB Try.prog 3 11 = true := by kernel_rfl
theorem ty_br119 : BR 119 = true := by kernel_rfl
theorem ty_br120 : BR 120 = false := by kernel_rfl
theorem ty_br121 : BR 121 = true := by kernel_rfl
theorem ty_im3_6 : immB Try.prog 3 6 = true := by kernel_rfl
theorem ty_br122 : BR 122 = false := by kernel_rfl
theorem ty_br123 : BR 123 = false := by kernel_rfl
theorem ty_st57 : isStT Try.prog 57 = true := by kernel_rfl
theorem ty_pl57_0 : placeA Try.prog 57 0 = some (0, 1) := by kernel_rfl
theorem ty_pl57_1 : placeA Try.prog 57 1 = some (1, 1) := by kernel_rfl
theorem ty_br124 : BR 124 = false := by kernel_rfl
theorem ty_im3_0 : immB Try.prog 3 0 = false := by kernel_rfl
theorem ty_fl137_2 : fldA Try.prog 137 2 = some (2, 1, false) := by kernel_rfl
theorem ty_fl137_1 : fldA Try.prog 137 1 = some (1, 1, false) := by kernel_rfl
theorem ty_fl137_0 : fldA Try.prog 137 0 = some (0, 1, false) := by kernel_rfl
theorem ty_sz64 : szA Try.prog 64 = some (1, false) := by kernel_rfl
theorem ty_im3_5 : immB Try.prog 3 5 = true := by kernel_rfl
theorem ty_im3_8 : immB Try.prog 3 8 = true := by kernel_rfl
theorem ty_br125 : BR 125 = true := by kernel_rfl
theorem ty_br128 : BR 128 = true := by kernel_rfl
theorem ty_br129 : BR 129 = false := by kernel_rfl
theorem ty_im3_1 : immB Try.prog 3 1 = true := by kernel_rfl
def TY :=
 (And.intro
 (And.intro
 (And.intro
 (And.intro
 (And.intro
 (And.intro
 (And.intro
 ty_fz
 (And.intro
 ty_sz24
 ty_br15))
 (And.intro
 (And.intro
 ty_bt3
 ty_br17)
 (And.intro
 ty_sz26
 ty_br18)))
 (And.intro
 (And.intro
 ty_br16
 (And.intro
 ty_zr28
 ty_sz28))
 (And.intro
 (And.intro
 ty_zr33
 ty_sz33)
 (And.intro
 ty_br19
 ty_br20))))
 (And.intro
 (And.intro
 (And.intro
 ty_bt4
 (And.intro
 ty_br21
 ty_br22))
 (And.intro
 (And.intro
 ty_br23
 ty_br24)
 (And.intro
 ty_br25
 ty_sz46)))
 (And.intro
 (And.intro
 ty_br26
 (And.intro
 ty_br28
 ty_br27))
 (And.intro
 (And.intro
 ty_zr50
 ty_sz50)
 (And.intro
 ty_br29
 ty_br30)))))
 (And.intro
 (And.intro
 (And.intro
 (And.intro
 ty_sz55
 (And.intro
 ty_br32
 ty_br31))
 (And.intro
 (And.intro
 ty_br33
 ty_br34)
 (And.intro
 ty_br35
 ty_br36)))
 (And.intro
 (And.intro
 ty_br37
 (And.intro
 ty_br38
 ty_br39))
 (And.intro
 (And.intro
 ty_zr57
 ty_sz57)
 (And.intro
 ty_br40
 ty_fl28_0))))
 (And.intro
 (And.intro
 (And.intro
 ty_sz3
 (And.intro
 ty_br41
 ty_fn28))
 (And.intro
 (And.intro
 ty_br42
 ty_br43)
 (And.intro
 ty_br44
 ty_br45)))
 (And.intro
 (And.intro
 (And.intro
 ty_br46
 ty_br47)
 (And.intro
 ty_br48
 ty_br49))
 (And.intro
 (And.intro
 ty_br50
 ty_br51)
 (And.intro
 ty_br52
 ty_br53))))))
 (And.intro
 (And.intro
 (And.intro
 (And.intro
 (And.intro
 ty_br54
 (And.intro
 ty_br55
 ty_br57))
 (And.intro
 (And.intro
 ty_br56
 ty_br58)
 (And.intro
 ty_br59
 ty_br60)))
 (And.intro
 (And.intro
 ty_sz91
 (And.intro
 ty_br61
 ty_br63))
 (And.intro
 (And.intro
 ty_br62
 ty_zr95)
 (And.intro
 ty_sz95
 ty_br64))))
 (And.intro
 (And.intro
 (And.intro
 ty_br65
 (And.intro
 ty_br66
 ty_fl24_1))
 (And.intro
 (And.intro
 ty_sz22
 ty_br67)
 (And.intro
 ty_br68
 ty_br69)))
 (And.intro
 (And.intro
 ty_fl33_0
 (And.intro
 ty_st28
 ty_fl28_3))
 (And.intro
 (And.intro
 ty_pl28_0
 ty_pl28_3)
 (And.intro
 ty_fl28_1
 ty_it3)))))
 (And.intro
 (And.intro
 (And.intro
 (And.intro
 ty_it101
 (And.intro
 ty_fl33_1
 ty_sz31))
 (And.intro
 (And.intro
 ty_el31
 ty_fl28_2)
 (And.intro
 ty_fl24_0
 ty_br70)))
 (And.intro
 (And.intro
 ty_fl26_0
 (And.intro
 ty_fl26_1
 ty_fl26_2))
 (And.intro
 (And.intro
 ty_fl26_3
 ty_br71)
 (And.intro
 ty_br72
 ty_pl28_1))))
 (And.intro
 (And.intro
 (And.intro
 ty_pl28_2
 (And.intro
 ty_im28_3
 ty_by28))
 (And.intro
 (And.intro
 ty_sl31
 ty_br73)
 (And.intro
 ty_br74
 ty_br75)))
 (And.intro
 (And.intro
 (And.intro
 ty_fl46_0
 ty_sz44)
 (And.intro
 ty_br76
 ty_fl46_1))
 (And.intro
 (And.intro
 ty_fl50_0
 ty_sl44)
 (And.intro
 ty_el44
 ty_fl50_1)))))))
 (And.intro
 (And.intro
 (And.intro
 (And.intro
 (And.intro
 (And.intro
 ty_br77
 (And.intro
 ty_br78
 ty_br79))
 (And.intro
 (And.intro
 ty_br80
 ty_br81)
 (And.intro
 ty_fl55_0
 ty_fl57_0)))
 (And.intro
 (And.intro
 ty_fl55_1
 (And.intro
 ty_fl57_1
 ty_fl55_2))
 (And.intro
 (And.intro
 ty_fl57_2
 ty_fl55_3)
 (And.intro
 ty_fl57_3
 ty_br82))))
 (And.intro
 (And.intro
 (And.intro
 ty_br83
 (And.intro
 ty_br84
 ty_st33))
 (And.intro
 (And.intro
 ty_pl33_0
 ty_im28_1)
 (And.intro
 ty_br85
 ty_br86)))
 (And.intro
 (And.intro
 ty_sl64
 (And.intro
 ty_br87
 ty_br88))
 (And.intro
 (And.intro
 ty_br89
 ty_br90)
 (And.intro
 ty_br91
 ty_br92)))))
 (And.intro
 (And.intro
 (And.intro
 (And.intro
 ty_br93
 (And.intro
 ty_el64
 ty_br94))
 (And.intro
 (And.intro
 ty_br95
 ty_br96)
 (And.intro
 ty_br98
 ty_br97)))
 (And.intro
 (And.intro
 ty_br99
 (And.intro
 ty_im57_0
 ty_by57))
 (And.intro
 (And.intro
 ty_el85
 ty_im85_1)
 (And.intro
 ty_by85
 ty_el77))))
 (And.intro
 (And.intro
 (And.intro
 ty_zr85
 (And.intro
 ty_br100
 ty_im33_1))
 (And.intro
 (And.intro
 ty_by33
 ty_el125)
 (And.intro
 ty_sl77
 ty_br101)))
 (And.intro
 (And.intro
 (And.intro
 ty_sl125
 ty_br102)
 (And.intro
 ty_sz85
 ty_br103))
 (And.intro
 (And.intro
 ty_im57_1
 ty_br104)
 (And.intro
 ty_sl82
 ty_st95))))))
 (And.intro
 (And.intro
 (And.intro
 (And.intro
 (And.intro
 ty_pl95_0
 (And.intro
 ty_pl95_1
 ty_el82))
 (And.intro
 (And.intro
 ty_sl85
 ty_br105)
 (And.intro
 ty_fl91_1
 ty_sz82)))
 (And.intro
 (And.intro
 ty_br106
 (And.intro
 ty_fl95_0
 ty_br107))
 (And.intro
 (And.intro
 ty_fl95_1
 ty_fl91_0)
 (And.intro
 ty_br108
 ty_sl22))))
 (And.intro
 (And.intro
 (And.intro
 ty_br109
 (And.intro
 ty_br110
 ty_el22))
 (And.intro
 (And.intro
 ty_zr3
 ty_by3)
 (And.intro
 ty_br111
 ty_im3_3)))
 (And.intro
 (And.intro
 ty_br112
 (And.intro
 ty_br113
 ty_br114))
 (And.intro
 (And.intro
 ty_br115
 ty_sz5)
 (And.intro
 ty_it5
 ty_zr137)))))
 (And.intro
 (And.intro
 (And.intro
 (And.intro
 ty_st137
 (And.intro
 ty_pl137_0
 ty_pl137_2))
 (And.intro
 (And.intro
 ty_br116
 ty_im3_4)
 (And.intro
 ty_br117
 ty_br118)))
 (And.intro
 (And.intro
 ty_im3_11
 (And.intro
 ty_br119
 ty_br120))
 (And.intro
 (And.intro
 ty_br121
 ty_im3_6)
 (And.intro
 ty_br122
 ty_br123))))
 (And.intro
 (And.intro
 (And.intro
 ty_st57
 (And.intro
 ty_pl57_0
 ty_pl57_1))
 (And.intro
 (And.intro
 ty_br124
 ty_im3_0)
 (And.intro
 ty_fl137_2
 ty_fl137_1)))
 (And.intro
 (And.intro
 (And.intro
 ty_fl137_0
 ty_sz64)
 (And.intro
 ty_im3_5
 ty_im3_8))
 (And.intro
 (And.intro
 ty_br125
 ty_br128)
 (And.intro
 ty_br129
 ty_im3_1))))))))
end Go.Proofs.Ytfpfalknddfejaa
-- NAMES ty_im3_1, ty_br129, ty_br128, ty_br125, ty_im3_8, ty_im3_5, ty_sz64, ty_fl137_0, ty_fl137_1, ty_fl137_2, ty_im3_0, ty_br124, ty_pl57_1, ty_pl57_0, ty_st57, ty_br123, ty_br122, ty_im3_6, ty_br121, ty_br120, ty_br119, ty_im3_11, ty_br118, ty_br117, ty_im3_4, ty_br116, ty_pl137_2, ty_pl137_0, ty_st137, ty_zr137, ty_it5, ty_sz5, ty_br115, ty_br114, ty_br113, ty_br112, ty_im3_3, ty_br111, ty_by3, ty_zr3, ty_el22, ty_br110, ty_br109, ty_sl22, ty_br108, ty_fl91_0, ty_fl95_1, ty_br107, ty_fl95_0, ty_br106, ty_sz82, ty_fl91_1, ty_br105, ty_sl85, ty_el82, ty_pl95_1, ty_pl95_0, ty_st95, ty_sl82, ty_br104, ty_im57_1, ty_br103, ty_sz85, ty_br102, ty_sl125, ty_br101, ty_sl77, ty_el125, ty_by33, ty_im33_1, ty_br100, ty_zr85, ty_el77, ty_by85, ty_im85_1, ty_el85, ty_by57, ty_im57_0, ty_br99, ty_br97, ty_br98, ty_br96, ty_br95, ty_br94, ty_el64, ty_br93, ty_br92, ty_br91, ty_br90, ty_br89, ty_br88, ty_br87, ty_sl64, ty_br86, ty_br85, ty_im28_1, ty_pl33_0, ty_st33, ty_br84, ty_br83, ty_br82, ty_fl57_3, ty_fl55_3, ty_fl57_2, ty_fl55_2, ty_fl57_1, ty_fl55_1, ty_fl57_0, ty_fl55_0, ty_br81, ty_br80, ty_br79, ty_br78, ty_br77, ty_fl50_1, ty_el44, ty_sl44, ty_fl50_0, ty_fl46_1, ty_br76, ty_sz44, ty_fl46_0, ty_br75, ty_br74, ty_br73, ty_sl31, ty_by28, ty_im28_3, ty_pl28_2, ty_pl28_1, ty_br72, ty_br71, ty_fl26_3, ty_fl26_2, ty_fl26_1, ty_fl26_0, ty_br70, ty_fl24_0, ty_fl28_2, ty_el31, ty_sz31, ty_fl33_1, ty_it101, ty_it3, ty_fl28_1, ty_pl28_3, ty_pl28_0, ty_fl28_3, ty_st28, ty_fl33_0, ty_br69, ty_br68, ty_br67, ty_sz22, ty_fl24_1, ty_br66, ty_br65, ty_br64, ty_sz95, ty_zr95, ty_br62, ty_br63, ty_br61, ty_sz91, ty_br60, ty_br59, ty_br58, ty_br56, ty_br57, ty_br55, ty_br54, ty_br53, ty_br52, ty_br51, ty_br50, ty_br49, ty_br48, ty_br47, ty_br46, ty_br45, ty_br44, ty_br43, ty_br42, ty_fn28, ty_br41, ty_sz3, ty_fl28_0, ty_br40, ty_sz57, ty_zr57, ty_br39, ty_br38, ty_br37, ty_br36, ty_br35, ty_br34, ty_br33, ty_br31, ty_br32, ty_sz55, ty_br30, ty_br29, ty_sz50, ty_zr50, ty_br27, ty_br28, ty_br26, ty_sz46, ty_br25, ty_br24, ty_br23, ty_br22, ty_br21, ty_bt4, ty_br20, ty_br19, ty_sz33, ty_zr33, ty_sz28, ty_zr28, ty_br16, ty_br18, ty_sz26, ty_br17, ty_bt3, ty_br15, ty_sz24, ty_fz
