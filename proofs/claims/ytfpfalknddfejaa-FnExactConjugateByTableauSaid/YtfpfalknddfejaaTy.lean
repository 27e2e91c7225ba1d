/- Facts on the program's types, printed by a program. -/
import Derived.Test.YtfpfalknddfejaaProg
import Derived.Test.YtfpfalknddfejaaEo
namespace Go.Proofs.Ytfpfalknddfejaa
open Go.RowKit
def BR (f : Nat) : Bool := [36, 53, 60, 66, 85, 88, 89, 90, 91, 92, 93, 95, 116, 117, 118, 119, 121, 125, 128, 138, 139, 140, 141, 142].contains f
theorem ty_sz24 : szA Try.prog 24 = some (2, true) := by kernel_rfl
theorem ty_bt3 : isBoolT Try.prog 3 = false := by kernel_rfl
theorem ty_sz26 : szA Try.prog 26 = some (4, true) := by kernel_rfl
theorem ty_zr28 : zeroA Try.prog 28 = some ([.int .i64 0, .int .i64 0, .int .i64 0, .int .i64 0]) := by kernel_rfl
theorem ty_sz28 : szA Try.prog 28 = some (4, true) := by kernel_rfl
theorem ty_zr33 : zeroA Try.prog 33 = some ([.int .i64 0, .nil]) := by kernel_rfl
theorem ty_sz33 : szA Try.prog 33 = some (2, true) := by kernel_rfl
theorem ty_bt4 : isBoolT Try.prog 4 = true := by kernel_rfl
theorem ty_sz46 : szA Try.prog 46 = some (3, true) := by kernel_rfl
theorem ty_zr50 : zeroA Try.prog 50 = some ([.nil, .int .i64 0, .nil]) := by kernel_rfl
theorem ty_sz50 : szA Try.prog 50 = some (3, true) := by kernel_rfl
theorem ty_sz55 : szA Try.prog 55 = some (4, true) := by kernel_rfl
theorem ty_zr57 : zeroA Try.prog 57 = some ([.int .i64 0, .int .i64 0, .int .i64 0, .int .i64 0]) := by kernel_rfl
theorem ty_sz57 : szA Try.prog 57 = some (4, true) := by kernel_rfl
theorem ty_fl28_0 : fldA Try.prog 28 0 = some (0, 1, false) := by kernel_rfl
theorem ty_sz3 : szA Try.prog 3 = some (1, false) := by kernel_rfl
theorem ty_bt28 : isBoolT Try.prog 28 = false := by kernel_rfl
theorem ty_sz91 : szA Try.prog 91 = some (2, true) := by kernel_rfl
theorem ty_zr95 : zeroA Try.prog 95 = some ([.int .i64 0, .nil]) := by kernel_rfl
theorem ty_sz95 : szA Try.prog 95 = some (2, true) := by kernel_rfl
theorem ty_fl24_1 : fldA Try.prog 24 1 = some (1, 1, false) := by kernel_rfl
theorem ty_sz22 : szA Try.prog 22 = some (1, false) := by kernel_rfl
theorem ty_fl33_0 : fldA Try.prog 33 0 = some (0, 1, false) := by kernel_rfl
theorem ty_st28 : isStT Try.prog 28 = true := by kernel_rfl
theorem ty_fl28_3 : fldA Try.prog 28 3 = some (3, 1, false) := by kernel_rfl
theorem ty_pl28_0 : placeA Try.prog 28 0 = some (0, 1) := by kernel_rfl
theorem ty_pl28_3 : placeA Try.prog 28 3 = some (3, 1) := by kernel_rfl
theorem ty_fl28_1 : fldA Try.prog 28 1 = some (1, 1, false) := by kernel_rfl
theorem ty_it3 : isIntT Try.prog 3 = some (.i64) := by kernel_rfl
theorem ty_it101 : isIntT Try.prog 101 = some (.u64) := by kernel_rfl
theorem ty_fl33_1 : fldA Try.prog 33 1 = some (1, 1, false) := by kernel_rfl
theorem ty_sz31 : szA Try.prog 31 = some (1, false) := by kernel_rfl
theorem ty_el31 : elA Try.prog 31 = some (28, 4) := by kernel_rfl
theorem ty_fl28_2 : fldA Try.prog 28 2 = some (2, 1, false) := by kernel_rfl
theorem ty_fl24_0 : fldA Try.prog 24 0 = some (0, 1, false) := by kernel_rfl
theorem ty_fl26_0 : fldA Try.prog 26 0 = some (0, 1, false) := by kernel_rfl
theorem ty_fl26_1 : fldA Try.prog 26 1 = some (1, 1, false) := by kernel_rfl
theorem ty_fl26_2 : fldA Try.prog 26 2 = some (2, 1, false) := by kernel_rfl
theorem ty_fl26_3 : fldA Try.prog 26 3 = some (3, 1, false) := by kernel_rfl
theorem ty_pl28_1 : placeA Try.prog 28 1 = some (1, 1) := by kernel_rfl
theorem ty_pl28_2 : placeA Try.prog 28 2 = some (2, 1) := by kernel_rfl
theorem ty_sl31 : isSlT Try.prog 31 = true := by kernel_rfl
theorem ty_fl46_0 : fldA Try.prog 46 0 = some (0, 1, false) := by kernel_rfl
theorem ty_sz44 : szA Try.prog 44 = some (1, false) := by kernel_rfl
theorem ty_fl46_1 : fldA Try.prog 46 1 = some (1, 2, true) := by kernel_rfl
theorem ty_fl50_0 : fldA Try.prog 50 0 = some (0, 1, false) := by kernel_rfl
theorem ty_sl44 : isSlT Try.prog 44 = true := by kernel_rfl
theorem ty_el44 : elA Try.prog 44 = some (3, 1) := by kernel_rfl
theorem ty_fl50_1 : fldA Try.prog 50 1 = some (1, 2, true) := by kernel_rfl
theorem ty_fl55_0 : fldA Try.prog 55 0 = some (0, 1, false) := by kernel_rfl
theorem ty_fl57_0 : fldA Try.prog 57 0 = some (0, 1, false) := by kernel_rfl
theorem ty_fl55_1 : fldA Try.prog 55 1 = some (1, 1, false) := by kernel_rfl
theorem ty_fl57_1 : fldA Try.prog 57 1 = some (1, 1, false) := by kernel_rfl
theorem ty_fl55_2 : fldA Try.prog 55 2 = some (2, 1, false) := by kernel_rfl
theorem ty_fl57_2 : fldA Try.prog 57 2 = some (2, 1, false) := by kernel_rfl
theorem ty_fl55_3 : fldA Try.prog 55 3 = some (3, 1, false) := by kernel_rfl
theorem ty_fl57_3 : fldA Try.prog 57 3 = some (3, 1, false) := by kernel_rfl
theorem ty_st33 : isStT Try.prog 33 = true := by kernel_rfl
theorem ty_pl33_0 : placeA Try.prog 33 0 = some (0, 1) := by kernel_rfl
theorem ty_by28 : bytesA Try.prog 28 = 32 := by kernel_rfl
theorem ty_sl64 : isSlT Try.prog 64 = true := by kernel_rfl
theorem ty_el64 : elA Try.prog 64 = some (5, 1) := by kernel_rfl
theorem ty_el85 : elA Try.prog 85 = some (57, 4) := by kernel_rfl
theorem ty_el77 : elA Try.prog 77 = some (85, 1) := by kernel_rfl
theorem ty_zr85 : zeroA Try.prog 85 = some ([.nil]) := by kernel_rfl
theorem ty_el125 : elA Try.prog 125 = some (33, 2) := by kernel_rfl
theorem ty_sl77 : isSlT Try.prog 77 = true := by kernel_rfl
theorem ty_sl125 : isSlT Try.prog 125 = true := by kernel_rfl
theorem ty_sz85 : szA Try.prog 85 = some (1, false) := by kernel_rfl
theorem ty_by57 : bytesA Try.prog 57 = 32 := by kernel_rfl
theorem ty_by85 : bytesA Try.prog 85 = 24 := by kernel_rfl
theorem ty_by33 : bytesA Try.prog 33 = 32 := by kernel_rfl
theorem ty_sl82 : isSlT Try.prog 82 = true := by kernel_rfl
theorem ty_st95 : isStT Try.prog 95 = true := by kernel_rfl
theorem ty_pl95_0 : placeA Try.prog 95 0 = some (0, 1) := by kernel_rfl
theorem ty_pl95_1 : placeA Try.prog 95 1 = some (1, 1) := by kernel_rfl
theorem ty_el82 : elA Try.prog 82 = some (55, 4) := by kernel_rfl
theorem ty_sl85 : isSlT Try.prog 85 = true := by kernel_rfl
theorem ty_fl91_1 : fldA Try.prog 91 1 = some (1, 1, false) := by kernel_rfl
theorem ty_sz82 : szA Try.prog 82 = some (1, false) := by kernel_rfl
theorem ty_fl95_0 : fldA Try.prog 95 0 = some (0, 1, false) := by kernel_rfl
theorem ty_fl95_1 : fldA Try.prog 95 1 = some (1, 1, false) := by kernel_rfl
theorem ty_fl91_0 : fldA Try.prog 91 0 = some (0, 1, false) := by kernel_rfl
theorem ty_sl22 : isSlT Try.prog 22 = true := by kernel_rfl
theorem ty_el22 : elA Try.prog 22 = some (26, 4) := by kernel_rfl
theorem ty_zr3 : zeroA Try.prog 3 = some ([.int .i64 0]) := by kernel_rfl
theorem ty_by3 : bytesA Try.prog 3 = 8 := by kernel_rfl
theorem ty_sz5 : szA Try.prog 5 = some (1, false) := by kernel_rfl
theorem ty_it5 : isIntT Try.prog 5 = some (.u8) := by kernel_rfl
theorem ty_zr137 : zeroA Try.prog 137 = some ([.nil, .int .i64 0, .int .i64 0]) := by kernel_rfl
theorem ty_st137 : isStT Try.prog 137 = true := by kernel_rfl
theorem ty_pl137_0 : placeA Try.prog 137 0 = some (0, 1) := by kernel_rfl
theorem ty_pl137_2 : placeA Try.prog 137 2 = some (2, 1) := by kernel_rfl
theorem ty_st57 : isStT Try.prog 57 = true := by kernel_rfl
theorem ty_pl57_0 : placeA Try.prog 57 0 = some (0, 1) := by kernel_rfl
theorem ty_pl57_1 : placeA Try.prog 57 1 = some (1, 1) := by kernel_rfl
theorem ty_fl137_2 : fldA Try.prog 137 2 = some (2, 1, false) := by kernel_rfl
theorem ty_fl137_1 : fldA Try.prog 137 1 = some (1, 1, false) := by kernel_rfl
theorem ty_fl137_0 : fldA Try.prog 137 0 = some (0, 1, false) := by kernel_rfl
theorem ty_sz64 : szA Try.prog 64 = some (1, false) := by kernel_rfl
end Go.Proofs.Ytfpfalknddfejaa
-- NAMES ty_sz64, ty_fl137_0, ty_fl137_1, ty_fl137_2, ty_pl57_1, ty_pl57_0, ty_st57, ty_pl137_2, ty_pl137_0, ty_st137, ty_zr137, ty_it5, ty_sz5, ty_by3, ty_zr3, ty_el22, ty_sl22, ty_fl91_0, ty_fl95_1, ty_fl95_0, ty_sz82, ty_fl91_1, ty_sl85, ty_el82, ty_pl95_1, ty_pl95_0, ty_st95, ty_sl82, ty_by33, ty_by85, ty_by57, ty_sz85, ty_sl125, ty_sl77, ty_el125, ty_zr85, ty_el77, ty_el85, ty_el64, ty_sl64, ty_by28, ty_pl33_0, ty_st33, ty_fl57_3, ty_fl55_3, ty_fl57_2, ty_fl55_2, ty_fl57_1, ty_fl55_1, ty_fl57_0, ty_fl55_0, ty_fl50_1, ty_el44, ty_sl44, ty_fl50_0, ty_fl46_1, ty_sz44, ty_fl46_0, ty_sl31, ty_pl28_2, ty_pl28_1, ty_fl26_3, ty_fl26_2, ty_fl26_1, ty_fl26_0, ty_fl24_0, ty_fl28_2, ty_el31, ty_sz31, ty_fl33_1, ty_it101, ty_it3, ty_fl28_1, ty_pl28_3, ty_pl28_0, ty_fl28_3, ty_st28, ty_fl33_0, ty_sz22, ty_fl24_1, ty_sz95, ty_zr95, ty_sz91, ty_bt28, ty_sz3, ty_fl28_0, ty_sz57, ty_zr57, ty_sz55, ty_sz50, ty_zr50, ty_sz46, ty_bt4, ty_sz33, ty_zr33, ty_sz28, ty_zr28, ty_sz26, ty_bt3, ty_sz24
