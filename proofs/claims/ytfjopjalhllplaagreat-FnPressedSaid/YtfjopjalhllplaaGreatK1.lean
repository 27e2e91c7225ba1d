/- Joined texts: Ty Gn Ih Gt Fs Br By. -/
import Derived.Test.YtfjopjalhllplaaGreatProg
import Derived.Test.YtfjopjalhllplaaGreatKGb
import Derived.Test.YtfjopjalhllplaaGreatKIg
import Derived.WalkKit
import Derived.Lib.Hide
import Derived.Handy
import Derived.Deep.QuietTactic
import Derived.BigQuiet
import Derived.Deep.Slices
import Derived.Deep.Fields
import Derived.Lib.SmallJoins
import Derived.Test.YtfjopjalhllplaaGreatRows
import Derived.ProofKit
import Derived.OpenShut
import Derived.ShutString
import Derived.ChangeOld
/- Facts on the program's types, printed by a program. -/
namespace Go.Proofs.YtfjopjalhllplaaGreat
open Go.RowKit
set_option linter.defProp false
def BR (f : Nat) : Bool := [27, 34, 52, 53, 56, 70, 71, 72, 73, 93, 94, 97, 98, 109, 110, 130, 133, 135, 136, 141, 143, 146, 173, 182, 213, 250, 251, 252, 253, 254].contains f
theorem ty_fz (n : Nat) : FZ BR n = false := by
  show List.contains _ (1000000 + n) = false
  rw [List.contains_eq_mem]
  refine decide_eq_false ?_
  simp only [List.mem_cons, List.not_mem_nil, or_false]
  omega
theorem ty_br6 : BR 6 = false := by kernel_rfl
theorem ty_br14 : BR 14 = false := by kernel_rfl
theorem ty_br15 : BR 15 = false := by kernel_rfl
theorem ty_br17 : BR 17 = false := by kernel_rfl
theorem ty_br16 : BR 16 = false := by kernel_rfl
theorem ty_br18 : BR 18 = false := by kernel_rfl
theorem ty_br19 : BR 19 = false := by kernel_rfl
theorem ty_bt3 : isBoolT Tryz.prog 3 = false := by kernel_rfl
theorem ty_sl40 : isSlT Tryz.prog 40 = true := by kernel_rfl
theorem ty_el40 : elA Tryz.prog 40 = some (48, 4) := by kernel_rfl
theorem ty_sz48 : szA Tryz.prog 48 = some (4, true) := by kernel_rfl
theorem ty_br20 : BR 20 = false := by kernel_rfl
theorem ty_br21 : BR 21 = false := by kernel_rfl
theorem ty_br22 : BR 22 = false := by kernel_rfl
theorem ty_sl22 : isSlT Tryz.prog 22 = true := by kernel_rfl
theorem ty_br28 : BR 28 = false := by kernel_rfl
theorem ty_br34 : BR 34 = true := by kernel_rfl
theorem ty_zr66 : zeroA Tryz.prog 66 = some ([.int .i64 0, .nil]) := by kernel_rfl
theorem ty_sz66 : szA Tryz.prog 66 = some (2, true) := by kernel_rfl
theorem ty_fl66_1 : fldA Tryz.prog 66 1 = some (1, 1, false) := by kernel_rfl
theorem ty_sz40 : szA Tryz.prog 40 = some (1, false) := by kernel_rfl
theorem ty_fl66_0 : fldA Tryz.prog 66 0 = some (0, 1, false) := by kernel_rfl
theorem ty_sz3 : szA Tryz.prog 3 = some (1, false) := by kernel_rfl
theorem ty_zr48 : zeroA Tryz.prog 48 = some ([.int .i64 0, .int .i64 0, .int .i64 0, .int .i64 0]) := by kernel_rfl
theorem ty_br35 : BR 35 = false := by kernel_rfl
theorem ty_br36 : BR 36 = false := by kernel_rfl
theorem ty_im48_0 : immB Tryz.prog 48 0 = false := by kernel_rfl
theorem ty_by48 : bytesA Tryz.prog 48 = 32 := by kernel_rfl
theorem ty_zr40 : zeroA Tryz.prog 40 = some ([.nil]) := by kernel_rfl
theorem ty_zr69 : zeroA Tryz.prog 69 = some ([.nil, .nil, .nil, .nil]) := by kernel_rfl
theorem ty_st69 : isStT Tryz.prog 69 = false := by kernel_rfl
theorem ty_ar69 : arA Tryz.prog 69 = some (4, 1) := by kernel_rfl
theorem ty_sz69 : szA Tryz.prog 69 = some (4, true) := by kernel_rfl
theorem ty_fl48_0 : fldA Tryz.prog 48 0 = some (0, 1, false) := by kernel_rfl
theorem ty_br39 : BR 39 = false := by kernel_rfl
theorem ty_fl48_1 : fldA Tryz.prog 48 1 = some (1, 1, false) := by kernel_rfl
theorem ty_el69 : elA Tryz.prog 69 = none := by kernel_rfl
theorem ty_im48_1 : immB Tryz.prog 48 1 = false := by kernel_rfl
theorem ty_br40 : BR 40 = false := by kernel_rfl
theorem ty_sl51 : isSlT Tryz.prog 51 = true := by kernel_rfl
theorem ty_el51 : elA Tryz.prog 51 = some (3, 1) := by kernel_rfl
theorem ty_fn48 : flatN Tryz.prog 4 48 = some 4 := by kernel_rfl
theorem ty_el73 : elA Tryz.prog 73 = some (40, 1) := by kernel_rfl
theorem ty_by40 : bytesA Tryz.prog 40 = 24 := by kernel_rfl
theorem ty_br41 : BR 41 = false := by kernel_rfl
theorem ty_br42 : BR 42 = false := by kernel_rfl
theorem ty_br43 : BR 43 = false := by kernel_rfl
theorem ty_sl73 : isSlT Tryz.prog 73 = true := by kernel_rfl
theorem ty_fl48_2 : fldA Tryz.prog 48 2 = some (2, 1, false) := by kernel_rfl
theorem ty_fl48_3 : fldA Tryz.prog 48 3 = some (3, 1, false) := by kernel_rfl
theorem ty_im3_3 : immB Tryz.prog 3 3 = true := by kernel_rfl
theorem ty_by3 : bytesA Tryz.prog 3 = 8 := by kernel_rfl
theorem ty_zr3 : zeroA Tryz.prog 3 = some ([.int .i64 0]) := by kernel_rfl
theorem ty_br44 : BR 44 = false := by kernel_rfl
theorem ty_br45 : BR 45 = false := by kernel_rfl
theorem ty_im76_0 : immB Tryz.prog 76 0 = false := by kernel_rfl
theorem ty_by76 : bytesA Tryz.prog 76 = 24 := by kernel_rfl
theorem ty_el55 : elA Tryz.prog 55 = some (76, 1) := by kernel_rfl
theorem ty_zr76 : zeroA Tryz.prog 76 = some ([.nil]) := by kernel_rfl
theorem ty_it3 : isIntT Tryz.prog 3 = some (.i64) := by kernel_rfl
theorem ty_it32 : isIntT Tryz.prog 32 = some (.u64) := by kernel_rfl
theorem ty_br47 : BR 47 = false := by kernel_rfl
theorem ty_br46 : BR 46 = false := by kernel_rfl
theorem ty_im76_1 : immB Tryz.prog 76 1 = false := by kernel_rfl
theorem ty_br48 : BR 48 = false := by kernel_rfl
theorem ty_st66 : isStT Tryz.prog 66 = true := by kernel_rfl
theorem ty_pl66_1 : placeA Tryz.prog 66 1 = some (1, 1) := by kernel_rfl
theorem ty_br49 : BR 49 = false := by kernel_rfl
theorem ty_el22 : elA Tryz.prog 22 = some (5, 1) := by kernel_rfl
theorem ty_sz5 : szA Tryz.prog 5 = some (1, false) := by kernel_rfl
theorem ty_it5 : isIntT Tryz.prog 5 = some (.u8) := by kernel_rfl
theorem ty_zr95 : zeroA Tryz.prog 95 = some ([.nil, .int .i64 0, .int .i64 0]) := by kernel_rfl
theorem ty_st95 : isStT Tryz.prog 95 = true := by kernel_rfl
theorem ty_pl95_0 : placeA Tryz.prog 95 0 = some (0, 1) := by kernel_rfl
theorem ty_pl95_2 : placeA Tryz.prog 95 2 = some (2, 1) := by kernel_rfl
theorem ty_br71 : BR 71 = true := by kernel_rfl
theorem ty_br70 : BR 70 = true := by kernel_rfl
theorem ty_im3_5 : immB Tryz.prog 3 5 = true := by kernel_rfl
theorem ty_br72 : BR 72 = true := by kernel_rfl
theorem ty_br74 : BR 74 = false := by kernel_rfl
theorem ty_br73 : BR 73 = true := by kernel_rfl
theorem ty_br52 : BR 52 = true := by kernel_rfl
theorem ty_st48 : isStT Tryz.prog 48 = true := by kernel_rfl
theorem ty_pl48_0 : placeA Tryz.prog 48 0 = some (0, 1) := by kernel_rfl
theorem ty_br75 : BR 75 = false := by kernel_rfl
theorem ty_br38 : BR 38 = false := by kernel_rfl
theorem ty_br76 : BR 76 = false := by kernel_rfl
theorem ty_br77 : BR 77 = false := by kernel_rfl
theorem ty_zr118 : zeroA Tryz.prog 118 = some ([.nil, .int .i64 0, .nil]) := by kernel_rfl
theorem ty_sz118 : szA Tryz.prog 118 = some (3, true) := by kernel_rfl
theorem ty_br78 : BR 78 = false := by kernel_rfl
theorem ty_im3_0 : immB Tryz.prog 3 0 = false := by kernel_rfl
theorem ty_br79 : BR 79 = false := by kernel_rfl
theorem ty_br80 : BR 80 = false := by kernel_rfl
theorem ty_br81 : BR 81 = false := by kernel_rfl
theorem ty_br82 : BR 82 = false := by kernel_rfl
theorem ty_im36_0 : immB Tryz.prog 36 0 = false := by kernel_rfl
theorem ty_by36 : bytesA Tryz.prog 36 = 40 := by kernel_rfl
theorem ty_el76 : elA Tryz.prog 76 = some (36, 5) := by kernel_rfl
theorem ty_zr36 : zeroA Tryz.prog 36 = some ([.int .i64 0, .int .i64 0, .int .i64 0, .int .i64 0, .int .i64 0]) := by kernel_rfl
theorem ty_br83 : BR 83 = false := by kernel_rfl
theorem ty_br84 : BR 84 = false := by kernel_rfl
theorem ty_br85 : BR 85 = false := by kernel_rfl
theorem ty_sz36 : szA Tryz.prog 36 = some (5, true) := by kernel_rfl
theorem ty_br86 : BR 86 = false := by kernel_rfl
theorem ty_sl55 : isSlT Tryz.prog 55 = true := by kernel_rfl
theorem ty_sz76 : szA Tryz.prog 76 = some (1, false) := by kernel_rfl
theorem ty_br88 : BR 88 = false := by kernel_rfl
theorem ty_br87 : BR 87 = false := by kernel_rfl
theorem ty_br63 : BR 63 = false := by kernel_rfl
theorem ty_br89 : BR 89 = false := by kernel_rfl
theorem ty_sl76 : isSlT Tryz.prog 76 = true := by kernel_rfl
theorem ty_fn36 : flatN Tryz.prog 4 36 = some 5 := by kernel_rfl
theorem ty_pl66_0 : placeA Tryz.prog 66 0 = some (0, 1) := by kernel_rfl
theorem ty_br109 : BR 109 = true := by kernel_rfl
theorem ty_br110 : BR 110 = true := by kernel_rfl
theorem ty_im3_4 : immB Tryz.prog 3 4 = true := by kernel_rfl
theorem ty_pl48_1 : placeA Tryz.prog 48 1 = some (1, 1) := by kernel_rfl
theorem ty_br111 : BR 111 = false := by kernel_rfl
theorem ty_br112 : BR 112 = false := by kernel_rfl
theorem ty_st118 : isStT Tryz.prog 118 = true := by kernel_rfl
theorem ty_br113 : BR 113 = false := by kernel_rfl
theorem ty_fl118_0 : fldA Tryz.prog 118 0 = some (0, 1, false) := by kernel_rfl
theorem ty_sz51 : szA Tryz.prog 51 = some (1, false) := by kernel_rfl
theorem ty_br114 : BR 114 = false := by kernel_rfl
theorem ty_fl118_1 : fldA Tryz.prog 118 1 = some (1, 2, true) := by kernel_rfl
theorem ty_sz116 : szA Tryz.prog 116 = some (2, true) := by kernel_rfl
theorem ty_br115 : BR 115 = false := by kernel_rfl
theorem ty_br116 : BR 116 = false := by kernel_rfl
theorem ty_br117 : BR 117 = false := by kernel_rfl
theorem ty_br118 : BR 118 = false := by kernel_rfl
theorem ty_br119 : BR 119 = false := by kernel_rfl
theorem ty_br120 : BR 120 = false := by kernel_rfl
theorem ty_br121 : BR 121 = false := by kernel_rfl
theorem ty_br122 : BR 122 = false := by kernel_rfl
theorem ty_st36 : isStT Tryz.prog 36 = true := by kernel_rfl
theorem ty_br123 : BR 123 = false := by kernel_rfl
theorem ty_sl156 : isSlT Tryz.prog 156 = true := by kernel_rfl
theorem ty_el156 : elA Tryz.prog 156 = some (159, 6) := by kernel_rfl
theorem ty_fl159_1 : fldA Tryz.prog 159 1 = some (1, 5, true) := by kernel_rfl
theorem ty_br124 : BR 124 = false := by kernel_rfl
theorem ty_fl159_0 : fldA Tryz.prog 159 0 = some (0, 1, false) := by kernel_rfl
theorem ty_br125 : BR 125 = false := by kernel_rfl
theorem ty_zr34 : zeroA Tryz.prog 34 = some ([.int .i64 0, .int .i64 0, .int .i64 0, .int .i64 0]) := by kernel_rfl
theorem ty_st34 : isStT Tryz.prog 34 = true := by kernel_rfl
theorem ty_pl34_0 : placeA Tryz.prog 34 0 = some (0, 1) := by kernel_rfl
theorem ty_pl36_0 : placeA Tryz.prog 36 0 = some (0, 4) := by kernel_rfl
theorem ty_im36_1 : immB Tryz.prog 36 1 = false := by kernel_rfl
theorem ty_pl34_1 : placeA Tryz.prog 34 1 = some (1, 1) := by kernel_rfl
theorem ty_pl34_2 : placeA Tryz.prog 34 2 = some (2, 1) := by kernel_rfl
theorem ty_pl34_3 : placeA Tryz.prog 34 3 = some (3, 1) := by kernel_rfl
theorem ty_im34_8 : immB Tryz.prog 34 8 = false := by kernel_rfl
theorem ty_by34 : bytesA Tryz.prog 34 = 32 := by kernel_rfl
theorem ty_el160 : elA Tryz.prog 160 = some (34, 4) := by kernel_rfl
theorem ty_sz34 : szA Tryz.prog 34 = some (4, true) := by kernel_rfl
theorem ty_im3_8 : immB Tryz.prog 3 8 = true := by kernel_rfl
theorem ty_br146 : BR 146 = true := by kernel_rfl
theorem ty_fl95_2 : fldA Tryz.prog 95 2 = some (2, 1, false) := by kernel_rfl
theorem ty_fl95_1 : fldA Tryz.prog 95 1 = some (1, 1, false) := by kernel_rfl
theorem ty_fl95_0 : fldA Tryz.prog 95 0 = some (0, 1, false) := by kernel_rfl
theorem ty_sz22 : szA Tryz.prog 22 = some (1, false) := by kernel_rfl
theorem ty_br147 : BR 147 = false := by kernel_rfl
theorem ty_pl118_1 : placeA Tryz.prog 118 1 = some (1, 2) := by kernel_rfl
theorem ty_br148 : BR 148 = false := by kernel_rfl
theorem ty_br149 : BR 149 = false := by kernel_rfl
theorem ty_br150 : BR 150 = false := by kernel_rfl
theorem ty_fl116_0 : fldA Tryz.prog 116 0 = some (0, 1, false) := by kernel_rfl
theorem ty_br151 : BR 151 = false := by kernel_rfl
theorem ty_im48_2 : immB Tryz.prog 48 2 = false := by kernel_rfl
theorem ty_br152 : BR 152 = false := by kernel_rfl
theorem ty_br153 : BR 153 = false := by kernel_rfl
theorem ty_zr116 : zeroA Tryz.prog 116 = some ([.int .i64 0, .nil]) := by kernel_rfl
theorem ty_br154 : BR 154 = false := by kernel_rfl
theorem ty_br155 : BR 155 = false := by kernel_rfl
theorem ty_br156 : BR 156 = false := by kernel_rfl
theorem ty_br157 : BR 157 = false := by kernel_rfl
theorem ty_br158 : BR 158 = false := by kernel_rfl
theorem ty_br159 : BR 159 = false := by kernel_rfl
theorem ty_br160 : BR 160 = false := by kernel_rfl
theorem ty_br161 : BR 161 = false := by kernel_rfl
theorem ty_fl36_0 : fldA Tryz.prog 36 0 = some (0, 4, true) := by kernel_rfl
theorem ty_br162 : BR 162 = false := by kernel_rfl
theorem ty_br163 : BR 163 = false := by kernel_rfl
theorem ty_fl36_1 : fldA Tryz.prog 36 1 = some (4, 1, false) := by kernel_rfl
theorem ty_br164 : BR 164 = false := by kernel_rfl
theorem ty_zr159 : zeroA Tryz.prog 159 = some ([.int .i64 0, .int .i64 0, .int .i64 0, .int .i64 0, .int .i64 0, .int .i64 0]) := by kernel_rfl
theorem ty_st159 : isStT Tryz.prog 159 = true := by kernel_rfl
theorem ty_pl159_0 : placeA Tryz.prog 159 0 = some (0, 1) := by kernel_rfl
theorem ty_pl159_1 : placeA Tryz.prog 159 1 = some (1, 5) := by kernel_rfl
theorem ty_im159_1 : immB Tryz.prog 159 1 = false := by kernel_rfl
theorem ty_by159 : bytesA Tryz.prog 159 = 48 := by kernel_rfl
theorem ty_br165 : BR 165 = false := by kernel_rfl
theorem ty_bt4 : isBoolT Tryz.prog 4 = true := by kernel_rfl
theorem ty_br166 : BR 166 = false := by kernel_rfl
theorem ty_br167 : BR 167 = false := by kernel_rfl
theorem ty_im159_2 : immB Tryz.prog 159 2 = false := by kernel_rfl
theorem ty_br168 : BR 168 = false := by kernel_rfl
theorem ty_br169 : BR 169 = false := by kernel_rfl
theorem ty_br170 : BR 170 = false := by kernel_rfl
theorem ty_br171 : BR 171 = false := by kernel_rfl
theorem ty_br172 : BR 172 = false := by kernel_rfl
theorem ty_br130 : BR 130 = true := by kernel_rfl
theorem ty_st116 : isStT Tryz.prog 116 = true := by kernel_rfl
theorem ty_pl116_0 : placeA Tryz.prog 116 0 = some (0, 1) := by kernel_rfl
theorem ty_fl116_1 : fldA Tryz.prog 116 1 = some (1, 1, false) := by kernel_rfl
theorem ty_sz114 : szA Tryz.prog 114 = some (1, false) := by kernel_rfl
theorem ty_zr213 : zeroA Tryz.prog 213 = some ([.int .i64 0, .int .i64 0, .int .i64 0, .int .i64 0]) := by kernel_rfl
theorem ty_st213 : isStT Tryz.prog 213 = true := by kernel_rfl
theorem ty_pl213_0 : placeA Tryz.prog 213 0 = some (0, 1) := by kernel_rfl
theorem ty_pl213_1 : placeA Tryz.prog 213 1 = some (1, 1) := by kernel_rfl
theorem ty_im213_1 : immB Tryz.prog 213 1 = false := by kernel_rfl
theorem ty_by213 : bytesA Tryz.prog 213 = 32 := by kernel_rfl
theorem ty_el114 : elA Tryz.prog 114 = some (213, 4) := by kernel_rfl
theorem ty_pl213_2 : placeA Tryz.prog 213 2 = some (2, 1) := by kernel_rfl
theorem ty_im213_0 : immB Tryz.prog 213 0 = false := by kernel_rfl
theorem ty_pl116_1 : placeA Tryz.prog 116 1 = some (1, 1) := by kernel_rfl
theorem ty_pl118_0 : placeA Tryz.prog 118 0 = some (0, 1) := by kernel_rfl
theorem ty_br190 : BR 190 = false := by kernel_rfl
theorem ty_br192 : BR 192 = false := by kernel_rfl
theorem ty_im40_2 : immB Tryz.prog 40 2 = false := by kernel_rfl
theorem ty_br191 : BR 191 = false := by kernel_rfl
theorem ty_fl213_3 : fldA Tryz.prog 213 3 = some (3, 1, false) := by kernel_rfl
theorem ty_im40_3 : immB Tryz.prog 40 3 = false := by kernel_rfl
theorem ty_im3_1 : immB Tryz.prog 3 1 = true := by kernel_rfl
theorem ty_sl114 : isSlT Tryz.prog 114 = true := by kernel_rfl
theorem ty_sz213 : szA Tryz.prog 213 = some (4, true) := by kernel_rfl
theorem ty_br193 : BR 193 = false := by kernel_rfl
theorem ty_fl213_0 : fldA Tryz.prog 213 0 = some (0, 1, false) := by kernel_rfl
theorem ty_br194 : BR 194 = false := by kernel_rfl
theorem ty_br195 : BR 195 = false := by kernel_rfl
theorem ty_im40_1 : immB Tryz.prog 40 1 = false := by kernel_rfl
theorem ty_im116_1 : immB Tryz.prog 116 1 = false := by kernel_rfl
theorem ty_by116 : bytesA Tryz.prog 116 = 32 := by kernel_rfl
theorem ty_el190 : elA Tryz.prog 190 = some (116, 2) := by kernel_rfl
theorem ty_sl190 : isSlT Tryz.prog 190 = true := by kernel_rfl
theorem ty_br196 : BR 196 = false := by kernel_rfl
theorem ty_br197 : BR 197 = false := by kernel_rfl
theorem ty_br198 : BR 198 = false := by kernel_rfl
theorem ty_br199 : BR 199 = false := by kernel_rfl
theorem ty_br200 : BR 200 = false := by kernel_rfl
theorem ty_br202 : BR 202 = false := by kernel_rfl
theorem ty_br201 : BR 201 = false := by kernel_rfl
theorem ty_br203 : BR 203 = false := by kernel_rfl
theorem ty_br204 : BR 204 = false := by kernel_rfl
theorem ty_br205 : BR 205 = false := by kernel_rfl
theorem ty_br206 : BR 206 = false := by kernel_rfl
theorem ty_im3_6 : immB Tryz.prog 3 6 = true := by kernel_rfl
theorem ty_br207 : BR 207 = false := by kernel_rfl
theorem ty_fl34_1 : fldA Tryz.prog 34 1 = some (1, 1, false) := by kernel_rfl
theorem ty_fl34_3 : fldA Tryz.prog 34 3 = some (3, 1, false) := by kernel_rfl
theorem ty_fl34_0 : fldA Tryz.prog 34 0 = some (0, 1, false) := by kernel_rfl
theorem ty_fl34_2 : fldA Tryz.prog 34 2 = some (2, 1, false) := by kernel_rfl
theorem ty_br208 : BR 208 = false := by kernel_rfl
theorem ty_pl36_1 : placeA Tryz.prog 36 1 = some (4, 1) := by kernel_rfl
theorem ty_br209 : BR 209 = false := by kernel_rfl
theorem ty_br210 : BR 210 = false := by kernel_rfl
theorem ty_br220 : BR 220 = false := by kernel_rfl
theorem ty_im213_3 : immB Tryz.prog 213 3 = false := by kernel_rfl
theorem ty_fl213_1 : fldA Tryz.prog 213 1 = some (1, 1, false) := by kernel_rfl
theorem ty_fl213_2 : fldA Tryz.prog 213 2 = some (2, 1, false) := by kernel_rfl
theorem ty_br221 : BR 221 = false := by kernel_rfl
theorem ty_br222 : BR 222 = false := by kernel_rfl
theorem ty_br223 : BR 223 = false := by kernel_rfl
theorem ty_pl213_3 : placeA Tryz.prog 213 3 = some (3, 1) := by kernel_rfl
theorem ty_br224 : BR 224 = false := by kernel_rfl
theorem ty_br225 : BR 225 = false := by kernel_rfl
theorem ty_br226 : BR 226 = false := by kernel_rfl
theorem ty_br227 : BR 227 = false := by kernel_rfl
theorem ty_fn213 : flatN Tryz.prog 4 213 = some 4 := by kernel_rfl
theorem ty_br228 : BR 228 = false := by kernel_rfl
theorem ty_br216 : BR 216 = false := by kernel_rfl
theorem ty_br229 : BR 229 = false := by kernel_rfl
theorem ty_br230 : BR 230 = false := by kernel_rfl
theorem ty_br231 : BR 231 = false := by kernel_rfl
theorem ty_br233 : BR 233 = false := by kernel_rfl
theorem ty_br232 : BR 232 = false := by kernel_rfl
theorem ty_br234 : BR 234 = false := by kernel_rfl
theorem ty_br238 : BR 238 = false := by kernel_rfl
theorem ty_br239 : BR 239 = false := by kernel_rfl
theorem ty_br236 : BR 236 = false := by kernel_rfl
def TY :=
 (aI
 (aI
 (aI
 (aI
 (aI
 (aI
 (aI
 (aI
 ty_fz
 ty_br6)
 (aI
 ty_br14
 ty_br15))
 (aI
 (aI
 ty_br17
 ty_br16)
 (aI
 ty_br18
 ty_br19)))
 (aI
 (aI
 (aI
 ty_bt3
 ty_sl40)
 (aI
 ty_el40
 ty_sz48))
 (aI
 (aI
 ty_br20
 ty_br21)
 (aI
 ty_br22
 (aI
 ty_sl22
 ty_br28)))))
 (aI
 (aI
 (aI
 (aI
 ty_br34
 ty_zr66)
 (aI
 ty_sz66
 ty_fl66_1))
 (aI
 (aI
 ty_sz40
 ty_fl66_0)
 (aI
 ty_sz3
 (aI
 ty_zr48
 ty_br35))))
 (aI
 (aI
 (aI
 ty_br36
 ty_im48_0)
 (aI
 ty_by48
 ty_zr40))
 (aI
 (aI
 ty_zr69
 ty_st69)
 (aI
 ty_ar69
 (aI
 ty_sz69
 ty_fl48_0))))))
 (aI
 (aI
 (aI
 (aI
 (aI
 ty_br39
 ty_fl48_1)
 (aI
 ty_el69
 ty_im48_1))
 (aI
 (aI
 ty_br40
 ty_sl51)
 (aI
 ty_el51
 ty_fn48)))
 (aI
 (aI
 (aI
 ty_el73
 ty_by40)
 (aI
 ty_br41
 ty_br42))
 (aI
 (aI
 ty_br43
 ty_sl73)
 (aI
 ty_fl48_2
 (aI
 ty_fl48_3
 ty_im3_3)))))
 (aI
 (aI
 (aI
 (aI
 ty_by3
 ty_zr3)
 (aI
 ty_br44
 ty_br45))
 (aI
 (aI
 ty_im76_0
 ty_by76)
 (aI
 ty_el55
 (aI
 ty_zr76
 ty_it3))))
 (aI
 (aI
 (aI
 ty_it32
 ty_br47)
 (aI
 ty_br46
 ty_im76_1))
 (aI
 (aI
 ty_br48
 ty_st66)
 (aI
 ty_pl66_1
 (aI
 ty_br49
 ty_el22)))))))
 (aI
 (aI
 (aI
 (aI
 (aI
 (aI
 ty_sz5
 ty_it5)
 (aI
 ty_zr95
 ty_st95))
 (aI
 (aI
 ty_pl95_0
 ty_pl95_2)
 (aI
 ty_br71
 ty_br70)))
 (aI
 (aI
 (aI
 ty_im3_5
 ty_br72)
 (aI
 ty_br74
 ty_br73))
 (aI
 (aI
 ty_br52
 ty_st48)
 (aI
 ty_pl48_0
 (aI
 ty_br75
 ty_br38)))))
 (aI
 (aI
 (aI
 (aI
 ty_br76
 ty_br77)
 (aI
 ty_zr118
 ty_sz118))
 (aI
 (aI
 ty_br78
 ty_im3_0)
 (aI
 ty_br79
 (aI
 ty_br80
 ty_br81))))
 (aI
 (aI
 (aI
 ty_br82
 ty_im36_0)
 (aI
 ty_by36
 ty_el76))
 (aI
 (aI
 ty_zr36
 ty_br83)
 (aI
 ty_br84
 (aI
 ty_br85
 ty_sz36))))))
 (aI
 (aI
 (aI
 (aI
 (aI
 ty_br86
 ty_sl55)
 (aI
 ty_sz76
 ty_br88))
 (aI
 (aI
 ty_br87
 ty_br63)
 (aI
 ty_br89
 ty_sl76)))
 (aI
 (aI
 (aI
 ty_fn36
 ty_pl66_0)
 (aI
 ty_br109
 ty_br110))
 (aI
 (aI
 ty_im3_4
 ty_pl48_1)
 (aI
 ty_br111
 (aI
 ty_br112
 ty_st118)))))
 (aI
 (aI
 (aI
 (aI
 ty_br113
 ty_fl118_0)
 (aI
 ty_sz51
 ty_br114))
 (aI
 (aI
 ty_fl118_1
 ty_sz116)
 (aI
 ty_br115
 (aI
 ty_br116
 ty_br117))))
 (aI
 (aI
 (aI
 ty_br118
 ty_br119)
 (aI
 ty_br120
 ty_br121))
 (aI
 (aI
 ty_br122
 ty_st36)
 (aI
 ty_br123
 (aI
 ty_sl156
 ty_el156))))))))
 (aI
 (aI
 (aI
 (aI
 (aI
 (aI
 (aI
 ty_fl159_1
 ty_br124)
 (aI
 ty_fl159_0
 ty_br125))
 (aI
 (aI
 ty_zr34
 ty_st34)
 (aI
 ty_pl34_0
 ty_pl36_0)))
 (aI
 (aI
 (aI
 ty_im36_1
 ty_pl34_1)
 (aI
 ty_pl34_2
 ty_pl34_3))
 (aI
 (aI
 ty_im34_8
 ty_by34)
 (aI
 ty_el160
 (aI
 ty_sz34
 ty_im3_8)))))
 (aI
 (aI
 (aI
 (aI
 ty_br146
 ty_fl95_2)
 (aI
 ty_fl95_1
 ty_fl95_0))
 (aI
 (aI
 ty_sz22
 ty_br147)
 (aI
 ty_pl118_1
 (aI
 ty_br148
 ty_br149))))
 (aI
 (aI
 (aI
 ty_br150
 ty_fl116_0)
 (aI
 ty_br151
 ty_im48_2))
 (aI
 (aI
 ty_br152
 ty_br153)
 (aI
 ty_zr116
 (aI
 ty_br154
 ty_br155))))))
 (aI
 (aI
 (aI
 (aI
 (aI
 ty_br156
 ty_br157)
 (aI
 ty_br158
 ty_br159))
 (aI
 (aI
 ty_br160
 ty_br161)
 (aI
 ty_fl36_0
 ty_br162)))
 (aI
 (aI
 (aI
 ty_br163
 ty_fl36_1)
 (aI
 ty_br164
 ty_zr159))
 (aI
 (aI
 ty_st159
 ty_pl159_0)
 (aI
 ty_pl159_1
 (aI
 ty_im159_1
 ty_by159)))))
 (aI
 (aI
 (aI
 (aI
 ty_br165
 ty_bt4)
 (aI
 ty_br166
 ty_br167))
 (aI
 (aI
 ty_im159_2
 ty_br168)
 (aI
 ty_br169
 (aI
 ty_br170
 ty_br171))))
 (aI
 (aI
 (aI
 ty_br172
 ty_br130)
 (aI
 ty_st116
 ty_pl116_0))
 (aI
 (aI
 ty_fl116_1
 ty_sz114)
 (aI
 ty_zr213
 (aI
 ty_st213
 ty_pl213_0)))))))
 (aI
 (aI
 (aI
 (aI
 (aI
 (aI
 ty_pl213_1
 ty_im213_1)
 (aI
 ty_by213
 ty_el114))
 (aI
 (aI
 ty_pl213_2
 ty_im213_0)
 (aI
 ty_pl116_1
 ty_pl118_0)))
 (aI
 (aI
 (aI
 ty_br190
 ty_br192)
 (aI
 ty_im40_2
 ty_br191))
 (aI
 (aI
 ty_fl213_3
 ty_im40_3)
 (aI
 ty_im3_1
 (aI
 ty_sl114
 ty_sz213)))))
 (aI
 (aI
 (aI
 (aI
 ty_br193
 ty_fl213_0)
 (aI
 ty_br194
 ty_br195))
 (aI
 (aI
 ty_im40_1
 ty_im116_1)
 (aI
 ty_by116
 (aI
 ty_el190
 ty_sl190))))
 (aI
 (aI
 (aI
 ty_br196
 ty_br197)
 (aI
 ty_br198
 ty_br199))
 (aI
 (aI
 ty_br200
 ty_br202)
 (aI
 ty_br201
 (aI
 ty_br203
 ty_br204))))))
 (aI
 (aI
 (aI
 (aI
 (aI
 ty_br205
 ty_br206)
 (aI
 ty_im3_6
 ty_br207))
 (aI
 (aI
 ty_fl34_1
 ty_fl34_3)
 (aI
 ty_fl34_0
 (aI
 ty_fl34_2
 ty_br208))))
 (aI
 (aI
 (aI
 ty_pl36_1
 ty_br209)
 (aI
 ty_br210
 ty_br220))
 (aI
 (aI
 ty_im213_3
 ty_fl213_1)
 (aI
 ty_fl213_2
 (aI
 ty_br221
 ty_br222)))))
 (aI
 (aI
 (aI
 (aI
 ty_br223
 ty_pl213_3)
 (aI
 ty_br224
 ty_br225))
 (aI
 (aI
 ty_br226
 ty_br227)
 (aI
 ty_fn213
 (aI
 ty_br228
 ty_br216))))
 (aI
 (aI
 (aI
 ty_br229
 ty_br230)
 (aI
 ty_br231
 ty_br233))
 (aI
 (aI
 ty_br232
 ty_br234)
 (aI
 ty_br238
 (aI
 ty_br239
 ty_br236)))))))))
end Go.Proofs.YtfjopjalhllplaaGreat
/- Encodings of the program's types; printed. -/
namespace Go.Proofs.YtfjopjalhllplaaGreat
open Go.RowKit
set_option maxRecDepth 100000
set_option linter.unusedVariables false
set_option linter.unusedSimpArgs false
set_option linter.defProp false
set_option maxHeartbeats 4000000
theorem FM : Tryz.prog.follows .mixedOrders = true := by kernel_rfl
def EIIII (q : Int × Int × Int × Int) : List AV := [.int .i64 q.1, .int .i64 q.2.1, .int .i64 q.2.2.1, .int .i64 q.2.2.2]
theorem EIIIIl : ∀ q, (EIIII q).length = 4 := fun _ => rfl
theorem EIIIIe (q : Int × Int × Int × Int) : EIIII q = [.int .i64 q.1, .int .i64 q.2.1, .int .i64 q.2.2.1, .int .i64 q.2.2.2] := (rfl)
theorem EIIIIf : ∀ l, (∀ c ∈ encL EIIII l, Free c) = True := free_enc fun q => by simp only [EIIIIe, AL, and_self]
def EI (q : Int) : List AV := [.int .i64 q]
theorem EIl : ∀ q, (EI q).length = 1 := fun _ => rfl
theorem EIe (q : Int) : EI q = [.int .i64 q] := (rfl)
theorem EIf : ∀ l, (∀ c ∈ encL EI l, Free c) = True := free_enc fun q => by simp only [EIe, AL, and_self]
def EB (q : Int) : List AV := [.int .u8 q]
theorem EBl : ∀ q, (EB q).length = 1 := fun _ => rfl
theorem EBe (q : Int) : EB q = [.int .u8 q] := (rfl)
theorem EBf : ∀ l, (∀ c ∈ encL EB l, Free c) = True := free_enc fun q => by simp only [EBe, AL, and_self]
def EILIIIIE (q : Int × List (Int × Int × Int × Int)) : List AV := [.int .i64 q.1, .sl (encL EIIII q.2) q.2.length]
theorem EILIIIIEl : ∀ q, (EILIIIIE q).length = 2 := fun _ => rfl
theorem EILIIIIEe (q : Int × List (Int × Int × Int × Int)) : EILIIIIE q = [.int .i64 q.1, .sl (encL EIIII q.2) q.2.length] := (rfl)
def ELIIIIE (q : List (Int × Int × Int × Int)) : List AV := [.sl (encL EIIII q) q.length]
theorem ELIIIIEl : ∀ q, (ELIIIIE q).length = 1 := fun _ => rfl
theorem ELIIIIEe (q : List (Int × Int × Int × Int)) : ELIIIIE q = [.sl (encL EIIII q) q.length] := (rfl)
def EIIIII (q : Int × Int × Int × Int × Int) : List AV := [.int .i64 q.1, .int .i64 q.2.1, .int .i64 q.2.2.1, .int .i64 q.2.2.2.1, .int .i64 q.2.2.2.2]
theorem EIIIIIl : ∀ q, (EIIIII q).length = 5 := fun _ => rfl
theorem EIIIIIe (q : Int × Int × Int × Int × Int) : EIIIII q = [.int .i64 q.1, .int .i64 q.2.1, .int .i64 q.2.2.1, .int .i64 q.2.2.2.1, .int .i64 q.2.2.2.2] := (rfl)
theorem EIIIIIf : ∀ l, (∀ c ∈ encL EIIIII l, Free c) = True := free_enc fun q => by simp only [EIIIIIe, AL, and_self]
def EIIIIII (q : Int × Int × Int × Int × Int × Int) : List AV := [.int .i64 q.1, .int .i64 q.2.1, .int .i64 q.2.2.1, .int .i64 q.2.2.2.1, .int .i64 q.2.2.2.2.1, .int .i64 q.2.2.2.2.2]
theorem EIIIIIIl : ∀ q, (EIIIIII q).length = 6 := fun _ => rfl
theorem EIIIIIIe (q : Int × Int × Int × Int × Int × Int) : EIIIIII q = [.int .i64 q.1, .int .i64 q.2.1, .int .i64 q.2.2.1, .int .i64 q.2.2.2.1, .int .i64 q.2.2.2.2.1, .int .i64 q.2.2.2.2.2] := (rfl)
theorem EIIIIIIf : ∀ l, (∀ c ∈ encL EIIIIII l, Free c) = True := free_enc fun q => by simp only [EIIIIIIe, AL, and_self]
def ELIIIIIE (q : List (Int × Int × Int × Int × Int)) : List AV := [.sl (encL EIIIII q) q.length]
theorem ELIIIIIEl : ∀ q, (ELIIIIIE q).length = 1 := fun _ => rfl
theorem ELIIIIIEe (q : List (Int × Int × Int × Int × Int)) : ELIIIIIE q = [.sl (encL EIIIII q) q.length] := (rfl)
def EN := (aI (aI (aI @EIIIIe @EIe) (aI @EBe @EILIIIIEe)) (aI (aI @ELIIIIEe @EIIIIIe) (aI @EIIIIIIe @ELIIIIIEe)))
def EF := (aI (aI @EIIIIf @EIf) (aI @EBf (aI @EIIIIIf @EIIIIIIf)))
theorem lap_n {α : Type} (m : List α) : List.append [] m = m := (rfl)
theorem lap_c {α : Type} (a : α) (l m : List α) : List.append (a :: l) m = a :: List.append l m := (rfl)
def EV := aI (aI @lap_n @lap_c) (aI AE (aI TY EN))
abbrev LQ := List (Int × Int × Int × Int)
abbrev LF := List (Int × Int × Int × Int × Int)
theorem le_d {n m : Nat} (h : Nat.ble n m = true) : n ≤ m := Nat.le_of_ble_eq_true h
theorem no_j {n : Nat} {p : Nat → Prop} (h : Nat.ble n 0 = true) : ∀ j, j < n → p j := fun j hj => absurd (Nat.lt_of_lt_of_le hj (Nat.le_of_ble_eq_true h)) (Nat.not_lt_zero _)
def RSS := (aI (aI (aI (aI (aI (aI (aI @Tryz.results4 @Tryz.results6) (aI @Tryz.results14 @Tryz.results15)) (aI (aI @Tryz.results16 @Tryz.results17) (aI @Tryz.results18 @Tryz.results19))) (aI (aI (aI @Tryz.results20 @Tryz.results21) (aI @Tryz.results22 @Tryz.results28)) (aI (aI @Tryz.results34 @Tryz.results35) (aI @Tryz.results36 (aI @Tryz.results37 @Tryz.results38))))) (aI (aI (aI (aI @Tryz.results39 @Tryz.results40) (aI @Tryz.results41 @Tryz.results42)) (aI (aI @Tryz.results43 @Tryz.results44) (aI @Tryz.results45 @Tryz.results46))) (aI (aI (aI @Tryz.results47 @Tryz.results48) (aI @Tryz.results49 @Tryz.results52)) (aI (aI @Tryz.results63 @Tryz.results70) (aI @Tryz.results71 (aI @Tryz.results72 @Tryz.results73)))))) (aI (aI (aI (aI (aI @Tryz.results74 @Tryz.results75) (aI @Tryz.results76 @Tryz.results77)) (aI (aI @Tryz.results78 @Tryz.results79) (aI @Tryz.results80 @Tryz.results81))) (aI (aI (aI @Tryz.results82 @Tryz.results83) (aI @Tryz.results84 @Tryz.results85)) (aI (aI @Tryz.results86 @Tryz.results87) (aI @Tryz.results88 (aI @Tryz.results89 @Tryz.results109))))) (aI (aI (aI (aI @Tryz.results110 @Tryz.results111) (aI @Tryz.results112 @Tryz.results113)) (aI (aI @Tryz.results114 @Tryz.results115) (aI @Tryz.results116 @Tryz.results117))) (aI (aI (aI @Tryz.results118 @Tryz.results119) (aI @Tryz.results120 @Tryz.results121)) (aI (aI @Tryz.results122 @Tryz.results123) (aI @Tryz.results124 (aI @Tryz.results125 @Tryz.results130))))))) (aI (aI (aI (aI (aI (aI @Tryz.results146 @Tryz.results147) (aI @Tryz.results148 @Tryz.results149)) (aI (aI @Tryz.results150 @Tryz.results151) (aI @Tryz.results152 @Tryz.results153))) (aI (aI (aI @Tryz.results154 @Tryz.results155) (aI @Tryz.results156 @Tryz.results157)) (aI (aI @Tryz.results158 @Tryz.results159) (aI @Tryz.results160 (aI @Tryz.results161 @Tryz.results162))))) (aI (aI (aI (aI @Tryz.results163 @Tryz.results164) (aI @Tryz.results165 @Tryz.results166)) (aI (aI @Tryz.results167 @Tryz.results168) (aI @Tryz.results169 @Tryz.results170))) (aI (aI (aI @Tryz.results171 @Tryz.results172) (aI @Tryz.results190 @Tryz.results191)) (aI (aI @Tryz.results192 @Tryz.results193) (aI @Tryz.results194 (aI @Tryz.results195 @Tryz.results196)))))) (aI (aI (aI (aI (aI @Tryz.results197 @Tryz.results198) (aI @Tryz.results199 @Tryz.results200)) (aI (aI @Tryz.results201 @Tryz.results202) (aI @Tryz.results203 @Tryz.results204))) (aI (aI (aI @Tryz.results205 @Tryz.results206) (aI @Tryz.results207 @Tryz.results208)) (aI (aI @Tryz.results209 @Tryz.results210) (aI @Tryz.results216 (aI @Tryz.results220 @Tryz.results221))))) (aI (aI (aI (aI @Tryz.results222 @Tryz.results223) (aI @Tryz.results224 @Tryz.results225)) (aI (aI @Tryz.results226 @Tryz.results227) (aI @Tryz.results228 @Tryz.results229))) (aI (aI (aI @Tryz.results230 @Tryz.results231) (aI @Tryz.results232 @Tryz.results233)) (aI (aI @Tryz.results234 @Tryz.results236) (aI @Tryz.results238 (aI @Tryz.results239 @Tryz.results241))))))))
section
variable {C : Ctx} {Q : Exit → St → Prop} {T : Nat → AV} {R : Nat → Option Row} {b n : Nat} {ops : List Oper} {st : St}
theorem AR {id : Nat} {draw : Bool} {y : Code} (hC : C.N = n) (h : ∀ K : St → Prop, (∀ T' R' b', AW Tryz.prog C y (St.mk T' R' (b + 1024)) Q → K (St.mk T' R' b')) → aRun Tryz.prog BR ops b 0 ops (St.mk T R b) K) (hN : dstB n ops.toArray = true := by kernel_rfl) (hB : (!draw || regB BR ops.toArray) = true := by kernel_rfl) :
    AW Tryz.prog C (.seq (.region id ops.toArray draw) y) (St.mk T R b) Q := AW_rs (BR := BR) FM (by rw [hC]; exact hN) hB h
theorem AS {id : Nat} {draw : Bool} (hC : C.N = n) (h : ∀ K : St → Prop, (∀ T' R' b', Q .normal (St.mk T' R' (b + 1024)) → K (St.mk T' R' b')) → aRun Tryz.prog BR ops b 0 ops (St.mk T R b) K) (hN : dstB n ops.toArray = true := by kernel_rfl) (hB : (!draw || regB BR ops.toArray) = true := by kernel_rfl) :
    AW Tryz.prog C (.region id ops.toArray draw) (St.mk T R b) Q := AW_re (BR := BR) FM (by rw [hC]; exact hN) hB h
theorem AJ {id : Nat} {draw : Bool} {y : Code} (J : St → Prop) (hC : C.N = n) (h : ∀ K : St → Prop, (∀ T' R' b', cutK C J (St.mk T' R' b') → K (St.mk T' R' b')) → aRun Tryz.prog BR ops b 0 ops (St.mk T R b) K) (h2 : ∀ S, J S → AW Tryz.prog C y S Q) (hN : dstB n ops.toArray = true := by kernel_rfl) (hB : (!draw || regB BR ops.toArray) = true := by kernel_rfl) :
    AW Tryz.prog C (.seq (.region id ops.toArray draw) y) (St.mk T R b) Q := AW_rsJ (BR := BR) J FM (by rw [hC]; exact hN) hB h h2
theorem SO {f : FuncId} {fn : Func} {c : Code} {args : List AV} {mem mem' : List Row} {ret : AV} (hf : Tryz.prog.funcs[f]? = some fn) (hb : fn.body = some c) (hn : fn.ntmps = n)
    (h : ∀ C : Ctx, C.N = n → (∀ s, mem.length ≤ s → C.ρ0 s = none) → AW Tryz.prog C c (st0 args mem) (fun e st' => (e = .normal ∨ e = .ret) ∧ EndA Tryz.prog fn mem.length ret mem' st')) (hcl : callable Tryz.prog f = true := by kernel_rfl)
    (hl : args.length ≤ n := by simp only [List.length_cons, List.length_nil, Nat.reduceAdd, Nat.reduceLeDiff]) : Spec Tryz.prog f args mem ret mem' := spec_of hf hb hcl (hn ▸ hl) fun C hN hρ => h C (hN.trans hn) hρ
theorem AB {β : Type} {c : Operand} {x y : Code} {d : Bool} {X Y : Option β} {r : β} (h : br d X Y = some r) (ht : d = true → X = some r → AW Tryz.prog C x st Q) (hf : d = false → Y = some r → AW Tryz.prog C y st Q) (hc : st.ev c = .bool d := by simp only [EV, seval]) :
    AW Tryz.prog C (.cond c x y) st Q := AW_condK hc (brK h ht hf)
theorem AK {c : Code} (h : AW Tryz.prog C c st Q) : AW Tryz.prog C c st Q := h
theorem EQ {k : Nat} {fn : Func} {ret : AV} {mem' : List Row} (ids : List Nat) (h : endR Tryz.prog st fn.results.toList k ids ret mem' := by simp only [EV, RSS, seval]) (hnd : nodB ids = true := by kernel_rfl)
    (hk : upB k (fun j => match ids[j]? with | some i => i == j | none => false) = true := by kernel_rfl) : (Exit.ret = .normal ∨ Exit.ret = .ret) ∧ EndA Tryz.prog fn k ret mem' st := end_q ids (.inr rfl) hnd hk h
theorem AX {k b' : Nat} (lt : List (Nat × AV)) (lr : List (Nat × Row)) (G : List (Nat × Option Nat)) (fz : List Nat) (hρ : ∀ s, k ≤ s → C.ρ0 s = none) (h : Q .ret ⟨mkT lt, mkR lr, b'⟩)
    (hG : gOK k G fz (lr.map fun x => (x.1, x.2.solid)) = true := by kernel_rfl) (hT : leT (lk G) (fzF fz R) T lt := by simp only [AL, EV, seval]) (hR : leR (lk G) (fzF fz R) R lr := by simp only [AL, EV, seval]) : AW Tryz.prog C .ret ⟨T, R, b⟩ Q :=
  AW_le (Le_can (b' := b') G fz hρ hG hT hR) (AW_ret h)
theorem AC {J : St → Prop} {k b' : Nat} {lt : List (Nat × AV)} {lr : List (Nat × Row)} (hJ : J ⟨mkT lt, mkR lr, b'⟩) (G : List (Nat × Option Nat)) (fz : List Nat) (hρ : ∀ s, k ≤ s → C.ρ0 s = none) (hG : gOK k G fz (lr.map fun x => (x.1, x.2.solid)) = true := by kernel_rfl)
    (hT : leT (lk G) (fzF fz R) T lt := by simp only [AL, EV, seval]) (hR : leR (lk G) (fzF fz R) R lr := by simp only [AL, EV, seval]) : cutK C J ⟨T, R, b⟩ := cutL hJ (Le_can G fz hρ hG hT hR)
theorem AN {id b' : Nat} {draw : Bool} {y : Code} {T' : Nat → AV} {R' : Nat → Option Row} (hC : C.N = n) (h : AW Tryz.prog C y (St.mk T' R' (b + 1024)) Q) (he : ∀ K : St → Prop, K (St.mk T' R' b') → aRun Tryz.prog BR ops b 0 ops (St.mk T R b) K := by intro K h; simp only [EV, seval]; exact h) (hN : dstB n ops.toArray = true := by kernel_rfl) (hB : (!draw || regB BR ops.toArray) = true := by kernel_rfl) :
    AW Tryz.prog C (.seq (.region id ops.toArray draw) y) (St.mk T R b) Q := AR hC (fun K hK => he K (hK _ _ _ h)) hN hB
theorem CP {BR : Nat → Bool} {i : Nat} {bs : Nat} {l : List Oper} {K : St → Prop} {f : FuncId} {args args' : List AV} {dst : Option Tmp} {ret : AV} {mem' : List Row} (hS : Spec Tryz.prog f args' [] ret mem')
    (hK : aRun Tryz.prog BR ops bs (i + 1) l (({ st with rows := addRows st.rows (bs + 16 * i) (mem'.map (Row.ren (mId [] (bs + 16 * i)))) } : St).put dst (ren3 (mId [] (bs + 16 * i)) ret)) K)
    (ha : cvA (args.map (pass2 [] fun _ => none)) args' := by simp only [AL, EV, seval]) (hl : mem'.length ≤ 16 := by exact le_d rfl) (hs : ∀ j, j < mem'.length → st.rows (bs + 16 * i + j) = none := by exact no_j rfl) :
    rC Tryz.prog BR ops bs i l st K f args dst := rC_p hS ha hl hs hK
theorem AP {id b' : Nat} {draw : Bool} {y : Code} {T' : Nat → AV} {R' : Nat → Option Row} {f : FuncId} {args' : List AV} {ret : AV} {mem' : List Row} (hC : C.N = n) (hS : Spec Tryz.prog f args' [] ret mem') (h : AW Tryz.prog C y (St.mk T' R' (b + 1024)) Q) (he : ∀ K : St → Prop, Spec Tryz.prog f args' [] ret mem' → K (St.mk T' R' b') → aRun Tryz.prog BR ops b 0 ops (St.mk T R b) K := by intro K hS h; simp only [EV, seval]; refine CP hS ?_; simp only [EV, seval]; exact h) (hN : dstB n ops.toArray = true := by kernel_rfl) (hB : (!draw || regB BR ops.toArray) = true := by kernel_rfl) :
    AW Tryz.prog C (.seq (.region id ops.toArray draw) y) (St.mk T R b) Q := AR hC (fun K hK => he K hS (hK _ _ _ h)) hN hB
end
end Go.Proofs.YtfjopjalhllplaaGreat
/- impl.IsValidGate's contract for the engine, from its walk. -/
namespace Go.Proofs.YtfjopjalhllplaaGreat
open Go.RowKit Pop
set_option maxRecDepth 100000
set_option linter.unusedVariables false
set_option linter.unusedSimpArgs false
def i_IsValidGate (a1 a2 a3 a4 a5 : Int) : Option Bool := some (ivg a1 a2 a3 a4 a5)
theorem i_IsValidGate_ok {a1 a2 a3 a4 a5 : Int} {r : Bool} (h : i_IsValidGate a1 a2 a3 a4 a5 = some r) :
  Spec Tryz.prog 35 [.agg [.int .i64 a1, .int .i64 a2, .int .i64 a3, .int .i64 a4], .int .i64 a5] [] (.bool r) [] := by
 injection h with h
 subst h
 exact spec_lift (by kernel_rfl) rfl (fun M ρ => .plain (.bool _)) (fun w => ivg_any a1 a2 a3 a4 a5 w)
#print axioms i_IsValidGate_ok
end Go.Proofs.YtfjopjalhllplaaGreat
/- The engine: an own slice cut short (s = s[:k]) in a region whose order is not drawn. Over any program. -/
namespace Go.Proofs.YtfjopjalhllplaaGreat
open Go.RowKit
set_option maxRecDepth 100000
set_option linter.unusedVariables false
set_option linter.unusedSimpArgs false
section
variable {P : Program} {BR : Nat → Bool} {C : Ctx} {M : Imm} {ρ : Plc} {st : St} {a : Act} {w : World}
theorem ownsRow_take {w : World} {base : Nat} {e : TypeId} {sz g cap n k : Nat} {xs : List Value} (h : w.ownsRow base e sz (.slice (some ⟨g, 0, none⟩) n cap) n xs) (hk : k ≤ n) :
  w.ownsRow base e sz (.slice (some ⟨g, 0, none⟩) k cap) k (xs.take (k * sz)) := by
 obtain ⟨h1, h2⟩ := h
 have hm : k * sz ≤ n * sz := Nat.mul_le_mul_right _ hk
 rcases h2 with ⟨h0, _⟩ | ⟨g', cap', cur, hv, hb, hg, hn, hcap, hsz, htake⟩
 ·cases h0
 ·cases hv
  refine ⟨by rw [List.length_take]; omega, .inr ⟨g, cap, cur, rfl, hb, hg, by omega, hcap, hsz, ?_⟩⟩
  rw [← htake, List.take_take, Nat.min_eq_left hm]
theorem trunc_ok {o : Oper} {t : TypeId} {x hi : Operand} (hop : o.op = .slice t x none (some hi) none) {e : TypeId} {sz' : Nat} (he : elA P t = some (e, sz')) {site s n : Nat} {E : TypeId} {sz : Nat} {cs : List AV} {k : Int}
  (hx : st.ev x = .own s n) (hh : st.ev hi = .int .i64 k) (hk : 0 ≤ k ∧ k < n) (hr : st.rows s = some (.row E sz cs)) (hs : st.rows site = none) (hR : Rel C M ρ st a w) (hd : ∀ k, o.dst = some k → k < C.N) :
  ∃ z ρ', (execOp a.eval o).run P w = .ok (.value z) w ∧ Rel C M ρ' (({ st with rows := upd (upd st.rows s (some .gone)) site (some (.row E sz (cs.take (k.toNat * sz)))) } : St).put o.dst (.own site k.toNat)) (a.put o.dst z) w := by
 have ex := hR.ev x
 rw [hx] at ex
 have eh := hR.ev hi
 rw [hh] at eh
 have eh := eh.int_inv
 obtain ⟨g, cap, ⟨hρ, hv⟩ | ⟨_, hn, _⟩⟩ := ex.own_inv
 rotate_left
 ·omega
 obtain ⟨y, hy, hY⟩ := hR.mr.row s _ hr rfl
 rw [hρ] at hy; injection hy with hy; subst hy
 rcases hY with ⟨hn1, _⟩ | ⟨_, xs, h1, h2, h3, h4⟩
 ·cases hn1
 simp only at h1
 obtain ⟨inf, hu, hinf, hsz⟩ := elA_inv he
 have hcap : n ≤ cap := by
  rcases h1.2 with ⟨h0, _⟩ | ⟨g', cap', cur, hv', _, _, hn, _⟩
  ·cases h0
  ·cases hv'; exact hn
 have h1' := ownsRow_take h1 (k := k.toNat) (by omega)
 have hsx : s ≠ site := fun e => by rw [e, hs] at hr; cases hr
 have bnd : (Instr.sliceBounds true n cap (none : Option Value) (some (.int .i64 k)) none).run P w = .ok (0, k.toNat, cap) w := by
  have c1 : k ≤ (cap : Int) := by omega
  simp [Instr.sliceBounds, Instr.sliceBound, asIntOf, c1, hk.1]
 have hrun : (execOp a.eval o).run P w = .ok (.value (.slice (some ⟨g, 0, none⟩) k.toNat cap)) w := by
  have h0 : Instr.sliceAt t (.slice (some ⟨g, 0, none⟩) n cap) none (some (.int .i64 k)) none = (do
                  match ← underlying t with
                  | .array n' elem =>
                    let a ← Instr.sureAddr (.slice (some ⟨g, 0, none⟩) n cap)
                    let (l, h, m) ← Instr.sliceBounds false n' n' none (some (.int .i64 k)) none
                    let size ← sizeOf elem
                    pure (.slice (some (if m = l then a else a.add (l * size))) (h - l) (m - l))
                  | _ => Instr.slice t (.slice (some ⟨g, 0, none⟩) n cap) none (some (.int .i64 k)) none) := rfl
  have hsl : (Instr.sliceAt t (.slice (some ⟨g, 0, none⟩) n cap) none (some (.int .i64 k)) none).run P w = .ok (.slice (some ⟨g, 0, none⟩) k.toNat cap) w := by
   have hc0 : ¬ cap = 0 := by omega
   simp [h0, Instr.sliceAt, run_underlying hu, Instr.slice, bnd, sizeOf, typeInfo, hinf, hsz, hc0, Addr.add]
  unfold execOp
  simp [hop, hv, eh, hsl]
 have hgone := hR.set (r' := .gone) (w' := w) hr rfl hρ rfl ⟨rfl, rfl, rfl, Nat.le_refl _, fun _ _ _ => rfl⟩ (fun h => by cases h)
 have hA := hgone.addAt (s := site) (r := .row E sz (cs.take (k.toNat * sz))) (x := ⟨g, k.toNat, cap, false⟩) (by show upd st.rows s (some .gone) site = none; rw [upd_ne _ _ (Ne.symm hsx)]; exact hs)
  (fun _ => .inr ⟨rfl, xs.take (k.toNat * sz), h1', by rw [List.length_take, List.length_take, h2], fun v hv => h3 v (List.mem_of_mem_take hv), fun i c q hc hq => by
    rw [List.getElem?_take] at hc hq
    split at hc
    · rename_i hi'; rw [if_pos hi'] at hq; exact h4 i c q hc hq
    · cases hc⟩) (fun j q y hj hq hy hn1 _ => by
    have hj : upd st.rows s (some .gone) j = some q := hj
    have hjk : j ≠ s := fun e => by rw [e, upd_same] at hj; injection hj with hj; subst hj; cases hq
    rw [upd_ne _ _ hjk] at hj
    have hne := hR.mr.inj j s q _ y _ hj hr hq rfl hy hρ hjk hn1 rfl
    simp only at hne ⊢
    exact hne) (fun b o v hM _ => by
    have hne := hR.mr.apt b o v s _ _ hM hr rfl hρ rfl
    simp only at hne ⊢
    exact hne) (fun _ => by
    have := hR.new s _ _ hr rfl hρ rfl
    exact this)
 exact ⟨_, _, hrun, hA.put (.own site g k.toNat cap (upd_same _ _ _)) hd⟩
theorem aSeq_opsK {ops : Array Oper} (hN : dstB C.N ops = true) {Q : Exit → Act → World → Prop} {K : St → Prop} (L2 : List Nat) (hK : ∀ st' M' ρ' a' w', K st' → Rel C M' ρ' st' a' w' → wpOps P ops Q L2 a' w') :
  ∀ (L : List Nat) (bs : Nat) (st : St) (M : Imm) (ρ : Plc) (a : Act) (w : World), aSeq P BR ops bs L st K → Rel C M ρ st a w → wpOps P ops Q (L ++ L2) a w
 | [], bs, st, M, ρ, a, w, h, hR => hK _ _ _ _ _ h hR
 | i :: L, bs, st, M, ρ, a, w, h, hR => by
  obtain ⟨o, st', ho, hg, h⟩ := h
  rw [List.cons_append, wpOps_cons]
  exact gst_ok ho hg hR (dstB_spec hN ho) (fun M' ρ' a' w' hR' => aSeq_opsK hN L2 hK L bs st' M' ρ' a' w' h hR')
theorem aRun_seq2 {ops : List Oper} {bs : Nat} {K : St → Prop} : ∀ (l : List Oper) (i : Nat) (st : St), (∀ j, j < l.length → l[j]? = ops[i + j]?) → aRun P BR ops bs i l st K → aSeq P BR ops.toArray bs (List.range' i l.length) st K
 | [], i, st, _, h => h
 | o :: l, i, st, hl, h => by
  obtain ⟨st', h1, h2⟩ := aG_gst h
  have h0 : ops[i]? = some o := by simpa using (hl 0 (by simp)).symm
  rw [List.length_cons, List.range'_succ]
  exact ⟨o, st', by simpa using h0, h1, aRun_seq2 l (i + 1) st' (fun j hj => by have := hl (j + 1) (by simpa using hj); simpa [Nat.add_assoc, Nat.add_comm 1 j] using this) h2⟩
/-- The step that cuts. -/
def trK (site : Nat) (x hi : Operand) (dst : Option Tmp) (st : St) (K : St → Prop) : Prop :=
 ∃ s n E sz cs k, st.ev x = .own s n ∧ st.ev hi = .int .i64 k ∧ (0 ≤ k ∧ k < (n : Int)) ∧ st.rows s = some (.row E sz cs) ∧ st.rows site = none ∧
  K (({ st with rows := upd (upd st.rows s (some .gone)) site (some (.row E sz (cs.take (k.toNat * sz)))) } : St).put dst (.own site k.toNat))
theorem trK_mk {α : Type} {e : α → List AV} {sz : Nat} {l v : List α} {k : Int} {site s : Nat} {x hi : Operand} {dst : Option Tmp} {K : St → Prop} {E : TypeId} (he : ∀ x, (e x).length = sz) (hq : slc l 0 k = some v) (hlt : k < (l.length : Int))
  (hx : st.ev x = .own s l.length) (hh : st.ev hi = .int .i64 k) (hr : st.rows s = some (.row E sz (encL e l))) (hs : st.rows site = none)
  (hK : K (({ st with rows := upd (upd st.rows s (some .gone)) site (some (.row E sz (encL e v))) } : St).put dst (.own site v.length))) : trK site x hi dst st K := by
 obtain ⟨⟨h1, h2, h3⟩, h4, h5⟩ := slc_E he hq
 refine ⟨s, l.length, E, sz, encL e l, k, hx, hh, ⟨h2, hlt⟩, hr, hs, ?_⟩
 have e0 : k.toNat = v.length := by simpa using h5
 have e1 : (encL e l).take (k.toNat * sz) = encL e v := by rw [e0]; simpa using h4
 rw [e1, e0]
 exact hK
theorem AW_trunc {Q : Exit → St → Prop} {id : Nat} {y : Code} {ops : List Oper} (l1 : List Oper) (o : Oper) (l2 : List Oper) {t : TypeId} {x hi : Operand} {T : Nat → AV} {R : Nat → Option Row} {b : Nat} (site i1 : Nat) (hsite : site = b + 16 * l1.length) (hi1 : i1 = l1.length + 1) (hops : ops = l1 ++ o :: l2) (hg : o.guard = none) (hop : o.op = .slice t x none (some hi) none) {e : TypeId} {sz' : Nat} (he : elA P t = some (e, sz'))
  (hN : dstB C.N ops.toArray = true)
  (h : ∀ K : St → Prop, (∀ T' R' b', AW P C y (St.mk T' R' (b + 1024)) Q → K (St.mk T' R' b')) → aRun P BR ops b 0 l1 (St.mk T R b) fun st1 => trK site x hi o.dst st1 fun st2 => aRun P BR ops b i1 l2 st2 K) :
  AW P C (.seq (.region id ops.toArray false) y) (St.mk T R b) Q := AW_seq fun M ρ a w hR => by
 subst hsite hi1
 have h := h (fun st' => AW P C y (St.mk st'.tmps st'.rows (b + 1024)) Q) (fun T' R' b' h => h)
 have hlen : ops.length = l1.length + (1 + l2.length) := by rw [hops]; simp; omega
 have e1 : List.range ops.toArray.size = List.range' 0 l1.length ++ (l1.length :: List.range' (l1.length + 1) l2.length) := by
  rw [List.size_toArray, List.range_eq_range', hlen, ← List.range'_append_1, Nat.zero_add, Nat.add_comm 1, List.range'_succ]
 refine wp_region ?_
 rw [e1]
 have s1 := aRun_seq2 l1 0 _ (fun j hj => by rw [hops, Nat.zero_add, List.getElem?_append_left hj]) h
 refine aSeq_opsK (K := fun st1 => trK (b + 16 * l1.length) x hi o.dst st1 fun st2 => aRun P BR ops b (l1.length + 1) l2 st2 _) hN _ (fun st1 M1 ρ1 a1 w1 ht hR1 => ?_) _ _ _ M ρ a w s1 hR
 obtain ⟨s, n, E, sz, cs, k, hx, hh, hk, hr, hs, h2⟩ := ht
 have ho : ops.toArray[l1.length]? = some o := by rw [hops]; simp
 obtain ⟨z, ρ', hu, hU⟩ := trunc_ok hop he hx hh hk hr hs hR1 (dstB_spec hN ho)
 rw [wpOps_cons]
 unfold wpOp
 simp only [ho]
 have hw : Region.wanted o (yielded ops.toArray a1.tmps) = true := by simp [Region.wanted, hg]
 rw [if_pos hw]
 refine .inl ?_
 unfold Oper.wp
 rw [hu]
 have s2 := aRun_seq2 l2 (l1.length + 1) _ (fun j hj => by
   rw [hops, List.getElem?_append_right (by omega), show l1.length + 1 + j - l1.length = j + 1 by omega, List.getElem?_cons_succ]) h2
 refine aSeq_ops hN (Q := fun e a' w' => ∃ st' M' ρ', thenA (fun st' => AW P C y st' Q) Q e st' ∧ Rel C M' ρ' st' a' w') (fun st' M' ρ' a' w' h1 h2 => ?_) _ _ _ _ _ _ _ s2 hU
 exact ⟨St.mk st'.tmps st'.rows (b + 1024), M', ρ', h1, h2.next _⟩
end
end Go.Proofs.YtfjopjalhllplaaGreat
/- How arguments of the statements are opened: slices read as lists. -/
namespace Go.Proofs.YtfjopjalhllplaaGreat
open Go.RowKit Go.Lib
set_option linter.unusedVariables false
set_option linter.unusedSimpArgs false
abbrev Quad := Int × Int × Int × Int
/-- The slice that begins at A and has n elements reads as the list l. -/
def SlQ (w : World) (A : Option Addr) (n : Nat) (l : List Quad) : Prop :=
 l.length = n ∧ (0 < n → ∃ b off, A = some ⟨b, off, none⟩ ∧ b < w.heap.size ∧ ∀ (i : Nat) (q : Quad), l[i]? = some q →
   w.cell? ⟨b, off + i * 4, none⟩ = some (.int .i64 q.1) ∧ w.cell? ⟨b, off + i * 4 + 1, none⟩ = some (.int .i64 q.2.1) ∧
   w.cell? ⟨b, off + i * 4 + 2, none⟩ = some (.int .i64 q.2.2.1) ∧ w.cell? ⟨b, off + i * 4 + 3, none⟩ = some (.int .i64 q.2.2.2))

theorem SlQ.at {w : World} {A : Option Addr} {n k : Nat} {l : List Quad} (h : SlQ w A n l) (hk : k < n) :
  ∃ (b off : Nat) (q0 q1 q2 q3 : Int), A = some ⟨b, off, none⟩ ∧ b < w.heap.size ∧ Hid (l[k]? = some (q0, q1, q2, q3)) ∧
   w.cell? ⟨b, off + k * 4, none⟩ = some (.int .i64 q0) ∧ w.cell? ⟨b, off + k * 4 + 1, none⟩ = some (.int .i64 q1) ∧
   w.cell? ⟨b, off + k * 4 + 2, none⟩ = some (.int .i64 q2) ∧ w.cell? ⟨b, off + k * 4 + 3, none⟩ = some (.int .i64 q3) := by
 obtain ⟨b, off, hA, hb, hc⟩ := h.2 (by omega)
 have hl : k < l.length := by rw [h.1]; exact hk
 obtain ⟨c0, c1, c2, c3⟩ := hc k _ (List.getElem?_eq_getElem hl)
 exact ⟨b, off, l[k].1, l[k].2.1, l[k].2.2.1, l[k].2.2.2, hA, hb, hid (List.getElem?_eq_getElem hl), c0, c1, c2, c3⟩

theorem SlQ.keep {w w' : World} {A : Option Addr} {n : Nat} {l : List Quad} (h : SlQ w A n l) (hs : w.heap.size ≤ w'.heap.size)
  (hk : ∀ p : Addr, p.block < w.heap.size → w'.cell? p = w.cell? p) : SlQ w' A n l :=
 ⟨h.1, fun hn => by
   obtain ⟨b, off, hA, hb, hc⟩ := h.2 hn
   refine ⟨b, off, hA, by omega, fun i q hq => ?_⟩
   obtain ⟨c0, c1, c2, c3⟩ := hc i q hq
   exact ⟨(hk _ hb).trans c0, (hk _ hb).trans c1, (hk _ hb).trans c2, (hk _ hb).trans c3⟩⟩
theorem SlQ.below {w w' : World} {A : Option Addr} {n : Nat} {l : List Quad} (h : SlQ w A n l) (hb : Below w.heap.size w w') : SlQ w' A n l :=
 h.keep hb.size fun _ hp => hb.cell hp
theorem SlQ.alloc {w : World} {A : Option Addr} {n : Nat} {l : List Quad} (h : SlQ w A n l) (o : Obj) : SlQ (w.alloc o) A n l :=
 h.below ((Below.refl _ _).alloc (Nat.le_refl _) o)
theorem SlQ.drewN {w : World} {A : Option Addr} {n : Nat} {l : List Quad} (h : SlQ w A n l) (k : Nat) : SlQ (w.drewN k) A n l := h
theorem SlQ.drew {w : World} {A : Option Addr} {n : Nat} {l : List Quad} (h : SlQ w A n l) : SlQ w.drew A n l := h
theorem SlQ.nil (w : World) (A : Option Addr) : SlQ w A 0 [] := ⟨rfl, fun h => absurd h (by omega)⟩

def SlI (w : World) (A : Option Addr) (n : Nat) (l : List Int) : Prop :=
 l.length = n ∧ (0 < n → ∃ b off, A = some ⟨b, off, none⟩ ∧ b < w.heap.size ∧ ∀ (i : Nat) (q : Int), l[i]? = some q → w.cell? ⟨b, off + i, none⟩ = some (.int .i64 q))
theorem SlI.at {w : World} {A : Option Addr} {n k : Nat} {l : List Int} (h : SlI w A n l) (hk : k < n) :
  ∃ (b off : Nat) (q : Int), A = some ⟨b, off, none⟩ ∧ b < w.heap.size ∧ Hid (l[k]? = some q) ∧ w.cell? ⟨b, off + k, none⟩ = some (.int .i64 q) := by
 obtain ⟨b, off, hA, hb, hc⟩ := h.2 (by omega)
 have hl : k < l.length := by rw [h.1]; exact hk
 exact ⟨b, off, l[k], hA, hb, hid (List.getElem?_eq_getElem hl), hc k _ (List.getElem?_eq_getElem hl)⟩
theorem SlI.keep {w w' : World} {A : Option Addr} {n : Nat} {l : List Int} (h : SlI w A n l) (hs : w.heap.size ≤ w'.heap.size)
  (hk : ∀ p : Addr, p.block < w.heap.size → w'.cell? p = w.cell? p) : SlI w' A n l :=
 ⟨h.1, fun hn => by
   obtain ⟨b, off, hA, hb, hc⟩ := h.2 hn
   exact ⟨b, off, hA, by omega, fun i q hq => (hk _ hb).trans (hc i q hq)⟩⟩
theorem SlI.below {w w' : World} {A : Option Addr} {n : Nat} {l : List Int} (h : SlI w A n l) (hb : Below w.heap.size w w') : SlI w' A n l :=
 h.keep hb.size fun _ hp => hb.cell hp
theorem SlI.alloc {w : World} {A : Option Addr} {n : Nat} {l : List Int} (h : SlI w A n l) (o : Obj) : SlI (w.alloc o) A n l :=
 h.below ((Below.refl _ _).alloc (Nat.le_refl _) o)
theorem SlI.nil (w : World) (A : Option Addr) : SlI w A 0 [] := ⟨rfl, fun h => absurd h (by omega)⟩
end Go.Proofs.YtfjopjalhllplaaGreat
/- Common facts for the statements of this seat: how arguments are opened. -/
namespace Go.Proofs.YtfjopjalhllplaaGreat
open Go.ChangeShapes Go.WideShapes Go.ChangeAt Go.RowKit Go.Joins Go.Deep
set_option linter.unusedVariables false

theorem own : ownKnob Tryz.prog.godebug = none := by kernel_rfl
theorem laidOut : laidOutB Tryz.prog = true := by kernel_rfl

section
variable {H : Type} {enc : TypeId × Value → H} {P : Program} {w : World} {base : Nat} {spare : Nat → Bool} {held : Bool}
end
end Go.Proofs.YtfjopjalhllplaaGreat
/- How arguments that hold slices of ints are opened: []int, NormalForm. -/
namespace Go.Proofs.YtfjopjalhllplaaGreat
open Go.ChangeShapes Go.WideShapes Go.ChangeAt Go.RowKit Go.Joins Go.Deep
set_option linter.unusedVariables false
section
variable {H : Type} {enc : TypeId × Value → H} {P : Program} {w : World} {base : Nat} {spare : Nat → Bool} {held : Bool}
end
end Go.Proofs.YtfjopjalhllplaaGreat
/- From a contract on abstract values to calls in a given world; what comes in, as abstract values over the printed encodings. -/
namespace Go.Proofs.YtfjopjalhllplaaGreat
open Go.RowKit
set_option maxRecDepth 100000
set_option linter.unusedVariables false
set_option linter.unusedSimpArgs false
def wM (w : World) : Imm := fun b o => match w.cell? ⟨b, o, none⟩ with
 | some v => if v.oneCell' then some v else none
 | none => none
theorem wM_some {w : World} {b o : Nat} {v : Value} (h : w.cell? ⟨b, o, none⟩ = some v) (h1 : v.oneCell' = true) : wM w b o = some v := by simp [wM, h, h1]
theorem wM_inv {w : World} {b o : Nat} {v : Value} (h : wM w b o = some v) : w.cell? ⟨b, o, none⟩ = some v ∧ v.oneCell' = true := by
 unfold wM at h
 split at h
 ·rename_i u hu
  split at h
  ·rename_i h1
   injection h with h; subst h
   exact ⟨hu, h1⟩
  ·cases h
 ·cases h
theorem spec_calls {P : Program} {f : FuncId} {args : List AV} {b : Bool} {vs : Array Value} {w : World} (hS : Spec P f args [] (.bool b) []) (hlen : args.length = vs.size)
  (hv : ∀ (i : Nat) (c : AV) (v : Value), args[i]? = some c → vs[i]? = some v → VR (wM w) (fun _ => none) c v) : Calls P f vs w fun e w' => e = .returned (.bool b) ∧ Below w.heap.size w w' := by
 refine (hS.2 (wM w) (fun _ => none) w vs (MR.empty _ _ _ fun b o v h => wM_inv h) (fun _ _ => rfl) hlen hv).mono ?_
 rintro e w' ⟨v, M', ρ', rfl, _, _, _, _, hr, hc, _, _⟩
 obtain rfl := hr.bool_inv
 refine ⟨rfl, hc.os, hc.tape, hc.output, hc.size, fun k hk => hc.block k hk ?_⟩
 rintro ⟨s, r, x, hs, _⟩
 simp [rowsOf] at hs
theorem encL_get {α : Type} {e : α → List AV} {sz : Nat} (h : ∀ x, (e x).length = sz) : ∀ (l : List α) (k j : Nat) (q : α), l[k]? = some q → j < sz → (encL e l)[k * sz + j]? = (e q)[j]?
 | x :: l, 0, j, q, hq, hj => by
  simp only [List.getElem?_cons_zero, Option.some.injEq] at hq
  subst hq
  rw [encL_cons, Nat.zero_mul, Nat.zero_add, List.getElem?_append_left (by rw [h]; exact hj)]
 | x :: l, k + 1, j, q, hq, hj => by
  rw [encL_cons, List.getElem?_append_right (by rw [h, Nat.succ_mul]; omega), h, show (k + 1) * sz + j - sz = k * sz + j by rw [Nat.succ_mul]; omega]
  exact encL_get h l k j q (by simpa using hq) hj
theorem args1 {M : Imm} {ρ : Plc} {x : AV} {u : Value} (h1 : VR M ρ x u) : ∀ (i : Nat) (c : AV) (w : Value), [x][i]? = some c → #[u][i]? = some w → VR M ρ c w := by
 intro i c w hc hw
 match i with
 | 0 => simp at hc hw; subst hc hw; exact h1
 | i + 1 => simp at hc
end Go.Proofs.YtfjopjalhllplaaGreat
/- How an argument []byte is opened, with its capacity; as an abstract value. -/
namespace Go.Proofs.YtfjopjalhllplaaGreat
open Go.ChangeShapes Go.WideShapes Go.ChangeAt Go.RowKit Go.Joins Go.Deep
set_option linter.unusedVariables false
set_option linter.unusedSimpArgs false
def IsBytesC (w : World) (A : Option Addr) (n c : Nat) (zs : List Int) : Prop :=
 n ≤ maxLen ∧ n ≤ c ∧ zs.length = n ∧ (∀ z ∈ zs, 0 ≤ z ∧ z ≤ 255) ∧ (0 < n → ∃ b off, A = some ⟨b, off, none⟩ ∧ b < w.heap.size ∧ ∀ i z, zs[i]? = some z → w.cell? ⟨b, off + i, none⟩ = some (.int .u8 z))
section
variable {H : Type} {enc : TypeId × Value → H} {P : Program} {w : World} {base : Nat} {spare : Nat → Bool} {held : Bool}
theorem isBytesC_of_trod {t e : TypeId} {A : Option Addr} {n c : Nat} {d : DataW H} {p : List MemPlace} (ht : P.underlying t = some (.slice e)) (he : P.underlying e = some (.int .u8)) (hC : P.cellsOf e = 1)
  (h : DataW.Trod enc P w base spare held t (.slice A n c) d p) : ∃ zs, IsBytesC w A n c zs := by
 obtain ⟨fuel, hf⟩ := h
 rcases open_ints ht he hC hf with ⟨hcs, _⟩ | ⟨x, l, c', zs, hcs, _, hl, hm, hz, _, hcell, hwz⟩
 ·simp [Value.cells] at hcs
  obtain ⟨rfl, rfl, rfl⟩ := hcs
  exact ⟨[], by simp [maxLen], Nat.le_refl _, rfl, by simp, fun h => absurd h (by omega)⟩
 ·simp [Value.cells] at hcs
  obtain ⟨rfl, rfl, rfl⟩ := hcs
  have hlz : n ≤ zs.length := by rw [hz]; split <;> omega
  refine ⟨zs.take n, by omega, hl, by simp; omega, fun z hz' => ?_, fun hp => ?_⟩
  ·have := hwz z (List.mem_of_mem_take hz')
   have := bounds_u8 this
   omega
  ·obtain ⟨b, off, spot⟩ := x
   have h0 := hcell 0 (by omega)
   have hs : spot = none := by simpa [Addr.add] using World.cell?_spot h0
   subst hs
   refine ⟨b, off, rfl, ?_, fun i z hiz => ?_⟩
   ·exact World.block_lt_of_cell? w _ (by simpa [Addr.add] using h0)
   ·have hi : i < n := by
     rcases Nat.lt_or_ge i n with h' | h'
     ·exact h'
     ·rw [List.getElem?_eq_none (by simp; omega)] at hiz; cases hiz
    have hc := hcell i (by omega)
    rw [show (⟨b, off, none⟩ : Addr).add i = ⟨b, off + i, none⟩ from by unfold Addr.add; split <;> simp_all] at hc
    rw [hc]
    have : zs.getD i 0 = z := by
     rw [List.getElem?_take, if_pos hi] at hiz
     simp [hiz]
    rw [this]

end
theorem pv_bytes {w : World} {A : Option Addr} {n c : Nat} {l : List Int} (h : IsBytesC w A n c l) : PV (wM w) (.sl (encL EB l) l.length) (.slice A n c) := by
 obtain rfl := h.2.2.1
 have hc := h.2.1
 have H := h.2.2.2.2
 by_cases hp : 0 < l.length
 ·obtain ⟨b, off, hA, hb, hcell⟩ := H hp
  have hlen := encL_len EBl l
  have key : ∀ (i : Nat) (x : AV), (encL EB l)[i]? = some x → ∃ n : Int, x = .int .u8 n ∧ w.cell? ⟨b, off + i, none⟩ = some (.int .u8 n) := by
   intro i x hx
   have hi : i < l.length := by
    have : i < l.length * 1 := by
     rw [← hlen]
     rcases Nat.lt_or_ge i (encL EB l).length with h' | h'
     ·exact h'
     ·rw [List.getElem?_eq_none h'] at hx; cases hx
    omega
   have hq := List.getElem?_eq_getElem hi
   have e := encL_get EBl l i 0 _ hq (by omega)
   rw [show i * 1 + 0 = i by omega, hx] at e
   simp only [EB, List.getElem?_cons_zero, Option.some.injEq] at e
   exact ⟨_, e, hcell i _ hq⟩
  refine .sl _ _ _ _ b off (fun i => (w.cell? ⟨b, off + i, none⟩).getD undef) (fun _ => hA) hc (fun i x hx => ?_) (fun i x hx => ?_)
  ·obtain ⟨n, rfl, hn⟩ := key i x hx
   rw [wM_some hn rfl, hn]; rfl
  ·obtain ⟨n, rfl, hn⟩ := key i x hx
   simp only [hn, Option.getD_some]
   exact .int ..
 ·have : l = [] := List.eq_nil_of_length_eq_zero (by omega)
  subst this
  exact .sl _ _ _ _ 0 0 (fun _ => undef) (fun h => absurd h (by simp)) hc (fun i x hx => by simp [encL] at hx) (fun i x hx => by simp [encL] at hx)
end Go.Proofs.YtfjopjalhllplaaGreat
