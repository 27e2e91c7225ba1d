/- Models of functions, and that the functions do what the models say; printed by a program. -/
import Derived.Test.YtbkkfmcjfbbkaaaGreatK1
import Derived.Test.YtbkkfmcjfbbkaaaGreatK5
import Derived.Test.YtbkkfmcjfbbkaaaGreatK7
import Derived.Test.YtbkkfmcjfbbkaaaGreatKMp
import Derived.Test.YtbkkfmcjfbbkaaaGreatK2
namespace Go.Proofs.YtbkkfmcjfbbkaaaGreat
open Go.RowKit
set_option maxRecDepth 100000
set_option linter.unusedVariables false
set_option linter.unusedSimpArgs false
set_option linter.defProp false
set_option maxHeartbeats 4000000
/- laws.FnNorm -/
def l_FnNorm_j2 (v2 : Bool) : Option Bool :=
  some v2
def l_FnNorm_j1 (x2 : LQ) (x3 : Int × List Int × LQ × Bool) (v1 : Bool) : Option Bool :=
  br v1 (some false) (br (!x3.2.2.2) (some (((x3.2.1.length : Int)) == 0)) (bO (i_NormalFormGates x3.2.1 x3.1 x3.2.2.1) fun x8 => bO (l_apart x8 x2 1) fun x9 => bO (br x9.2 (bO (i_IsValidNormalForm x3.2.1 x3.1 x3.2.2.1) fun x10 => some x10) (some false)) fun x11 => bO (br x11 (bO (l_tCount x8) fun x12 => some (x12 == ((x3.2.1.length : Int)))) (some false)) fun x13 => bO (br x13 (bO (l_tCount x8) fun x14 => bO (l_tCount x2) fun x15 => some (decide (x14 ≤ x15))) (some false)) fun x16 => l_FnNorm_j2 x16))
def l_FnNorm (a1 : List Int) : Option Bool :=
  bO (l_big a1) fun x1 => br x1 (some true) (bO (s_DrawComputeNormalForm a1) fun x2 => bO (i_ComputeNormalForm x2) fun x3 => bO (s_ComputeNormalForm x2) fun x4 => bO (br (x3.2.2.2 != x4.2.2.2) (some true) (bO (s_EqualNormalForm x3.2.1 x3.1 x3.2.2.1 x4.2.1 x4.1 x4.2.2.1) fun x5 => some (!x5))) fun x6 => l_FnNorm_j1 x2 x3 x6)
theorem l_FnNorm_ok {a1 : List Int} {r : Bool} (h : l_FnNorm a1 = some r) :
    Spec Tryz.prog 4 [.sl (encL EB a1) a1.length] [] (.bool r) [] := by
 unfold l_FnNorm at h; refine SO Tryz.func4 rfl Tryz.ntmps4 fun C hN hρ => ?_; simp only [st0, tmps0, Nat.zero_add, Nat.reduceAdd]; refine AR hN fun K hK => ?_; simp only [EV, seval]; refine hK _ _ _ ?_; clear hK K; refine AW_seq ?_; refine AR hN fun K hK => ?_; obtain ⟨x1, h1, h⟩ := bO_inv h; simp only [EV, seval]; refine CP (l_big_ok h1) ?_; simp only [EV, seval]; refine hK _ _ _ ?_; clear hK K; refine AB h (fun hc1 h => ?_) fun hc1 h => ?_
 ·refine AR hN fun K hK => ?_; simp only [EV, seval]; refine hK _ _ _ ?_; clear hK K; injection h with h; subst h; exact AX (b' := 64) [(2, .bool true)] [] [] [] hρ (EQ [] (by simp only [EV, Tryz.results4, seval]))
 ·refine AW_skip (AK ?_); refine AR hN fun K hK => ?_; obtain ⟨x2, h2, h⟩ := bO_inv h; simp only [EV, seval]; refine rC_p (s_DrawComputeNormalForm_ok h2) (by simp only [AL, EV, seval]) (le_d rfl) (site_1 (by simp only [EV, seval])) ?_; simp only [EV, seval]; refine hK _ _ _ ?_; clear hK K; refine AR hN fun K hK => ?_; obtain ⟨x3, h3, h⟩ := bO_inv h; simp only [EV, seval]; refine rC_l (i_ComputeNormalForm_ok h3) (by simp only [AL, EV, seval]) (by simp only [AL, EF, and_self]) (le_d rfl) (site_2 (by simp only [EV, seval])) ?_; simp only [EV, seval]; refine hK _ _ _ ?_; clear hK K; refine AR hN fun K hK => ?_; obtain ⟨x4, h4, h⟩ := bO_inv h; simp only [EV, seval]; refine rC_l (s_ComputeNormalForm_ok h4) (by simp only [AL, EV, seval]) (by simp only [AL, EF, and_self]) (le_d rfl) (site_2 (by simp only [EV, seval])) ?_; simp only [EV, seval]; refine hK _ _ _ ?_; clear hK K; refine AW_seq ?_; refine AJ (fun S => ∃ (v1 : Bool), S = ⟨mkT [(3, .own 32 x2.length), (4, .ptr 33 0), (5, .bool x3.2.2.2), (33, .bool v1)], mkR [(32, .row 45 4 (encL EIIII x2)), (33, .box 29 [.own 34 x3.2.1.length, .int .i64 x3.1, .own 35 x3.2.2.1.length]), (34, .row 3 1 (encL EI x3.2.1)), (35, .row 96 4 (encL EIIII x3.2.2.1))], 64⟩ ∧ l_FnNorm_j1 x2 x3 v1 = some r) hN ?_ ?_
  ·intro K hK; obtain ⟨x6, hv1, h⟩ := bO_inv h; rcases br_inv hv1 with ⟨hc2, hv1⟩ | ⟨hc2, hv1⟩
   ·cases hv1; simp only [EV, seval, hc2]; refine hK _ _ _ (show cutK _ _ _ from cutL ⟨_, rfl, h⟩ (Le_can [(32, some 2128), (33, some 3216), (34, some 3152), (35, some 3153)] [] hρ (by kernel_rfl) ?_ ?_))
    ·simp only [AL, EV, seval, hc2]
    ·simp only [AL, EV, seval, hc2]
   ·obtain ⟨x7, h6, hv1⟩ := bO_inv hv1; simp only [EV, seval, hc2]; refine rC_l (s_EqualNormalForm_ok h6) (by simp only [AL, EV, seval, hc2]) (by simp only [AL, EF, and_self]) (le_d rfl) (no_j rfl) ?_; cases hv1; simp only [EV, seval, hc2]; refine hK _ _ _ (show cutK _ _ _ from cutL ⟨_, rfl, h⟩ (Le_can [(32, some 2128), (33, some 3216), (34, some 3152), (35, some 3153)] [] hρ (by kernel_rfl) ?_ ?_))
    ·simp only [AL, EV, seval, hc2]
    ·simp only [AL, EV, seval, hc2]
  ·rintro S ⟨v1, rfl, h⟩; unfold l_FnNorm_j1 at h; refine AB h (fun hc3 h => ?_) fun hc3 h => ?_
   ·refine AR hN fun K hK => ?_; simp only [EV, seval]; refine hK _ _ _ ?_; clear hK K; injection h with h; subst h; exact AX (b' := 64) [(2, .bool false)] [] [] [] hρ (EQ [] (by simp only [EV, Tryz.results4, seval]))
   ·refine AW_skip (AK ?_); refine AW_seq ?_; refine AR hN fun K hK => ?_; simp only [EV, seval]; refine hK _ _ _ ?_; clear hK K; refine AB h (fun hc4 h => ?_) fun hc4 h => ?_
    ·refine AR hN fun K hK => ?_; simp only [EV, seval]; refine hK _ _ _ ?_; clear hK K; injection h with h; subst h; exact AX (b' := 64) [(2, .bool (((x3.2.1.length : Int)) == 0))] [] [] [] hρ (EQ [] (by simp only [EV, Tryz.results4, seval]))
    ·refine AW_skip (AK ?_); refine AR hN fun K hK => ?_; obtain ⟨x8, h7, h⟩ := bO_inv h; simp only [EV, seval]; refine rC_l (i_NormalFormGates_ok h7) (by simp only [AL, EV, seval]) (by simp only [AL, EF, and_self]) (le_d rfl) (site_1 (by simp only [EV, seval])) ?_; simp only [EV, seval]; refine hK _ _ _ ?_; clear hK K; refine AR hN fun K hK => ?_; obtain ⟨x9, h8, h⟩ := bO_inv h; simp only [EV, seval]; refine rC_l (l_apart_ok h8) (by simp only [AL, EV, seval]) (by simp only [AL, EF, and_self]) (le_d rfl) (no_j rfl) ?_; simp only [EV, seval]; refine hK _ _ _ ?_; clear hK K; refine AJ (fun S => ∃ (v2 : Bool), S = ⟨mkT [(2, .bool v2)], mkR [], 64⟩ ∧ l_FnNorm_j2 v2 = some r) hN ?_ ?_
     ·intro K hK; obtain ⟨x11, hv2, h⟩ := bO_inv h; rcases br_inv hv2 with ⟨hc5, hv2⟩ | ⟨hc5, hv2⟩
      ·obtain ⟨x17, h13, hv2⟩ := bO_inv hv2; simp only [EV, seval, hc5]; refine rC_l (i_IsValidNormalForm_ok h13) (by simp only [AL, EV, seval, hc5]) (by simp only [AL, EF, and_self]) (le_d rfl) (no_j rfl) ?_; cases hv2; obtain ⟨x19, hv5, h⟩ := bO_inv h; rcases br_inv hv5 with ⟨hc8, hv5⟩ | ⟨hc8, hv5⟩
       ·obtain ⟨x23, h17, hv5⟩ := bO_inv hv5; simp only [EV, seval, hc5, hc8]; refine rC_l (l_tCount_ok h17) (by simp only [AL, EV, seval, hc5, hc8]) (by simp only [AL, EF, and_self]) (le_d rfl) (no_j rfl) ?_; cases hv5; obtain ⟨x26, hv7, h⟩ := bO_inv h; rcases br_inv hv7 with ⟨hc10, hv7⟩ | ⟨hc10, hv7⟩
        ·obtain ⟨x27, h20, hv7⟩ := bO_inv hv7; simp only [EV, seval, hc5, hc8, hc10]; refine rC_l (l_tCount_ok h20) (by simp only [AL, EV, seval, hc5, hc8, hc10]) (by simp only [AL, EF, and_self]) (le_d rfl) (no_j rfl) ?_; obtain ⟨x28, h21, hv7⟩ := bO_inv hv7; simp only [EV, seval, hc5, hc8, hc10]; refine rC_l (l_tCount_ok h21) (by simp only [AL, EV, seval, hc5, hc8, hc10]) (by simp only [AL, EF, and_self]) (le_d rfl) (no_j rfl) ?_; cases hv7; simp only [EV, seval, hc5, hc8, hc10]; refine hK _ _ _ (show cutK _ _ _ from cutL ⟨_, rfl, h⟩ (Le_can [] [] hρ (by kernel_rfl) ?_ ?_))
         ·simp only [AL, EV, seval, hc5, hc8, hc10]
         ·simp only [AL, EV, seval, hc5, hc8, hc10]
        ·cases hv7; simp only [EV, seval, hc5, hc8, hc10]; refine hK _ _ _ (show cutK _ _ _ from cutL ⟨_, rfl, h⟩ (Le_can [] [] hρ (by kernel_rfl) ?_ ?_))
         ·simp only [AL, EV, seval, hc5, hc8, hc10]
         ·simp only [AL, EV, seval, hc5, hc8, hc10]
       ·cases hv5; obtain ⟨x29, hv8, h⟩ := bO_inv h; replace hv8 := br_f hv8; cases hv8; (try dsimp only at h); simp only [EV, seval, hc5, hc8]; refine hK _ _ _ (show cutK _ _ _ from cutL ⟨_, rfl, h⟩ (Le_can [] [] hρ (by kernel_rfl) ?_ ?_))
        ·simp only [AL, EV, seval, hc5, hc8]
        ·simp only [AL, EV, seval, hc5, hc8]
      ·cases hv2; obtain ⟨x30, hv9, h⟩ := bO_inv h; replace hv9 := br_f hv9; cases hv9; (try dsimp only at h); obtain ⟨x31, hv10, h⟩ := bO_inv h; replace hv10 := br_f hv10; cases hv10; (try dsimp only at h); simp only [EV, seval, hc5]; refine hK _ _ _ (show cutK _ _ _ from cutL ⟨_, rfl, h⟩ (Le_can [] [] hρ (by kernel_rfl) ?_ ?_))
       ·simp only [AL, EV, seval, hc5]
       ·simp only [AL, EV, seval, hc5]
     ·rintro S ⟨v2, rfl, h⟩; unfold l_FnNorm_j2 at h; injection h with h; subst h; exact AX (b' := 64) [(2, .bool v2)] [] [] [] hρ (EQ [] (by simp only [EV, Tryz.results4, seval]))
end Go.Proofs.YtbkkfmcjfbbkaaaGreat
