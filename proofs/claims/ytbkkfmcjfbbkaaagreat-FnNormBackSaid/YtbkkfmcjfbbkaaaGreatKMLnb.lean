/- Models of functions, and that the functions do what the models say; printed by a program. -/
import Derived.Test.YtbkkfmcjfbbkaaaGreatK1
import Derived.Test.YtbkkfmcjfbbkaaaGreatK4
import Derived.Test.YtbkkfmcjfbbkaaaGreatK5
import Derived.Test.YtbkkfmcjfbbkaaaGreatK7
import Derived.Test.YtbkkfmcjfbbkaaaGreatK2
import Derived.Test.YtbkkfmcjfbbkaaaGreatKMp
namespace Go.Proofs.YtbkkfmcjfbbkaaaGreat
open Go.RowKit
set_option maxRecDepth 100000
set_option linter.unusedVariables false
set_option linter.unusedSimpArgs false
set_option linter.defProp false
set_option maxHeartbeats 4000000
/- spec.DrawNormalFormGates -/
def s_DrawNormalFormGates (a1 : List Int) : Option (Int × LQ × List Int) :=
  bO (s_l1New a1) fun x1 => bO (s_l30Bent x1.1 x1.2.1 x1.2.2) fun x2 => some (x2.1, x2.2.1, x2.2.2.1)
theorem s_DrawNormalFormGates_ok {a1 : List Int} {r : Int × LQ × List Int} (h : s_DrawNormalFormGates a1 = some r) :
    Spec Tryz.prog 8 [.sl (encL EB a1) a1.length] [] (.agg [.own 0 r.2.2.length, .int .i64 r.1, .sl (encL EIIII r.2.1) r.2.1.length]) [.row 3 1 (encL EI r.2.2)] := by
 unfold s_DrawNormalFormGates at h; refine SO Tryz.func8 rfl Tryz.ntmps8 fun C hN hρ => ?_; simp only [st0, tmps0, Nat.zero_add, Nat.reduceAdd]; refine AR hN fun K hK => ?_; simp only [EV, seval]; refine hK _ _ _ ?_; clear hK K; refine AR hN fun K hK => ?_; obtain ⟨x1, h1, h⟩ := bO_inv h; simp only [EV, seval]; refine rC_p (s_l1New_ok h1) (by simp only [AL, EV, seval]) (le_d rfl) (site_1 (by simp only [EV, seval])) ?_; obtain ⟨x2, h2, h⟩ := bO_inv h; simp only [EV, seval]; refine rR_p [1104] (s_l30Bent_ok h2) (by simp only [AL, EV, seval]) (by simp only [AL, EV, seval]) (by kernel_rfl) (by simp only [EV, solidO, List.mem_cons, List.not_mem_nil, or_false, forall_eq_or_imp, forall_eq, seval]) (le_d rfl) (le_d rfl) (site_1 (by simp only [EV, seval])) ?_; simp only [EV, seval]; refine hK _ _ _ ?_; clear hK K; injection h with h; subst h; exact AX (b' := 64) [(2, .ptr 32 0)] [(32, .box 29 [.own 33 x2.2.2.1.length, .int .i64 x2.1, .sl (encL EIIII x2.2.1) x2.2.1.length]), (33, .row 3 1 (encL EI x2.2.2.1))] [(32, some 64), (33, some 1120)] [] hρ (EQ [33] (by simp only [EV, Tryz.results8, seval]))
/- laws.FnNormBack -/
def l_FnNormBack_j2 (v2 : Bool) : Option Bool :=
  some v2
def l_FnNormBack_j1 (x2 : Int × LQ × List Int) (x3 : LQ) (v1 : Bool) : Option Bool :=
  br v1 (some false) (bO (s_IsValidNormalForm x2.2.2 x2.1 x2.2.1) fun x11 => br (!x11) (some (((x3.length : Int)) == 0)) (bO (i_ComputeNormalForm x3) fun x12 => bO (br x12.2.2.2 (bO (i_EqualNormalForm x12.2.1 x12.1 x12.2.2.1 x2.2.2 x2.1 x2.2.1) fun x13 => some x13) (some false)) fun x14 => bO (br x14 (bO (s_EqualNormalForm x12.2.1 x12.1 x12.2.2.1 x2.2.2 x2.1 x2.2.1) fun x15 => some x15) (some false)) fun x16 => l_FnNormBack_j2 x16))
def l_FnNormBack (a1 : List Int) : Option Bool :=
  bO (l_big a1) fun x1 => br x1 (some true) (bO (s_DrawNormalFormGates a1) fun x2 => bO (i_NormalFormGates x2.2.2 x2.1 x2.2.1) fun x3 => bO (s_NormalFormGates x2.2.2 x2.1 x2.2.1) fun x4 => bO (l_sameGates x3 x4) fun x5 => bO (br (!x5) (some true) (bO (i_IsValidNormalForm x2.2.2 x2.1 x2.2.1) fun x6 => bO (s_IsValidNormalForm x2.2.2 x2.1 x2.2.1) fun x7 => some (x6 != x7))) fun x8 => l_FnNormBack_j1 x2 x3 x8)
theorem l_FnNormBack_ok {a1 : List Int} {r : Bool} (h : l_FnNormBack a1 = some r) :
    Spec Tryz.prog 3 [.sl (encL EB a1) a1.length] [] (.bool r) [] := by
 unfold l_FnNormBack at h; refine SO Tryz.func3 rfl Tryz.ntmps3 fun C hN hρ => ?_; simp only [st0, tmps0, Nat.zero_add, Nat.reduceAdd]; refine AR hN fun K hK => ?_; simp only [EV, seval]; refine hK _ _ _ ?_; clear hK K; refine AW_seq ?_; refine AR hN fun K hK => ?_; obtain ⟨x1, h1, h⟩ := bO_inv h; simp only [EV, seval]; refine CP (l_big_ok h1) ?_; simp only [EV, seval]; refine hK _ _ _ ?_; clear hK K; refine AB h (fun hc1 h => ?_) fun hc1 h => ?_
 ·refine AR hN fun K hK => ?_; simp only [EV, seval]; refine hK _ _ _ ?_; clear hK K; injection h with h; subst h; exact AX (b' := 64) [(2, .bool true)] [] [] [] hρ (EQ [] (by simp only [EV, Tryz.results3, seval]))
 ·refine AW_skip (AK ?_); refine AR hN fun K hK => ?_; obtain ⟨x2, h2, h⟩ := bO_inv h; simp only [EV, seval]; refine rC_p (s_DrawNormalFormGates_ok h2) (by simp only [AL, EV, seval]) (le_d rfl) (site_1 (by simp only [EV, seval])) ?_; simp only [EV, seval]; refine hK _ _ _ ?_; clear hK K; refine AR hN fun K hK => ?_; obtain ⟨x3, h3, h⟩ := bO_inv h; simp only [EV, seval]; refine rC_l (i_NormalFormGates_ok h3) (by simp only [AL, EV, seval]) (by simp only [AL, EF, and_self]) (le_d rfl) (site_1 (by simp only [EV, seval])) ?_; simp only [EV, seval]; refine hK _ _ _ ?_; clear hK K; refine AW_seq ?_; refine AJ (fun S => ∃ (v1 : Bool), S = ⟨mkT [(3, .ptr 32 0), (4, .own 33 x3.length), (24, .bool v1)], mkR [(32, .box 29 [.own 34 x2.2.2.length, .int .i64 x2.1, .sl (encL EIIII x2.2.1) x2.2.1.length]), (33, .row 45 4 (encL EIIII x3)), (34, .row 3 1 (encL EI x2.2.2))], 64⟩ ∧ l_FnNormBack_j1 x2 x3 v1 = some r) hN ?_ ?_
  ·intro K hK; obtain ⟨x4, h4, h⟩ := bO_inv h; simp only [EV, seval]; refine rC_l (s_NormalFormGates_ok h4) (by simp only [AL, EV, seval]) (by simp only [AL, EF, and_self]) (le_d rfl) (site_1 (by simp only [EV, seval])) ?_; obtain ⟨x5, h5, h⟩ := bO_inv h; simp only [EV, seval]; refine rC_l (l_sameGates_ok h5) (by simp only [AL, EV, seval]) (by simp only [AL, EF, and_self]) (le_d rfl) (no_j rfl) ?_; obtain ⟨x8, hv1, h⟩ := bO_inv h; rcases br_inv hv1 with ⟨hc2, hv1⟩ | ⟨hc2, hv1⟩
   ·cases hv1; simp only [EV, seval, hc2]; refine hK _ _ _ (show cutK _ _ _ from cutL ⟨_, rfl, h⟩ (Le_can [(32, some 2144), (33, some 3152), (34, some 2128)] [] hρ (by kernel_rfl) ?_ ?_))
    ·simp only [AL, EV, seval, hc2]
    ·simp only [AL, EV, seval, hc2]
   ·obtain ⟨x9, h8, hv1⟩ := bO_inv hv1; simp only [EV, seval, hc2]; refine rC_l (i_IsValidNormalForm_ok h8) (by simp only [AL, EV, seval, hc2]) (by simp only [AL, EF, and_self]) (le_d rfl) (no_j rfl) ?_; obtain ⟨x10, h9, hv1⟩ := bO_inv hv1; simp only [EV, seval, hc2]; refine rC_l (s_IsValidNormalForm_ok h9) (by simp only [AL, EV, seval, hc2]) (by simp only [AL, EF, and_self]) (le_d rfl) (no_j rfl) ?_; cases hv1; simp only [EV, seval, hc2]; refine hK _ _ _ (show cutK _ _ _ from cutL ⟨_, rfl, h⟩ (Le_can [(32, some 2144), (33, some 3152), (34, some 2128)] [] hρ (by kernel_rfl) ?_ ?_))
    ·simp only [AL, EV, seval, hc2]
    ·simp only [AL, EV, seval, hc2]
  ·rintro S ⟨v1, rfl, h⟩; unfold l_FnNormBack_j1 at h; refine AB h (fun hc3 h => ?_) fun hc3 h => ?_
   ·refine AR hN fun K hK => ?_; simp only [EV, seval]; refine hK _ _ _ ?_; clear hK K; injection h with h; subst h; exact AX (b' := 64) [(2, .bool false)] [] [] [] hρ (EQ [] (by simp only [EV, Tryz.results3, seval]))
   ·refine AW_skip (AK ?_); refine AW_seq ?_; refine AR hN fun K hK => ?_; obtain ⟨x11, h10, h⟩ := bO_inv h; simp only [EV, seval]; refine rC_l (s_IsValidNormalForm_ok h10) (by simp only [AL, EV, seval]) (by simp only [AL, EF, and_self]) (le_d rfl) (no_j rfl) ?_; simp only [EV, seval]; refine hK _ _ _ ?_; clear hK K; refine AB h (fun hc4 h => ?_) fun hc4 h => ?_
    ·refine AR hN fun K hK => ?_; simp only [EV, seval]; refine hK _ _ _ ?_; clear hK K; injection h with h; subst h; exact AX (b' := 64) [(2, .bool (((x3.length : Int)) == 0))] [] [] [] hρ (EQ [] (by simp only [EV, Tryz.results3, seval]))
    ·refine AW_skip (AK ?_); refine AR hN fun K hK => ?_; obtain ⟨x12, h11, h⟩ := bO_inv h; simp only [EV, seval]; refine rC_l (i_ComputeNormalForm_ok h11) (by simp only [AL, EV, seval]) (by simp only [AL, EF, and_self]) (le_d rfl) (site_2 (by simp only [EV, seval])) ?_; simp only [EV, seval]; refine hK _ _ _ ?_; clear hK K; refine AJ (fun S => ∃ (v2 : Bool), S = ⟨mkT [(2, .bool v2)], mkR [], 64⟩ ∧ l_FnNormBack_j2 v2 = some r) hN ?_ ?_
     ·intro K hK; obtain ⟨x14, hv2, h⟩ := bO_inv h; rcases br_inv hv2 with ⟨hc5, hv2⟩ | ⟨hc5, hv2⟩
      ·obtain ⟨x17, h14, hv2⟩ := bO_inv hv2; simp only [EV, seval, hc5]; refine rC_l (i_EqualNormalForm_ok h14) (by simp only [AL, EV, seval, hc5]) (by simp only [AL, EF, and_self]) (le_d rfl) (no_j rfl) ?_; cases hv2; obtain ⟨x19, hv4, h⟩ := bO_inv h; rcases br_inv hv4 with ⟨hc7, hv4⟩ | ⟨hc7, hv4⟩
       ·obtain ⟨x20, h16, hv4⟩ := bO_inv hv4; simp only [EV, seval, hc5, hc7]; refine rC_l (s_EqualNormalForm_ok h16) (by simp only [AL, EV, seval, hc5, hc7]) (by simp only [AL, EF, and_self]) (le_d rfl) (no_j rfl) ?_; cases hv4; simp only [EV, seval, hc5, hc7]; refine hK _ _ _ (show cutK _ _ _ from cutL ⟨_, rfl, h⟩ (Le_can [] [] hρ (by kernel_rfl) ?_ ?_))
        ·simp only [AL, EV, seval, hc5, hc7]
        ·simp only [AL, EV, seval, hc5, hc7]
       ·cases hv4; simp only [EV, seval, hc5, hc7]; refine hK _ _ _ (show cutK _ _ _ from cutL ⟨_, rfl, h⟩ (Le_can [] [] hρ (by kernel_rfl) ?_ ?_))
        ·simp only [AL, EV, seval, hc5, hc7]
        ·simp only [AL, EV, seval, hc5, hc7]
      ·cases hv2; obtain ⟨x21, hv5, h⟩ := bO_inv h; replace hv5 := br_f hv5; cases hv5; (try dsimp only at h); simp only [EV, seval, hc5]; refine hK _ _ _ (show cutK _ _ _ from cutL ⟨_, rfl, h⟩ (Le_can [] [] hρ (by kernel_rfl) ?_ ?_))
       ·simp only [AL, EV, seval, hc5]
       ·simp only [AL, EV, seval, hc5]
     ·rintro S ⟨v2, rfl, h⟩; unfold l_FnNormBack_j2 at h; injection h with h; subst h; exact AX (b' := 64) [(2, .bool v2)] [] [] [] hρ (EQ [] (by simp only [EV, Tryz.results3, seval]))
end Go.Proofs.YtbkkfmcjfbbkaaaGreat
