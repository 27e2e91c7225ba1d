/- Models of functions, and that the functions do what the models say; printed by a program. -/
import Derived.Test.YtbkkfmcjfbbkaaaGreatK1
import Derived.Test.YtbkkfmcjfbbkaaaGreatK5
import Derived.Test.YtbkkfmcjfbbkaaaGreatK7
import Derived.Test.YtbkkfmcjfbbkaaaGreatKMp
namespace Go.Proofs.YtbkkfmcjfbbkaaaGreat
open Go.RowKit
set_option maxRecDepth 100000
set_option linter.unusedVariables false
set_option linter.unusedSimpArgs false
set_option linter.defProp false
set_option maxHeartbeats 4000000
/- laws.at0 -/
def l_at0 (a1 : List Int) (a2 : Int) : Option Int :=
  br (decide (a2 < ((a1.length : Int)))) (bO (geti a1 a2) fun q1 => some (IntKind.wrap .i64 q1)) (some (Int.tmod (IntKind.wrap .i64 ((IntKind.wrap .i64 (a2 * 7)) + ((a1.length : Int)))) 256))
theorem l_at0_ok {a1 : List Int} {a2 : Int} {r : Int} (h : l_at0 a1 a2 = some r) :
    Spec Tryz.prog 22 [.sl (encL EB a1) a1.length, .int .i64 a2] [] (.int .i64 r) [] := by
 unfold l_at0 at h; refine SO Tryz.func22 rfl Tryz.ntmps22 fun C hN hρ => ?_; simp only [st0, tmps0, Nat.zero_add, Nat.reduceAdd]; refine AR hN fun K hK => ?_; simp only [EV, seval]; refine hK _ _ _ ?_; clear hK K; refine AW_seq ?_; refine AR hN fun K hK => ?_; simp only [EV, seval]; refine hK _ _ _ ?_; clear hK K; refine AB h (fun hc1 h => ?_) fun hc1 h => ?_
 ·refine AR hN fun K hK => ?_; obtain ⟨q1, h1, h⟩ := bO_inv h; obtain ⟨⟨h2a, h2b⟩, h2c⟩ := geti_E EBl h1; (try simp only [EV, seval] at h2c); simp only [EV, seval, h2a, h2b, h2c]; refine hK _ _ _ ?_; clear hK K; injection h with h; subst h; refine AW_le (Le_can (lt := [(4, .int .i64 (IntKind.wrap .i64 q1))]) (lr := []) (b' := 64) [] [] hρ (by kernel_rfl) ?_ ?_) (AW_ret (end_q [] (.inr rfl) (by kernel_rfl) (by kernel_rfl) ?_))
  ·simp only [AL, EV, seval, h2a, h2b, h2c]
  ·simp only [AL, EV, seval, h2a, h2b, h2c]
  ·simp only [EV, Tryz.results22, seval]
 ·refine AW_skip (AK ?_); refine AR hN fun K hK => ?_; simp only [EV, seval]; refine hK _ _ _ ?_; clear hK K; injection h with h; subst h; exact AX (b' := 64) [(4, .int .i64 (Int.tmod (IntKind.wrap .i64 ((IntKind.wrap .i64 (a2 * 7)) + ((a1.length : Int)))) 256))] [] [] [] hρ (EQ [] (by simp only [EV, Tryz.results22, seval]))
/- laws.FnNormUnique -/
def l_FnNormUnique_j2 (x2 : LQ) (v1 : LQ) (x6 : Int × List Int × LQ × Bool) (x7 : Int × List Int × LQ × Bool) (x8 : Int × List Int × LQ × Bool) (v2 : Bool) : Option Bool :=
  br v2 (some (x6.2.2.2 == x8.2.2.2)) (bO (l_apart x2 v1 1) fun x13 => bO (i_EqualNormalForm x6.2.1 x6.1 x6.2.2.1 x7.2.1 x7.1 x7.2.2.1) fun x14 => some (x13.2 == x14))
def l_FnNormUnique_j1 (x2 : LQ) (v1 : LQ) : Option Bool :=
  bO (i_ComputeNormalForm x2) fun x6 => bO (i_ComputeNormalForm v1) fun x7 => bO (s_ComputeNormalForm x2) fun x8 => bO (br (x6.2.2.2 != x8.2.2.2) (some true) (some (!x6.2.2.2))) fun x9 => bO (br x9 (some true) (some (!x7.2.2.2))) fun x10 => l_FnNormUnique_j2 x2 v1 x6 x7 x8 x10
def l_FnNormUnique (a1 : List Int) : Option Bool :=
  bO (l_big a1) fun x1 => br x1 (some true) (bO (s_DrawComputeNormalForm a1) fun x2 => bO (l_tail a1) fun x3 => bO (s_DrawComputeNormalForm x3) fun x4 => bO (l_at0 a1 1) fun x5 => br ((Int.tmod x5 2) == 0) (gd (decide (([] : LQ).length + x2.length ≤ 16777216)) (gd (decide (x2.length + ([(7, 0, 0, 0), (1, 0, 0, 0), (7, 0, 0, 0), (1, 0, 0, 0)]).length ≤ 16777216)) (l_FnNormUnique_j1 x2 (x2 ++ ([(7, 0, 0, 0), (1, 0, 0, 0), (7, 0, 0, 0), (1, 0, 0, 0)]))))) (l_FnNormUnique_j1 x2 x4))
theorem l_FnNormUnique_ok {a1 : List Int} {r : Bool} (h : l_FnNormUnique a1 = some r) :
    Spec Tryz.prog 5 [.sl (encL EB a1) a1.length] [] (.bool r) [] := by
 unfold l_FnNormUnique at h; refine SO Tryz.func5 rfl Tryz.ntmps5 fun C hN hρ => ?_; simp only [st0, tmps0, Nat.zero_add, Nat.reduceAdd]; refine AR hN fun K hK => ?_; simp only [EV, seval]; refine hK _ _ _ ?_; clear hK K; refine AW_seq ?_; refine AR hN fun K hK => ?_; obtain ⟨x1, h1, h⟩ := bO_inv h; simp only [EV, seval]; refine CP (l_big_ok h1) ?_; simp only [EV, seval]; refine hK _ _ _ ?_; clear hK K; refine AB h (fun hc1 h => ?_) fun hc1 h => ?_
 ·refine AR hN fun K hK => ?_; simp only [EV, seval]; refine hK _ _ _ ?_; clear hK K; injection h with h; subst h; exact AX (b' := 64) [(2, .bool true)] [] [] [] hρ (EQ [] (by simp only [EV, Tryz.results5, seval]))
 ·refine AW_skip (AK ?_); refine AR hN fun K hK => ?_; obtain ⟨x2, h2, h⟩ := bO_inv h; simp only [EV, seval]; refine rC_p (s_DrawComputeNormalForm_ok h2) (by simp only [AL, EV, seval]) (le_d rfl) (site_1 (by simp only [EV, seval])) ?_; simp only [EV, seval]; refine hK _ _ _ ?_; clear hK K; refine AR hN fun K hK => ?_; obtain ⟨x3, h3, h⟩ := bO_inv h; simp only [EV, seval]; refine CP (l_tail_ok h3) ?_; obtain ⟨x4, h4, h⟩ := bO_inv h; simp only [EV, seval]; refine rC_p (s_DrawComputeNormalForm_ok h4) (by simp only [AL, EV, seval]) (le_d rfl) (site_1 (by simp only [EV, seval])) ?_; simp only [EV, seval]; refine hK _ _ _ ?_; clear hK K; refine AW_cutK (fun S => ∃ (v1 : LQ), S = ⟨mkT [(3, .own 32 x2.length), (4, .own 33 v1.length)], mkR [(32, .row 45 4 (encL EIIII x2)), (33, .row 45 4 (encL EIIII v1))], 64⟩ ∧ l_FnNormUnique_j1 x2 v1 = some r) ?_ ?_
  ·refine AR hN fun K hK => ?_; obtain ⟨x5, h5, h⟩ := bO_inv h; simp only [EV, seval]; refine CP (l_at0_ok h5) ?_; simp only [EV, seval]; refine hK _ _ _ ?_; clear hK K; refine AB h (fun hc2 h => ?_) fun hc2 h => ?_
   ·refine AS hN fun K hK => ?_; obtain ⟨h6, h⟩ := gd_inv h; replace h6 := of_decide_eq_true h6; (try simp only [EV, seval] at h6); obtain ⟨h7, h⟩ := gd_inv h; replace h7 := of_decide_eq_true h7; (try simp only [EV, seval] at h7); simp only [EV, seval, h6, h7]; refine hK _ _ _ (show cutK _ _ _ from cutL ⟨_, rfl, h⟩ (Le_can [(32, some 2128), (33, some 5312)] [] hρ (by kernel_rfl) ?_ ?_))
    ·simp only [AL, EV, seval, h6, h7]
    ·simp only [AL, EV, seval, h6, h7]
   ·refine AW_skip (show cutK _ _ _ from cutL ⟨_, rfl, h⟩ (Le_can [(32, some 2128), (33, some 3168)] [] hρ (by kernel_rfl) ?_ ?_))
    ·simp only [AL, EV, seval]
    ·simp only [AL, EV, seval]
  ·rintro S ⟨v1, rfl, h⟩; unfold l_FnNormUnique_j1 at h; refine AR hN fun K hK => ?_; obtain ⟨x6, h8, h⟩ := bO_inv h; simp only [EV, seval]; refine rC_l (i_ComputeNormalForm_ok h8) (by simp only [AL, EV, seval]) (by simp only [AL, EF, and_self]) (le_d rfl) (site_2 (by simp only [EV, seval])) ?_; simp only [EV, seval]; refine hK _ _ _ ?_; clear hK K; refine AR hN fun K hK => ?_; obtain ⟨x7, h9, h⟩ := bO_inv h; simp only [EV, seval]; refine rC_l (i_ComputeNormalForm_ok h9) (by simp only [AL, EV, seval]) (by simp only [AL, EF, and_self]) (le_d rfl) (site_2 (by simp only [EV, seval])) ?_; simp only [EV, seval]; refine hK _ _ _ ?_; clear hK K; refine AR hN fun K hK => ?_; obtain ⟨x8, h10, h⟩ := bO_inv h; simp only [EV, seval]; refine rC_l (s_ComputeNormalForm_ok h10) (by simp only [AL, EV, seval]) (by simp only [AL, EF, and_self]) (le_d rfl) (site_2 (by simp only [EV, seval])) ?_; simp only [EV, seval]; refine hK _ _ _ ?_; clear hK K; refine AW_seq ?_; refine AJ (fun S => ∃ (v2 : Bool), S = ⟨mkT [(3, .own 32 x2.length), (4, .own 33 v1.length), (5, .ptr 34 0), (6, .bool x6.2.2.2), (7, .ptr 35 0), (10, .bool x8.2.2.2), (58, .bool v2)], mkR [(32, .row 45 4 (encL EIIII x2)), (33, .row 45 4 (encL EIIII v1)), (34, .box 29 [.own 36 x6.2.1.length, .int .i64 x6.1, .own 37 x6.2.2.1.length]), (35, .box 29 [.own 38 x7.2.1.length, .int .i64 x7.1, .own 39 x7.2.2.1.length]), (36, .row 3 1 (encL EI x6.2.1)), (37, .row 96 4 (encL EIIII x6.2.2.1)), (38, .row 3 1 (encL EI x7.2.1)), (39, .row 96 4 (encL EIIII x7.2.2.1))], 64⟩ ∧ l_FnNormUnique_j2 x2 v1 x6 x7 x8 v2 = some r) hN ?_ ?_
   ·intro K hK; obtain ⟨x9, hv1, h⟩ := bO_inv h; rcases br_inv hv1 with ⟨hc3, hv1⟩ | ⟨hc3, hv1⟩
    ·cases hv1; obtain ⟨x11, hv3, h⟩ := bO_inv h; replace hv3 := br_t hv3; cases hv3; (try dsimp only at h); simp only [EV, seval, hc3]; refine hK _ _ _ (show cutK _ _ _ from cutL ⟨_, rfl, h⟩ (Le_can [(32, some 32), (33, some 33), (34, some 144), (35, some 1168), (36, some 80), (37, some 81), (38, some 1104), (39, some 1105)] [] hρ (by kernel_rfl) ?_ ?_))
     ·simp only [AL, EV, seval, hc3]
     ·simp only [AL, EV, seval, hc3]
    ·cases hv1; obtain ⟨x12, hv4, h⟩ := bO_inv h; rcases br_inv hv4 with ⟨hc5, hv4⟩ | ⟨hc5, hv4⟩
     ·cases hv4; simp only [EV, seval, hc3, hc5]; refine hK _ _ _ (show cutK _ _ _ from cutL ⟨_, rfl, h⟩ (Le_can [(32, some 32), (33, some 33), (34, some 144), (35, some 1168), (36, some 80), (37, some 81), (38, some 1104), (39, some 1105)] [] hρ (by kernel_rfl) ?_ ?_))
      ·simp only [AL, EV, seval, hc3, hc5]
      ·simp only [AL, EV, seval, hc3, hc5]
     ·cases hv4; simp only [EV, seval, hc3, hc5]; refine hK _ _ _ (show cutK _ _ _ from cutL ⟨_, rfl, h⟩ (Le_can [(32, some 32), (33, some 33), (34, some 144), (35, some 1168), (36, some 80), (37, some 81), (38, some 1104), (39, some 1105)] [] hρ (by kernel_rfl) ?_ ?_))
      ·simp only [AL, EV, seval, hc3, hc5]
      ·simp only [AL, EV, seval, hc3, hc5]
   ·rintro S ⟨v2, rfl, h⟩; unfold l_FnNormUnique_j2 at h; refine AB h (fun hc6 h => ?_) fun hc6 h => ?_
    ·refine AR hN fun K hK => ?_; simp only [EV, seval]; refine hK _ _ _ ?_; clear hK K; injection h with h; subst h; exact AX (b' := 64) [(2, .bool (x6.2.2.2 == x8.2.2.2))] [] [] [] hρ (EQ [] (by simp only [EV, Tryz.results5, seval]))
    ·refine AW_skip (AK ?_); refine AR hN fun K hK => ?_; obtain ⟨x13, h11, h⟩ := bO_inv h; simp only [EV, seval]; refine rC_l (l_apart_ok h11) (by simp only [AL, EV, seval]) (by simp only [AL, EF, and_self]) (le_d rfl) (no_j rfl) ?_; simp only [EV, seval]; refine hK _ _ _ ?_; clear hK K; refine AR hN fun K hK => ?_; obtain ⟨x14, h12, h⟩ := bO_inv h; simp only [EV, seval]; refine rC_l (i_EqualNormalForm_ok h12) (by simp only [AL, EV, seval]) (by simp only [AL, EF, and_self]) (le_d rfl) (no_j rfl) ?_; simp only [EV, seval]; refine hK _ _ _ ?_; clear hK K; injection h with h; subst h; exact AX (b' := 64) [(2, .bool (x13.2 == x14))] [] [] [] hρ (EQ [] (by simp only [EV, Tryz.results5, seval]))
end Go.Proofs.YtbkkfmcjfbbkaaaGreat
