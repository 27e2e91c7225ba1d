/- Models of functions, and that the functions do what the models say; printed by a program. -/
import Derived.Test.YtfoiedjjhgpcpaaK1
import Derived.Test.YtfoiedjjhgpcpaaK6b
import Derived.Test.YtfoiedjjhgpcpaaK7
namespace Go.Proofs.Ytfoiedjjhgpcpaa
open Go.RowKit
set_option maxRecDepth 100000
set_option linter.unusedVariables false
set_option linter.unusedSimpArgs false
set_option linter.defProp false
set_option maxHeartbeats 4000000
/- laws.FnExactProjectState -/
def l_FnExactProjectState_j3 (x19 : Int × List (Int × Int × Int × Int × Int)) (v3 : Bool) : Option Bool :=
  br v3 (some false) (bO (l_heldDOmegaS x19.2 1) fun x26 => br (decide (x26 < 0)) (some false) (br (x26 != x19.1) (some false) (some true)))
def l_FnExactProjectState_j2 (a1 : Int) (a2 : Int) (a3 : Int) (a4 : Int) (a5 : List (Int × Int × Int × Int × Int)) (x4 : List (Int × Int × Int × Int × Int) × Bool) (x7 : List (Int × Int × Int × Int × Int) × Bool) (v2 : Bool) : Option Bool :=
  br v2 (some false) (bO (l_markDOmegaS x7.1 1) fun x19 => gd (decide (x19.2.length = x7.1.length)) (bO (l_heldDOmegaS x19.2 1) fun x20 => br (decide (x20 < 0)) (some false) (br (x20 != x19.1) (some false) (bO (l_toPauli a1 a2 a3 a4) fun x21 => bO (l_toDOmegaS a5) fun x22 => bO (i_ProjectState x21.1 x21.2.1 x21.2.2.1 x21.2.2.2 x22) fun x23 => bO (l_eqDOmegaS x23.1 x4.1) fun x24 => bO (br (!x24) (some true) (some (x23.2 != x4.2))) fun x25 => l_FnExactProjectState_j3 x19 x25))))
def l_FnExactProjectState_j1 (a1 : Int) (a2 : Int) (a3 : Int) (a4 : Int) (a5 : List (Int × Int × Int × Int × Int)) (x4 : List (Int × Int × Int × Int × Int) × Bool) (x5 : List (Int × Int × Int × Int × Int)) (x7 : List (Int × Int × Int × Int × Int) × Bool) (v1 : Bool) : Option Bool :=
  br v1 (some false) (bO (l_toDOmegaS a5) fun x10 => bO (l_eqDOmegaS x5 x10) fun x11 => br (!x11) (some false) (bO (l_markDOmegaS x5 1) fun x12 => gd (decide (x12.2.length = x5.length)) (bO (br (decide (x12.1 < 0)) (some true) (bO (l_eqDOmegaS x7.1 x4.1) fun x13 => some (!x13))) fun x14 => bO (br x14 (some true) (some (x7.2 != x4.2))) fun x15 => l_FnExactProjectState_j2 a1 a2 a3 a4 a5 x4 x7 x15)))
def l_FnExactProjectState (a1 : Int) (a2 : Int) (a3 : Int) (a4 : Int) (a5 : List (Int × Int × Int × Int × Int)) : Option Bool :=
  bO (l_szDOmegaS a5 1048576) fun x1 => br (decide (x1 < 0)) (some true) (bO (l_toPauli a1 a2 a3 a4) fun x2 => bO (l_toDOmegaS a5) fun x3 => bO (s_ProjectState x2.1 x2.2.1 x2.2.2.1 x2.2.2.2 x3) fun x4 => bO (l_toDOmegaS a5) fun x5 => bO (l_toPauli a1 a2 a3 a4) fun x6 => bO (i_ProjectState x6.1 x6.2.1 x6.2.2.1 x6.2.2.2 x5) fun x7 => bO (l_eqDOmegaS x7.1 x4.1) fun x8 => bO (br (!x8) (some true) (some (x7.2 != x4.2))) fun x9 => l_FnExactProjectState_j1 a1 a2 a3 a4 a5 x4 x5 x7 x9)
theorem l_FnExactProjectState_ok {a1 : Int} {a2 : Int} {a3 : Int} {a4 : Int} {a5 : List (Int × Int × Int × Int × Int)} {r : Bool} (h : l_FnExactProjectState a1 a2 a3 a4 a5 = some r) :
    Spec Try.prog 4 [.agg [.int .i64 a1, .int .i64 a2, .int .i64 a3, .int .i64 a4], .sl (encL EIIIII a5) a5.length] [] (.bool r) [] := by
 unfold l_FnExactProjectState at h; refine SO Try.func4 rfl Try.ntmps4 fun C hN hρ => ?_; simp only [st0, tmps0, Nat.zero_add, Nat.reduceAdd]; refine AR hN fun K hK => ?_; simp only [EV, seval]; refine hK _ _ _ ?_; clear hK K; refine AR hN fun K hK => ?_; simp only [EV, seval]; refine hK _ _ _ ?_; clear hK K; refine AR hN fun K hK => ?_; obtain ⟨x1, h1, h⟩ := bO_inv h; simp only [EV, seval]; refine CP (l_szDOmegaS_ok h1) ?_; simp only [EV, seval]; refine hK _ _ _ ?_; clear hK K; refine AW_seq ?_; refine AR hN fun K hK => ?_; simp only [EV, seval]; refine hK _ _ _ ?_; clear hK K; refine AB h (fun hc1 h => ?_) fun hc1 h => ?_
 ·refine AR hN fun K hK => ?_; simp only [EV, seval]; refine hK _ _ _ ?_; clear hK K; injection h with h; subst h; exact AX (b' := 64) [(4, .bool true)] [] [] [] hρ (EQ [] (by simp only [EV, Try.results4, seval]))
 ·refine AW_skip (AK ?_); refine AR hN fun K hK => ?_; obtain ⟨x2, h2, h⟩ := bO_inv h; simp only [EV, seval]; refine CP (l_toPauli_ok h2) ?_; obtain ⟨x3, h3, h⟩ := bO_inv h; simp only [EV, seval]; refine rC_p (l_toDOmegaS_ok h3) (by simp only [AL, EV, seval]) (le_d rfl) (site_1 (by simp only [EV, seval])) ?_; obtain ⟨x4, h4, h⟩ := bO_inv h; simp only [EV, seval]; refine rC_l (s_ProjectState_ok h4) (by simp only [AL, EV, seval]) (by simp only [AL, EF, and_self]) (le_d rfl) (site_1 (by simp only [EV, seval])) ?_; simp only [EV, seval]; refine hK _ _ _ ?_; clear hK K; refine AR hN fun K hK => ?_; obtain ⟨x5, h5, h⟩ := bO_inv h; simp only [EV, seval]; refine rC_p (l_toDOmegaS_ok h5) (by simp only [AL, EV, seval]) (le_d rfl) (site_1 (by simp only [EV, seval])) ?_; simp only [EV, seval]; refine hK _ _ _ ?_; clear hK K; refine AR hN fun K hK => ?_; obtain ⟨x6, h6, h⟩ := bO_inv h; simp only [EV, seval]; refine CP (l_toPauli_ok h6) ?_; obtain ⟨x7, h7, h⟩ := bO_inv h; simp only [EV, seval]; refine rC_l (i_ProjectState_ok h7) (by simp only [AL, EV, seval]) (by simp only [AL, EF, and_self]) (le_d rfl) (site_1 (by simp only [EV, seval])) ?_; simp only [EV, seval]; refine hK _ _ _ ?_; clear hK K; refine AW_seq ?_; refine AJ (fun S => ∃ (v1 : Bool), S = ⟨mkT [(1, .sl (encL EIIIII a5) a5.length), (2, .ptr 32 0), (6, .own 33 x4.1.length), (7, .bool x4.2), (8, .own 34 x5.length), (9, .own 35 x7.1.length), (10, .bool x7.2), (46, .bool v1)], mkR [(32, .box 23 [.int .i64 a1, .int .i64 a2, .int .i64 a3, .int .i64 a4]), (33, .row 54 5 (encL EIIIII x4.1)), (34, .row 54 5 (encL EIIIII x5)), (35, .row 54 5 (encL EIIIII x7.1))], 64⟩ ∧ l_FnExactProjectState_j1 a1 a2 a3 a4 a5 x4 x5 x7 v1 = some r) hN ?_ ?_
  ·intro K hK; obtain ⟨x8, h8, h⟩ := bO_inv h; simp only [EV, seval]; refine rC_l (l_eqDOmegaS_ok h8) (by simp only [AL, EV, seval]) (by simp only [AL, EF, and_self]) (le_d rfl) (no_j rfl) ?_; obtain ⟨x9, hv1, h⟩ := bO_inv h; rcases br_inv hv1 with ⟨hc2, hv1⟩ | ⟨hc2, hv1⟩
   ·cases hv1; simp only [EV, seval, hc2]; refine hK _ _ _ (show cutK _ _ _ from cutL ⟨_, rfl, h⟩ (Le_can [(32, some 64), (33, some 4224), (34, some 5200), (35, some 6256)] [] hρ (by kernel_rfl) ?_ ?_))
    ·simp only [AL, EV, seval, hc2]
    ·simp only [AL, EV, seval, hc2]
   ·cases hv1; simp only [EV, seval, hc2]; refine hK _ _ _ (show cutK _ _ _ from cutL ⟨_, rfl, h⟩ (Le_can [(32, some 64), (33, some 4224), (34, some 5200), (35, some 6256)] [] hρ (by kernel_rfl) ?_ ?_))
    ·simp only [AL, EV, seval, hc2]
    ·simp only [AL, EV, seval, hc2]
  ·rintro S ⟨v1, rfl, h⟩; unfold l_FnExactProjectState_j1 at h; refine AB h (fun hc3 h => ?_) fun hc3 h => ?_
   ·refine AR hN fun K hK => ?_; simp only [EV, seval]; refine hK _ _ _ ?_; clear hK K; injection h with h; subst h; exact AX (b' := 64) [(4, .bool false)] [] [] [] hρ (EQ [] (by simp only [EV, Try.results4, seval]))
   ·refine AW_skip (AK ?_); refine AW_seq ?_; refine AR hN fun K hK => ?_; obtain ⟨x10, h9, h⟩ := bO_inv h; simp only [EV, seval]; refine rC_p (l_toDOmegaS_ok h9) (by simp only [AL, EV, seval]) (le_d rfl) (site_1 (by simp only [EV, seval])) ?_; obtain ⟨x11, h10, h⟩ := bO_inv h; simp only [EV, seval]; refine rC_l (l_eqDOmegaS_ok h10) (by simp only [AL, EV, seval]) (by simp only [AL, EF, and_self]) (le_d rfl) (no_j rfl) ?_; simp only [EV, seval]; refine hK _ _ _ ?_; clear hK K; refine AB h (fun hc4 h => ?_) fun hc4 h => ?_
    ·refine AR hN fun K hK => ?_; simp only [EV, seval]; refine hK _ _ _ ?_; clear hK K; injection h with h; subst h; exact AX (b' := 64) [(4, .bool false)] [] [] [] hρ (EQ [] (by simp only [EV, Try.results4, seval]))
    ·refine AW_skip (AK ?_); refine AR hN fun K hK => ?_; simp only [EV, seval]; refine hK _ _ _ ?_; clear hK K; refine AR hN fun K hK => ?_; obtain ⟨x12, h11, h⟩ := bO_inv h; simp only [EV, seval]; obtain ⟨h12, h⟩ := gd_inv h; replace h12 := of_decide_eq_true h12; refine rR_p [34] (l_markDOmegaS_ok h11) (by simp only [AL, EV, seval, h12]) (by simp only [AL, EV, seval, h12]) (by kernel_rfl) (by simp only [EV, solidO, List.mem_cons, List.not_mem_nil, or_false, forall_eq_or_imp, forall_eq, seval]) (le_d rfl) (le_d rfl) (no_j rfl) ?_; simp only [EV, seval, h12]; refine hK _ _ _ ?_; clear hK K; refine AW_seq ?_; refine AJ (fun S => ∃ (v2 : Bool), S = ⟨mkT [(1, .sl (encL EIIIII a5) a5.length), (2, .ptr 32 0), (6, .own 33 x4.1.length), (7, .bool x4.2), (9, .own 34 x7.1.length), (67, .bool v2)], mkR [(32, .box 23 [.int .i64 a1, .int .i64 a2, .int .i64 a3, .int .i64 a4]), (33, .row 54 5 (encL EIIIII x4.1)), (34, .row 54 5 (encL EIIIII x7.1))], 64⟩ ∧ l_FnExactProjectState_j2 a1 a2 a3 a4 a5 x4 x7 v2 = some r) hN ?_ ?_
     ·intro K hK; obtain ⟨x14, hv2, h⟩ := bO_inv h; rcases br_inv hv2 with ⟨hc5, hv2⟩ | ⟨hc5, hv2⟩
      ·cases hv2; obtain ⟨x16, hv4, h⟩ := bO_inv h; replace hv4 := br_t hv4; cases hv4; (try dsimp only at h); simp only [EV, seval, hc5, h12]; refine hK _ _ _ (show cutK _ _ _ from cutL ⟨_, rfl, h⟩ (Le_can [(32, some 32), (33, some 33), (34, some 35)] [] hρ (by kernel_rfl) ?_ ?_))
       ·simp only [AL, EV, seval, hc5, h12]
       ·simp only [AL, EV, seval, hc5, h12]
      ·obtain ⟨x17, h14, hv2⟩ := bO_inv hv2; simp only [EV, seval, hc5, h12]; refine rC_l (l_eqDOmegaS_ok h14) (by simp only [AL, EV, seval, hc5, h12]) (by simp only [AL, EF, and_self]) (le_d rfl) (no_j rfl) ?_; cases hv2; obtain ⟨x18, hv5, h⟩ := bO_inv h; rcases br_inv hv5 with ⟨hc7, hv5⟩ | ⟨hc7, hv5⟩
       ·cases hv5; simp only [EV, seval, hc5, hc7, h12]; refine hK _ _ _ (show cutK _ _ _ from cutL ⟨_, rfl, h⟩ (Le_can [(32, some 32), (33, some 33), (34, some 35)] [] hρ (by kernel_rfl) ?_ ?_))
        ·simp only [AL, EV, seval, hc5, hc7, h12]
        ·simp only [AL, EV, seval, hc5, hc7, h12]
       ·cases hv5; simp only [EV, seval, hc5, hc7, h12]; refine hK _ _ _ (show cutK _ _ _ from cutL ⟨_, rfl, h⟩ (Le_can [(32, some 32), (33, some 33), (34, some 35)] [] hρ (by kernel_rfl) ?_ ?_))
        ·simp only [AL, EV, seval, hc5, hc7, h12]
        ·simp only [AL, EV, seval, hc5, hc7, h12]
     ·rintro S ⟨v2, rfl, h⟩; unfold l_FnExactProjectState_j2 at h; refine AW_condK (a := .bool v2) (by simp only [EV, seval, h12]) (brK h (fun hc8 h => ?_) (fun hc8 h => ?_))
      ·refine AR hN fun K hK => ?_; simp only [EV, seval, h12]; refine hK _ _ _ ?_; clear hK K; injection h with h; subst h; refine AW_le (Le_can (lt := [(4, .bool false)]) (lr := []) (b' := 64) [] [] hρ (by kernel_rfl) ?_ ?_) (AW_ret (end_q [] (.inr rfl) (by kernel_rfl) (by kernel_rfl) ?_))
       ·simp only [AL, EV, seval, h12]
       ·simp only [AL, EV, seval, h12]
       ·simp only [EV, Try.results4, seval]
      ·refine AW_skip (AK ?_); refine AR hN fun K hK => ?_; simp only [EV, seval, h12]; refine hK _ _ _ ?_; clear hK K; refine AR hN fun K hK => ?_; obtain ⟨x19, h15, h⟩ := bO_inv h; simp only [EV, seval, h12]; obtain ⟨h16, h⟩ := gd_inv h; replace h16 := of_decide_eq_true h16; refine rR_p [34] (l_markDOmegaS_ok h15) (by simp only [AL, EV, seval, h12, h16]) (by simp only [AL, EV, seval, h12, h16]) (by kernel_rfl) (by simp only [EV, solidO, List.mem_cons, List.not_mem_nil, or_false, forall_eq_or_imp, forall_eq, seval]) (le_d rfl) (le_d rfl) (no_j rfl) ?_; simp only [EV, seval, h12, h16]; refine hK _ _ _ ?_; clear hK K; refine AR hN fun K hK => ?_; simp only [EV, seval, h12, h16]; refine hK _ _ _ ?_; clear hK K; refine AR hN fun K hK => ?_; obtain ⟨x20, h17, h⟩ := bO_inv h; simp only [EV, seval, h12, h16]; refine rC_l (l_heldDOmegaS_ok h17) (by simp only [AL, EV, seval, h12, h16]) (by simp only [AL, EF, and_self]) (le_d rfl) (no_j rfl) ?_; simp only [EV, seval, h12, h16]; refine hK _ _ _ ?_; clear hK K; refine AW_seq ?_; refine AR hN fun K hK => ?_; simp only [EV, seval, h12, h16]; refine hK _ _ _ ?_; clear hK K; refine AW_condK (a := .bool (decide (x20 < 0))) (by simp only [EV, seval, h12, h16]) (brK h (fun hc9 h => ?_) (fun hc9 h => ?_))
       ·refine AR hN fun K hK => ?_; simp only [EV, seval, h12, h16]; refine hK _ _ _ ?_; clear hK K; injection h with h; subst h; refine AW_le (Le_can (lt := [(4, .bool false)]) (lr := []) (b' := 64) [] [] hρ (by kernel_rfl) ?_ ?_) (AW_ret (end_q [] (.inr rfl) (by kernel_rfl) (by kernel_rfl) ?_))
        ·simp only [AL, EV, seval, h12, h16]
        ·simp only [AL, EV, seval, h12, h16]
        ·simp only [EV, Try.results4, seval]
       ·refine AW_skip (AK ?_); refine AW_seq ?_; refine AR hN fun K hK => ?_; simp only [EV, seval, h12, h16]; refine hK _ _ _ ?_; clear hK K; refine AW_condK (a := .bool (x20 != x19.1)) (by simp only [EV, seval, h12, h16]) (brK h (fun hc10 h => ?_) (fun hc10 h => ?_))
        ·refine AR hN fun K hK => ?_; simp only [EV, seval, h12, h16]; refine hK _ _ _ ?_; clear hK K; injection h with h; subst h; refine AW_le (Le_can (lt := [(4, .bool false)]) (lr := []) (b' := 64) [] [] hρ (by kernel_rfl) ?_ ?_) (AW_ret (end_q [] (.inr rfl) (by kernel_rfl) (by kernel_rfl) ?_))
         ·simp only [AL, EV, seval, h12, h16]
         ·simp only [AL, EV, seval, h12, h16]
         ·simp only [EV, Try.results4, seval]
        ·refine AW_skip (AK ?_); refine AR hN fun K hK => ?_; obtain ⟨x21, h18, h⟩ := bO_inv h; simp only [EV, seval, h12, h16]; refine rC_p (l_toPauli_ok h18) (by simp only [AL, EV, seval, h12, h16]) (le_d rfl) (no_j rfl) ?_; obtain ⟨x22, h19, h⟩ := bO_inv h; simp only [EV, seval, h12, h16]; refine rC_p (l_toDOmegaS_ok h19) (by simp only [AL, EV, seval, h12, h16]) (le_d rfl) (site_1 (by simp only [EV, seval])) ?_; obtain ⟨x23, h20, h⟩ := bO_inv h; simp only [EV, seval, h12, h16]; refine rC_l (i_ProjectState_ok h20) (by simp only [AL, EV, seval, h12, h16]) (by simp only [AL, EF, and_self]) (le_d rfl) (site_1 (by simp only [EV, seval])) ?_; simp only [EV, seval, h12, h16]; refine hK _ _ _ ?_; clear hK K; refine AW_seq ?_; refine AJ (fun S => ∃ (v3 : Bool), S = ⟨mkT [(9, .own 32 x19.2.length), (12, .int .i64 x19.1), (95, .bool v3)], mkR [(32, .row 54 5 (encL EIIIII x19.2))], 64⟩ ∧ l_FnExactProjectState_j3 x19 v3 = some r) hN ?_ ?_
         ·intro K hK; obtain ⟨x24, h21, h⟩ := bO_inv h; simp only [EV, seval, h12, h16]; refine rC_l (l_eqDOmegaS_ok h21) (by simp only [AL, EV, seval, h12, h16]) (by simp only [AL, EF, and_self]) (le_d rfl) (no_j rfl) ?_; obtain ⟨x25, hv6, h⟩ := bO_inv h; rcases br_inv hv6 with ⟨hc11, hv6⟩ | ⟨hc11, hv6⟩
          ·cases hv6; simp only [EV, seval, hc11, h12, h16]; refine hK _ _ _ (show cutK _ _ _ from cutL ⟨_, rfl, h⟩ (Le_can [(32, some 34)] [] hρ (by kernel_rfl) ?_ ?_))
           ·simp only [AL, EV, seval, hc11, h12, h16]
           ·simp only [AL, EV, seval, hc11, h12, h16]
          ·cases hv6; simp only [EV, seval, hc11, h12, h16]; refine hK _ _ _ (show cutK _ _ _ from cutL ⟨_, rfl, h⟩ (Le_can [(32, some 34)] [] hρ (by kernel_rfl) ?_ ?_))
           ·simp only [AL, EV, seval, hc11, h12, h16]
           ·simp only [AL, EV, seval, hc11, h12, h16]
         ·rintro S ⟨v3, rfl, h⟩; unfold l_FnExactProjectState_j3 at h; refine AW_condK (a := .bool v3) (by simp only [EV, seval, h12, h16]) (brK h (fun hc12 h => ?_) (fun hc12 h => ?_))
          ·refine AR hN fun K hK => ?_; simp only [EV, seval, h12, h16]; refine hK _ _ _ ?_; clear hK K; injection h with h; subst h; refine AW_le (Le_can (lt := [(4, .bool false)]) (lr := []) (b' := 64) [] [] hρ (by kernel_rfl) ?_ ?_) (AW_ret (end_q [] (.inr rfl) (by kernel_rfl) (by kernel_rfl) ?_))
           ·simp only [AL, EV, seval, h12, h16]
           ·simp only [AL, EV, seval, h12, h16]
           ·simp only [EV, Try.results4, seval]
          ·refine AW_skip (AK ?_); refine AR hN fun K hK => ?_; simp only [EV, seval, h12, h16]; refine hK _ _ _ ?_; clear hK K; refine AR hN fun K hK => ?_; obtain ⟨x26, h22, h⟩ := bO_inv h; simp only [EV, seval, h12, h16]; refine rC_l (l_heldDOmegaS_ok h22) (by simp only [AL, EV, seval, h12, h16]) (by simp only [AL, EF, and_self]) (le_d rfl) (no_j rfl) ?_; simp only [EV, seval, h12, h16]; refine hK _ _ _ ?_; clear hK K; refine AW_seq ?_; refine AR hN fun K hK => ?_; simp only [EV, seval, h12, h16]; refine hK _ _ _ ?_; clear hK K; refine AW_condK (a := .bool (decide (x26 < 0))) (by simp only [EV, seval, h12, h16]) (brK h (fun hc13 h => ?_) (fun hc13 h => ?_))
           ·refine AR hN fun K hK => ?_; simp only [EV, seval, h12, h16]; refine hK _ _ _ ?_; clear hK K; injection h with h; subst h; refine AW_le (Le_can (lt := [(4, .bool false)]) (lr := []) (b' := 64) [] [] hρ (by kernel_rfl) ?_ ?_) (AW_ret (end_q [] (.inr rfl) (by kernel_rfl) (by kernel_rfl) ?_))
            ·simp only [AL, EV, seval, h12, h16]
            ·simp only [AL, EV, seval, h12, h16]
            ·simp only [EV, Try.results4, seval]
           ·refine AW_skip (AK ?_); refine AW_seq ?_; refine AR hN fun K hK => ?_; simp only [EV, seval, h12, h16]; refine hK _ _ _ ?_; clear hK K; refine AW_condK (a := .bool (x26 != x19.1)) (by simp only [EV, seval, h12, h16]) (brK h (fun hc14 h => ?_) (fun hc14 h => ?_))
            ·refine AR hN fun K hK => ?_; simp only [EV, seval, h12, h16]; refine hK _ _ _ ?_; clear hK K; injection h with h; subst h; refine AW_le (Le_can (lt := [(4, .bool false)]) (lr := []) (b' := 64) [] [] hρ (by kernel_rfl) ?_ ?_) (AW_ret (end_q [] (.inr rfl) (by kernel_rfl) (by kernel_rfl) ?_))
             ·simp only [AL, EV, seval, h12, h16]
             ·simp only [AL, EV, seval, h12, h16]
             ·simp only [EV, Try.results4, seval]
            ·refine AW_skip (AK ?_); refine AR hN fun K hK => ?_; simp only [EV, seval, h12, h16]; refine hK _ _ _ ?_; clear hK K; injection h with h; subst h; refine AW_le (Le_can (lt := [(4, .bool true)]) (lr := []) (b' := 64) [] [] hρ (by kernel_rfl) ?_ ?_) (AW_ret (end_q [] (.inr rfl) (by kernel_rfl) (by kernel_rfl) ?_))
             ·simp only [AL, EV, seval, h12, h16]
             ·simp only [AL, EV, seval, h12, h16]
             ·simp only [EV, Try.results4, seval]
end Go.Proofs.Ytfoiedjjhgpcpaa
