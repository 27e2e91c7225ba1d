/- Models of functions, and that the functions do what the models say; printed by a program. -/
import Derived.Test.YtoleoojcodlciaaK1
import Derived.Test.YtoleoojcodlciaaK7
import Derived.Test.YtoleoojcodlciaaK5
namespace Go.Proofs.Ytoleoojcodlciaa
open Go.RowKit
set_option maxRecDepth 100000
set_option linter.unusedVariables false
set_option linter.unusedSimpArgs false
set_option linter.defProp false
set_option maxHeartbeats 4000000
/- laws.FnExactCliffordWord -/
def l_FnExactCliffordWord_j3 (x17 : Int × LQ) (v3 : Bool) : Option Bool :=
  br v3 (some false) (bO (l_heldGateS x17.2 1) fun x23 => br (decide (x23 < 0)) (some false) (br (x23 != x17.1) (some false) (some true)))
def l_FnExactCliffordWord_j2 (a1 : Int) (a2 : LQ) (x3 : LQ × Bool) (x5 : LQ × Bool) (v2 : Bool) : Option Bool :=
  br v2 (some false) (bO (l_markGateS x5.1 1) fun x17 => gd (decide (x17.2.length = x5.1.length)) (bO (l_heldGateS x17.2 1) fun x18 => br (decide (x18 < 0)) (some false) (br (x18 != x17.1) (some false) (bO (l_toTableau a1 a2) fun x19 => bO (i_CliffordWord x19.1 x19.2) fun x20 => bO (l_eqGateS x20.1 x3.1) fun x21 => bO (br (!x21) (some true) (some (x20.2 != x3.2))) fun x22 => l_FnExactCliffordWord_j3 x17 x22))))
def l_FnExactCliffordWord_j1 (a1 : Int) (a2 : LQ) (x3 : LQ × Bool) (x4 : Int × LQ) (x5 : LQ × Bool) (v1 : Bool) : Option Bool :=
  br v1 (some false) (bO (l_toTableau a1 a2) fun x8 => bO (l_eqTableau x4.1 x4.2 x8.1 x8.2) fun x9 => br (!x9) (some false) (bO (l_markTableau x4.1 x4.2 1) fun x10 => gd (decide (x10.2.length = x4.2.length)) (bO (br (decide (x10.1 < 0)) (some true) (bO (l_eqGateS x5.1 x3.1) fun x11 => some (!x11))) fun x12 => bO (br x12 (some true) (some (x5.2 != x3.2))) fun x13 => l_FnExactCliffordWord_j2 a1 a2 x3 x5 x13)))
def l_FnExactCliffordWord (a1 : Int) (a2 : LQ) : Option Bool :=
  bO (l_szTableau a1 a2 1048576) fun x1 => br (decide (x1 < 0)) (some true) (bO (l_toTableau a1 a2) fun x2 => bO (s_CliffordWord x2.1 x2.2) fun x3 => bO (l_toTableau a1 a2) fun x4 => bO (i_CliffordWord x4.1 x4.2) fun x5 => bO (l_eqGateS x5.1 x3.1) fun x6 => bO (br (!x6) (some true) (some (x5.2 != x3.2))) fun x7 => l_FnExactCliffordWord_j1 a1 a2 x3 x4 x5 x7)
theorem l_FnExactCliffordWord_ok {a1 : Int} {a2 : LQ} {r : Bool} (h : l_FnExactCliffordWord a1 a2 = some r) :
    Spec Try.prog 5 [.agg [.int .i64 a1, .sl (encL EIIII a2) a2.length]] [] (.bool r) [] := by
 unfold l_FnExactCliffordWord at h; refine SO Try.func5 rfl Try.ntmps5 fun C hN hρ => ?_; simp only [st0, tmps0, Nat.zero_add, Nat.reduceAdd]; refine AN hN ?_; refine AN hN ?_; obtain ⟨x1, h1, h⟩ := bO_inv h; refine AP hN (l_szTableau_ok h1) ?_; refine AW_seq ?_; refine AN hN ?_; refine AB h (fun hc1 h => ?_) fun hc1 h => ?_
 ·refine AN hN ?_; injection h with h; subst h; exact AX (b' := 64) [(2, .bool true)] [] [] [] hρ (EQ [])
 ·refine AW_skip (AK ?_); refine AR hN fun K hK => ?_; obtain ⟨x2, h2, h⟩ := bO_inv h; simp only [EV, seval]; refine rC_p (l_toTableau_ok h2) (by simp only [AL, EV, seval]) (le_d rfl) (site_1 (by simp only [EV, seval])) ?_; obtain ⟨x3, h3, h⟩ := bO_inv h; simp only [EV, seval]; refine rC_l (s_CliffordWord_ok h3) (by simp only [AL, EV, seval]) (by simp only [AL, EF, and_self]) (le_d rfl) (site_1 (by simp only [EV, seval])) ?_; simp only [EV, seval]; refine hK _ _ _ ?_; clear hK K; refine AR hN fun K hK => ?_; obtain ⟨x4, h4, h⟩ := bO_inv h; simp only [EV, seval]; refine rC_p (l_toTableau_ok h4) (by simp only [AL, EV, seval]) (le_d rfl) (site_1 (by simp only [EV, seval])) ?_; simp only [EV, seval]; refine hK _ _ _ ?_; clear hK K; refine AR hN fun K hK => ?_; obtain ⟨x5, h5, h⟩ := bO_inv h; simp only [EV, seval]; refine rC_l (i_CliffordWord_ok h5) (by simp only [AL, EV, seval]) (by simp only [AL, EF, and_self]) (le_d rfl) (site_1 (by simp only [EV, seval])) ?_; simp only [EV, seval]; refine hK _ _ _ ?_; clear hK K; refine AW_seq ?_; refine AJ (fun S => ∃ (v1 : Bool), S = ⟨mkT [(1, .ptr 32 0), (4, .own 33 x3.1.length), (5, .bool x3.2), (6, .ptr 34 0), (7, .own 35 x5.1.length), (8, .bool x5.2), (40, .bool v1)], mkR [(32, .box 38 [.int .i64 a1, .sl (encL EIIII a2) a2.length]), (33, .row 86 4 (encL EIIII x3.1)), (34, .box 45 [.int .i64 x4.1, .own 36 x4.2.length]), (35, .row 86 4 (encL EIIII x5.1)), (36, .row 26 4 (encL EIIII x4.2))], 64⟩ ∧ l_FnExactCliffordWord_j1 a1 a2 x3 x4 x5 v1 = some r) hN ?_ ?_
  ·intro K hK; obtain ⟨x6, h6, h⟩ := bO_inv h; simp only [EV, seval]; refine rC_l (l_eqGateS_ok h6) (by simp only [AL, EV, seval]) (by simp only [AL, EF, and_self]) (le_d rfl) (no_j rfl) ?_; obtain ⟨x7, hv1, h⟩ := bO_inv h; rcases br_inv hv1 with ⟨hc2, hv1⟩ | ⟨hc2, hv1⟩
   ·cases hv1; simp only [EV, seval, hc2]; refine hK _ _ _ (show cutK _ _ _ from cutL ⟨_, rfl, h⟩ (Le_can [(32, some 64), (33, some 4192), (34, some 5216), (35, some 6224), (36, some 5200)] [] hρ (by kernel_rfl) ?_ ?_))
    ·simp only [AL, EV, seval, hc2]
    ·simp only [AL, EV, seval, hc2]
   ·cases hv1; simp only [EV, seval, hc2]; refine hK _ _ _ (show cutK _ _ _ from cutL ⟨_, rfl, h⟩ (Le_can [(32, some 64), (33, some 4192), (34, some 5216), (35, some 6224), (36, some 5200)] [] hρ (by kernel_rfl) ?_ ?_))
    ·simp only [AL, EV, seval, hc2]
    ·simp only [AL, EV, seval, hc2]
  ·rintro S ⟨v1, rfl, h⟩; unfold l_FnExactCliffordWord_j1 at h; refine AB h (fun hc3 h => ?_) fun hc3 h => ?_
   ·refine AN hN ?_; injection h with h; subst h; exact AX (b' := 64) [(2, .bool false)] [] [] [] hρ (EQ [])
   ·refine AW_skip (AK ?_); refine AW_seq ?_; refine AR hN fun K hK => ?_; obtain ⟨x8, h7, h⟩ := bO_inv h; simp only [EV, seval]; refine rC_p (l_toTableau_ok h7) (by simp only [AL, EV, seval]) (le_d rfl) (site_1 (by simp only [EV, seval])) ?_; obtain ⟨x9, h8, h⟩ := bO_inv h; simp only [EV, seval]; refine rC_l (l_eqTableau_ok h8) (by simp only [AL, EV, seval]) (by simp only [AL, EF, and_self]) (le_d rfl) (no_j rfl) ?_; simp only [EV, seval]; refine hK _ _ _ ?_; clear hK K; refine AB h (fun hc4 h => ?_) fun hc4 h => ?_
    ·refine AN hN ?_; injection h with h; subst h; exact AX (b' := 64) [(2, .bool false)] [] [] [] hρ (EQ [])
    ·refine AW_skip (AK ?_); refine AN hN ?_; refine AR hN fun K hK => ?_; obtain ⟨x10, h9, h⟩ := bO_inv h; simp only [EV, seval]; obtain ⟨h10, h⟩ := gd_inv h; replace h10 := of_decide_eq_true h10; refine rR_p [36] (l_markTableau_ok h9) (by simp only [AL, EV, seval, h10]) (by simp only [AL, EV, seval, h10]) (by kernel_rfl) (by simp only [EV, solidO, List.mem_cons, List.not_mem_nil, or_false, forall_eq_or_imp, forall_eq, seval]) (le_d rfl) (le_d rfl) (no_j rfl) ?_; simp only [EV, seval, h10]; refine hK _ _ _ ?_; clear hK K; refine AW_seq ?_; refine AJ (fun S => ∃ (v2 : Bool), S = ⟨mkT [(1, .ptr 32 0), (4, .own 33 x3.1.length), (5, .bool x3.2), (7, .own 34 x5.1.length), (61, .bool v2)], mkR [(32, .box 38 [.int .i64 a1, .sl (encL EIIII a2) a2.length]), (33, .row 86 4 (encL EIIII x3.1)), (34, .row 86 4 (encL EIIII x5.1))], 64⟩ ∧ l_FnExactCliffordWord_j2 a1 a2 x3 x5 v2 = some r) hN ?_ ?_
     ·intro K hK; obtain ⟨x12, hv2, h⟩ := bO_inv h; rcases br_inv hv2 with ⟨hc5, hv2⟩ | ⟨hc5, hv2⟩
      ·cases hv2; obtain ⟨x14, hv4, h⟩ := bO_inv h; replace hv4 := br_t hv4; cases hv4; (try dsimp only at h); simp only [EV, seval, hc5, h10]; refine hK _ _ _ (show cutK _ _ _ from cutL ⟨_, rfl, h⟩ (Le_can [(32, some 32), (33, some 33), (34, some 35)] [] hρ (by kernel_rfl) ?_ ?_))
       ·simp only [AL, EV, seval, hc5, h10]
       ·simp only [AL, EV, seval, hc5, h10]
      ·obtain ⟨x15, h12, hv2⟩ := bO_inv hv2; simp only [EV, seval, hc5, h10]; refine rC_l (l_eqGateS_ok h12) (by simp only [AL, EV, seval, hc5, h10]) (by simp only [AL, EF, and_self]) (le_d rfl) (no_j rfl) ?_; cases hv2; obtain ⟨x16, hv5, h⟩ := bO_inv h; rcases br_inv hv5 with ⟨hc7, hv5⟩ | ⟨hc7, hv5⟩
       ·cases hv5; simp only [EV, seval, hc5, hc7, h10]; refine hK _ _ _ (show cutK _ _ _ from cutL ⟨_, rfl, h⟩ (Le_can [(32, some 32), (33, some 33), (34, some 35)] [] hρ (by kernel_rfl) ?_ ?_))
        ·simp only [AL, EV, seval, hc5, hc7, h10]
        ·simp only [AL, EV, seval, hc5, hc7, h10]
       ·cases hv5; simp only [EV, seval, hc5, hc7, h10]; refine hK _ _ _ (show cutK _ _ _ from cutL ⟨_, rfl, h⟩ (Le_can [(32, some 32), (33, some 33), (34, some 35)] [] hρ (by kernel_rfl) ?_ ?_))
        ·simp only [AL, EV, seval, hc5, hc7, h10]
        ·simp only [AL, EV, seval, hc5, hc7, h10]
     ·rintro S ⟨v2, rfl, h⟩; unfold l_FnExactCliffordWord_j2 at h; refine AW_condK (a := .bool v2) (by simp only [EV, seval, h10]) (brK h (fun hc8 h => ?_) (fun hc8 h => ?_))
      ·refine AR hN fun K hK => ?_; simp only [EV, seval, h10]; refine hK _ _ _ ?_; clear hK K; injection h with h; subst h; refine AW_le (Le_can (lt := [(2, .bool false)]) (lr := []) (b' := 64) [] [] hρ (by kernel_rfl) ?_ ?_) (AW_ret (end_q [] (.inr rfl) (by kernel_rfl) (by kernel_rfl) ?_))
       ·simp only [AL, EV, seval, h10]
       ·simp only [AL, EV, seval, h10]
       ·simp only [EV, Try.results5, seval]
      ·refine AW_skip (AK ?_); refine AR hN fun K hK => ?_; simp only [EV, seval, h10]; refine hK _ _ _ ?_; clear hK K; refine AR hN fun K hK => ?_; obtain ⟨x17, h13, h⟩ := bO_inv h; simp only [EV, seval, h10]; obtain ⟨h14, h⟩ := gd_inv h; replace h14 := of_decide_eq_true h14; refine rR_p [34] (l_markGateS_ok h13) (by simp only [AL, EV, seval, h10, h14]) (by simp only [AL, EV, seval, h10, h14]) (by kernel_rfl) (by simp only [EV, solidO, List.mem_cons, List.not_mem_nil, or_false, forall_eq_or_imp, forall_eq, seval]) (le_d rfl) (le_d rfl) (no_j rfl) ?_; simp only [EV, seval, h10, h14]; refine hK _ _ _ ?_; clear hK K; refine AR hN fun K hK => ?_; simp only [EV, seval, h10, h14]; refine hK _ _ _ ?_; clear hK K; refine AR hN fun K hK => ?_; obtain ⟨x18, h15, h⟩ := bO_inv h; simp only [EV, seval, h10, h14]; refine rC_l (l_heldGateS_ok h15) (by simp only [AL, EV, seval, h10, h14]) (by simp only [AL, EF, and_self]) (le_d rfl) (no_j rfl) ?_; simp only [EV, seval, h10, h14]; refine hK _ _ _ ?_; clear hK K; refine AW_seq ?_; refine AR hN fun K hK => ?_; simp only [EV, seval, h10, h14]; refine hK _ _ _ ?_; clear hK K; refine AW_condK (a := .bool (decide (x18 < 0))) (by simp only [EV, seval, h10, h14]) (brK h (fun hc9 h => ?_) (fun hc9 h => ?_))
       ·refine AR hN fun K hK => ?_; simp only [EV, seval, h10, h14]; refine hK _ _ _ ?_; clear hK K; injection h with h; subst h; refine AW_le (Le_can (lt := [(2, .bool false)]) (lr := []) (b' := 64) [] [] hρ (by kernel_rfl) ?_ ?_) (AW_ret (end_q [] (.inr rfl) (by kernel_rfl) (by kernel_rfl) ?_))
        ·simp only [AL, EV, seval, h10, h14]
        ·simp only [AL, EV, seval, h10, h14]
        ·simp only [EV, Try.results5, seval]
       ·refine AW_skip (AK ?_); refine AW_seq ?_; refine AR hN fun K hK => ?_; simp only [EV, seval, h10, h14]; refine hK _ _ _ ?_; clear hK K; refine AW_condK (a := .bool (x18 != x17.1)) (by simp only [EV, seval, h10, h14]) (brK h (fun hc10 h => ?_) (fun hc10 h => ?_))
        ·refine AR hN fun K hK => ?_; simp only [EV, seval, h10, h14]; refine hK _ _ _ ?_; clear hK K; injection h with h; subst h; refine AW_le (Le_can (lt := [(2, .bool false)]) (lr := []) (b' := 64) [] [] hρ (by kernel_rfl) ?_ ?_) (AW_ret (end_q [] (.inr rfl) (by kernel_rfl) (by kernel_rfl) ?_))
         ·simp only [AL, EV, seval, h10, h14]
         ·simp only [AL, EV, seval, h10, h14]
         ·simp only [EV, Try.results5, seval]
        ·refine AW_skip (AK ?_); refine AR hN fun K hK => ?_; obtain ⟨x19, h16, h⟩ := bO_inv h; simp only [EV, seval, h10, h14]; refine rC_p (l_toTableau_ok h16) (by simp only [AL, EV, seval, h10, h14]) (le_d rfl) (site_1 (by simp only [EV, seval])) ?_; obtain ⟨x20, h17, h⟩ := bO_inv h; simp only [EV, seval, h10, h14]; refine rC_l (i_CliffordWord_ok h17) (by simp only [AL, EV, seval, h10, h14]) (by simp only [AL, EF, and_self]) (le_d rfl) (site_1 (by simp only [EV, seval])) ?_; simp only [EV, seval, h10, h14]; refine hK _ _ _ ?_; clear hK K; refine AW_seq ?_; refine AJ (fun S => ∃ (v3 : Bool), S = ⟨mkT [(7, .own 32 x17.2.length), (10, .int .i64 x17.1), (87, .bool v3)], mkR [(32, .row 86 4 (encL EIIII x17.2))], 64⟩ ∧ l_FnExactCliffordWord_j3 x17 v3 = some r) hN ?_ ?_
         ·intro K hK; obtain ⟨x21, h18, h⟩ := bO_inv h; simp only [EV, seval, h10, h14]; refine rC_l (l_eqGateS_ok h18) (by simp only [AL, EV, seval, h10, h14]) (by simp only [AL, EF, and_self]) (le_d rfl) (no_j rfl) ?_; obtain ⟨x22, hv6, h⟩ := bO_inv h; rcases br_inv hv6 with ⟨hc11, hv6⟩ | ⟨hc11, hv6⟩
          ·cases hv6; simp only [EV, seval, hc11, h10, h14]; refine hK _ _ _ (show cutK _ _ _ from cutL ⟨_, rfl, h⟩ (Le_can [(32, some 34)] [] hρ (by kernel_rfl) ?_ ?_))
           ·simp only [AL, EV, seval, hc11, h10, h14]
           ·simp only [AL, EV, seval, hc11, h10, h14]
          ·cases hv6; simp only [EV, seval, hc11, h10, h14]; refine hK _ _ _ (show cutK _ _ _ from cutL ⟨_, rfl, h⟩ (Le_can [(32, some 34)] [] hρ (by kernel_rfl) ?_ ?_))
           ·simp only [AL, EV, seval, hc11, h10, h14]
           ·simp only [AL, EV, seval, hc11, h10, h14]
         ·rintro S ⟨v3, rfl, h⟩; unfold l_FnExactCliffordWord_j3 at h; refine AW_condK (a := .bool v3) (by simp only [EV, seval, h10, h14]) (brK h (fun hc12 h => ?_) (fun hc12 h => ?_))
          ·refine AR hN fun K hK => ?_; simp only [EV, seval, h10, h14]; refine hK _ _ _ ?_; clear hK K; injection h with h; subst h; refine AW_le (Le_can (lt := [(2, .bool false)]) (lr := []) (b' := 64) [] [] hρ (by kernel_rfl) ?_ ?_) (AW_ret (end_q [] (.inr rfl) (by kernel_rfl) (by kernel_rfl) ?_))
           ·simp only [AL, EV, seval, h10, h14]
           ·simp only [AL, EV, seval, h10, h14]
           ·simp only [EV, Try.results5, seval]
          ·refine AW_skip (AK ?_); refine AR hN fun K hK => ?_; simp only [EV, seval, h10, h14]; refine hK _ _ _ ?_; clear hK K; refine AR hN fun K hK => ?_; obtain ⟨x23, h19, h⟩ := bO_inv h; simp only [EV, seval, h10, h14]; refine rC_l (l_heldGateS_ok h19) (by simp only [AL, EV, seval, h10, h14]) (by simp only [AL, EF, and_self]) (le_d rfl) (no_j rfl) ?_; simp only [EV, seval, h10, h14]; refine hK _ _ _ ?_; clear hK K; refine AW_seq ?_; refine AR hN fun K hK => ?_; simp only [EV, seval, h10, h14]; refine hK _ _ _ ?_; clear hK K; refine AW_condK (a := .bool (decide (x23 < 0))) (by simp only [EV, seval, h10, h14]) (brK h (fun hc13 h => ?_) (fun hc13 h => ?_))
           ·refine AR hN fun K hK => ?_; simp only [EV, seval, h10, h14]; refine hK _ _ _ ?_; clear hK K; injection h with h; subst h; refine AW_le (Le_can (lt := [(2, .bool false)]) (lr := []) (b' := 64) [] [] hρ (by kernel_rfl) ?_ ?_) (AW_ret (end_q [] (.inr rfl) (by kernel_rfl) (by kernel_rfl) ?_))
            ·simp only [AL, EV, seval, h10, h14]
            ·simp only [AL, EV, seval, h10, h14]
            ·simp only [EV, Try.results5, seval]
           ·refine AW_skip (AK ?_); refine AW_seq ?_; refine AR hN fun K hK => ?_; simp only [EV, seval, h10, h14]; refine hK _ _ _ ?_; clear hK K; refine AW_condK (a := .bool (x23 != x17.1)) (by simp only [EV, seval, h10, h14]) (brK h (fun hc14 h => ?_) (fun hc14 h => ?_))
            ·refine AR hN fun K hK => ?_; simp only [EV, seval, h10, h14]; refine hK _ _ _ ?_; clear hK K; injection h with h; subst h; refine AW_le (Le_can (lt := [(2, .bool false)]) (lr := []) (b' := 64) [] [] hρ (by kernel_rfl) ?_ ?_) (AW_ret (end_q [] (.inr rfl) (by kernel_rfl) (by kernel_rfl) ?_))
             ·simp only [AL, EV, seval, h10, h14]
             ·simp only [AL, EV, seval, h10, h14]
             ·simp only [EV, Try.results5, seval]
            ·refine AW_skip (AK ?_); refine AR hN fun K hK => ?_; simp only [EV, seval, h10, h14]; refine hK _ _ _ ?_; clear hK K; injection h with h; subst h; refine AW_le (Le_can (lt := [(2, .bool true)]) (lr := []) (b' := 64) [] [] hρ (by kernel_rfl) ?_ ?_) (AW_ret (end_q [] (.inr rfl) (by kernel_rfl) (by kernel_rfl) ?_))
             ·simp only [AL, EV, seval, h10, h14]
             ·simp only [AL, EV, seval, h10, h14]
             ·simp only [EV, Try.results5, seval]
end Go.Proofs.Ytoleoojcodlciaa
