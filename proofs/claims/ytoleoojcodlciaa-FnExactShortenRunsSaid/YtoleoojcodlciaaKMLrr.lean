/- Models of functions, and that the functions do what the models say; printed by a program. -/
import Derived.Test.YtoleoojcodlciaaK1
import Derived.Test.YtoleoojcodlciaaK7
import Derived.Test.YtoleoojcodlciaaKMsrs
namespace Go.Proofs.Ytoleoojcodlciaa
open Go.RowKit
set_option maxRecDepth 100000
set_option linter.unusedVariables false
set_option linter.unusedSimpArgs false
set_option linter.defProp false
set_option maxHeartbeats 4000000
/- laws.FnExactShortenRuns -/
def l_FnExactShortenRuns_j1 (a1 : LQ) (a2 : Int) (x3 : LQ) (x5 : LQ) (v1 : Bool) : Option Bool :=
  br v1 (some false) (bO (l_markGateS x5 1) fun x13 => gd (decide (x13.2.length = x5.length)) (bO (l_heldGateS x13.2 1) fun x14 => br (decide (x14 < 0)) (some false) (br (x14 != x13.1) (some false) (bO (l_toGateS a1) fun x15 => bO (i_ShortenRuns x15 a2) fun x16 => bO (l_eqGateS x16 x3) fun x17 => br (!x17) (some false) (bO (l_heldGateS x13.2 1) fun x18 => br (decide (x18 < 0)) (some false) (br (x18 != x13.1) (some false) (some true)))))))
def l_FnExactShortenRuns (a1 : LQ) (a2 : Int) : Option Bool :=
  bO (l_szGateS a1 1048576) fun x1 => br (decide (x1 < 0)) (some true) (bO (l_toGateS a1) fun x2 => bO (s_ShortenRuns x2 a2) fun x3 => bO (l_toGateS a1) fun x4 => bO (i_ShortenRuns x4 a2) fun x5 => bO (l_eqGateS x5 x3) fun x6 => br (!x6) (some false) (bO (l_toGateS a1) fun x7 => bO (l_eqGateS x4 x7) fun x8 => br (!x8) (some false) (bO (l_markGateS x4 1) fun x9 => gd (decide (x9.2.length = x4.length)) (bO (br (decide (x9.1 < 0)) (some true) (bO (l_eqGateS x5 x3) fun x10 => some (!x10))) fun x11 => l_FnExactShortenRuns_j1 a1 a2 x3 x5 x11))))
theorem l_FnExactShortenRuns_ok {a1 : LQ} {a2 : Int} {r : Bool} (h : l_FnExactShortenRuns a1 a2 = some r) :
    Spec Try.prog 7 [.sl (encL EIIII a1) a1.length, .int .i64 a2] [] (.bool r) [] := by
 unfold l_FnExactShortenRuns at h; refine SO Try.func7 rfl Try.ntmps7 fun C hN hρ => ?_; simp only [st0, tmps0, Nat.zero_add, Nat.reduceAdd]; refine AN hN ?_; refine AN hN ?_; obtain ⟨x1, h1, h⟩ := bO_inv h; refine AP hN (l_szGateS_ok h1) ?_; refine AW_seq ?_; refine AN hN ?_; refine AB h (fun hc1 h => ?_) fun hc1 h => ?_
 ·refine AN hN ?_; injection h with h; subst h; exact AX (b' := 64) [(4, .bool true)] [] [] [] hρ (EQ [])
 ·refine AW_skip (AK ?_); refine AR hN fun K hK => ?_; obtain ⟨x2, h2, h⟩ := bO_inv h; simp only [EV, seval]; refine rC_p (l_toGateS_ok h2) (by simp only [AL, EV, seval]) (le_d rfl) (site_1 (by simp only [EV, seval])) ?_; obtain ⟨x3, h3, h⟩ := bO_inv h; simp only [EV, seval]; refine rC_l (s_ShortenRuns_ok h3) (by simp only [AL, EV, seval]) (by simp only [AL, EF, and_self]) (le_d rfl) (site_1 (by simp only [EV, seval])) ?_; simp only [EV, seval]; refine hK _ _ _ ?_; clear hK K; refine AR hN fun K hK => ?_; obtain ⟨x4, h4, h⟩ := bO_inv h; simp only [EV, seval]; refine rC_p (l_toGateS_ok h4) (by simp only [AL, EV, seval]) (le_d rfl) (site_1 (by simp only [EV, seval])) ?_; simp only [EV, seval]; refine hK _ _ _ ?_; clear hK K; refine AR hN fun K hK => ?_; obtain ⟨x5, h5, h⟩ := bO_inv h; simp only [EV, seval]; refine rC_l (i_ShortenRuns_ok h5) (by simp only [AL, EV, seval]) (by simp only [AL, EF, and_self]) (le_d rfl) (site_1 (by simp only [EV, seval])) ?_; simp only [EV, seval]; refine hK _ _ _ ?_; clear hK K; refine AW_seq ?_; refine AR hN fun K hK => ?_; obtain ⟨x6, h6, h⟩ := bO_inv h; simp only [EV, seval]; refine rC_l (l_eqGateS_ok h6) (by simp only [AL, EV, seval]) (by simp only [AL, EF, and_self]) (le_d rfl) (no_j rfl) ?_; simp only [EV, seval]; refine hK _ _ _ ?_; clear hK K; refine AB h (fun hc2 h => ?_) fun hc2 h => ?_
  ·refine AN hN ?_; injection h with h; subst h; exact AX (b' := 64) [(4, .bool false)] [] [] [] hρ (EQ [])
  ·refine AW_skip (AK ?_); refine AW_seq ?_; refine AR hN fun K hK => ?_; obtain ⟨x7, h7, h⟩ := bO_inv h; simp only [EV, seval]; refine rC_p (l_toGateS_ok h7) (by simp only [AL, EV, seval]) (le_d rfl) (site_1 (by simp only [EV, seval])) ?_; obtain ⟨x8, h8, h⟩ := bO_inv h; simp only [EV, seval]; refine rC_l (l_eqGateS_ok h8) (by simp only [AL, EV, seval]) (by simp only [AL, EF, and_self]) (le_d rfl) (no_j rfl) ?_; simp only [EV, seval]; refine hK _ _ _ ?_; clear hK K; refine AB h (fun hc3 h => ?_) fun hc3 h => ?_
   ·refine AN hN ?_; injection h with h; subst h; exact AX (b' := 64) [(4, .bool false)] [] [] [] hρ (EQ [])
   ·refine AW_skip (AK ?_); refine AN hN ?_; refine AR hN fun K hK => ?_; obtain ⟨x9, h9, h⟩ := bO_inv h; simp only [EV, seval]; obtain ⟨h10, h⟩ := gd_inv h; replace h10 := of_decide_eq_true h10; refine rR_p [5200] (l_markGateS_ok h9) (by simp only [AL, EV, seval, h10]) (by simp only [AL, EV, seval, h10]) (by kernel_rfl) (by simp only [EV, solidO, List.mem_cons, List.not_mem_nil, or_false, forall_eq_or_imp, forall_eq, seval]) (le_d rfl) (le_d rfl) (no_j rfl) ?_; simp only [EV, seval, h10]; refine hK _ _ _ ?_; clear hK K; refine AW_seq ?_; refine AJ (fun S => ∃ (v1 : Bool), S = ⟨mkT [(0, .sl (encL EIIII a1) a1.length), (1, .int .i64 a2), (6, .own 32 x3.length), (8, .own 33 x5.length), (46, .bool v1)], mkR [(32, .row 86 4 (encL EIIII x3)), (33, .row 86 4 (encL EIIII x5))], 64⟩ ∧ l_FnExactShortenRuns_j1 a1 a2 x3 x5 v1 = some r) hN ?_ ?_
    ·intro K hK; obtain ⟨x11, hv1, h⟩ := bO_inv h; rcases br_inv hv1 with ⟨hc4, hv1⟩ | ⟨hc4, hv1⟩
     ·cases hv1; simp only [EV, seval, hc4, h10]; refine hK _ _ _ (show cutK _ _ _ from cutL ⟨_, rfl, h⟩ (Le_can [(32, some 4208), (33, some 6240)] [] hρ (by kernel_rfl) ?_ ?_))
      ·simp only [AL, EV, seval, hc4, h10]
      ·simp only [AL, EV, seval, hc4, h10]
     ·obtain ⟨x12, h12, hv1⟩ := bO_inv hv1; simp only [EV, seval, hc4, h10]; refine rC_l (l_eqGateS_ok h12) (by simp only [AL, EV, seval, hc4, h10]) (by simp only [AL, EF, and_self]) (le_d rfl) (no_j rfl) ?_; cases hv1; simp only [EV, seval, hc4, h10]; refine hK _ _ _ (show cutK _ _ _ from cutL ⟨_, rfl, h⟩ (Le_can [(32, some 4208), (33, some 6240)] [] hρ (by kernel_rfl) ?_ ?_))
      ·simp only [AL, EV, seval, hc4, h10]
      ·simp only [AL, EV, seval, hc4, h10]
    ·rintro S ⟨v1, rfl, h⟩; unfold l_FnExactShortenRuns_j1 at h; refine AW_condK (a := .bool v1) (by simp only [EV, seval, h10]) (brK h (fun hc5 h => ?_) (fun hc5 h => ?_))
     ·refine AR hN fun K hK => ?_; simp only [EV, seval, h10]; refine hK _ _ _ ?_; clear hK K; injection h with h; subst h; refine AW_le (Le_can (lt := [(4, .bool false)]) (lr := []) (b' := 64) [] [] hρ (by kernel_rfl) ?_ ?_) (AW_ret (end_q [] (.inr rfl) (by kernel_rfl) (by kernel_rfl) ?_))
      ·simp only [AL, EV, seval, h10]
      ·simp only [AL, EV, seval, h10]
      ·simp only [EV, Try.results7, seval]
     ·refine AW_skip (AK ?_); refine AR hN fun K hK => ?_; simp only [EV, seval, h10]; refine hK _ _ _ ?_; clear hK K; refine AR hN fun K hK => ?_; obtain ⟨x13, h13, h⟩ := bO_inv h; simp only [EV, seval, h10]; obtain ⟨h14, h⟩ := gd_inv h; replace h14 := of_decide_eq_true h14; refine rR_p [33] (l_markGateS_ok h13) (by simp only [AL, EV, seval, h10, h14]) (by simp only [AL, EV, seval, h10, h14]) (by kernel_rfl) (by simp only [EV, solidO, List.mem_cons, List.not_mem_nil, or_false, forall_eq_or_imp, forall_eq, seval]) (le_d rfl) (le_d rfl) (no_j rfl) ?_; simp only [EV, seval, h10, h14]; refine hK _ _ _ ?_; clear hK K; refine AR hN fun K hK => ?_; simp only [EV, seval, h10, h14]; refine hK _ _ _ ?_; clear hK K; refine AR hN fun K hK => ?_; obtain ⟨x14, h15, h⟩ := bO_inv h; simp only [EV, seval, h10, h14]; refine rC_l (l_heldGateS_ok h15) (by simp only [AL, EV, seval, h10, h14]) (by simp only [AL, EF, and_self]) (le_d rfl) (no_j rfl) ?_; simp only [EV, seval, h10, h14]; refine hK _ _ _ ?_; clear hK K; refine AW_seq ?_; refine AR hN fun K hK => ?_; simp only [EV, seval, h10, h14]; refine hK _ _ _ ?_; clear hK K; refine AW_condK (a := .bool (decide (x14 < 0))) (by simp only [EV, seval, h10, h14]) (brK h (fun hc6 h => ?_) (fun hc6 h => ?_))
      ·refine AR hN fun K hK => ?_; simp only [EV, seval, h10, h14]; refine hK _ _ _ ?_; clear hK K; injection h with h; subst h; refine AW_le (Le_can (lt := [(4, .bool false)]) (lr := []) (b' := 64) [] [] hρ (by kernel_rfl) ?_ ?_) (AW_ret (end_q [] (.inr rfl) (by kernel_rfl) (by kernel_rfl) ?_))
       ·simp only [AL, EV, seval, h10, h14]
       ·simp only [AL, EV, seval, h10, h14]
       ·simp only [EV, Try.results7, seval]
      ·refine AW_skip (AK ?_); refine AW_seq ?_; refine AR hN fun K hK => ?_; simp only [EV, seval, h10, h14]; refine hK _ _ _ ?_; clear hK K; refine AW_condK (a := .bool (x14 != x13.1)) (by simp only [EV, seval, h10, h14]) (brK h (fun hc7 h => ?_) (fun hc7 h => ?_))
       ·refine AR hN fun K hK => ?_; simp only [EV, seval, h10, h14]; refine hK _ _ _ ?_; clear hK K; injection h with h; subst h; refine AW_le (Le_can (lt := [(4, .bool false)]) (lr := []) (b' := 64) [] [] hρ (by kernel_rfl) ?_ ?_) (AW_ret (end_q [] (.inr rfl) (by kernel_rfl) (by kernel_rfl) ?_))
        ·simp only [AL, EV, seval, h10, h14]
        ·simp only [AL, EV, seval, h10, h14]
        ·simp only [EV, Try.results7, seval]
       ·refine AW_skip (AK ?_); refine AR hN fun K hK => ?_; obtain ⟨x15, h16, h⟩ := bO_inv h; simp only [EV, seval, h10, h14]; refine rC_p (l_toGateS_ok h16) (by simp only [AL, EV, seval, h10, h14]) (le_d rfl) (site_1 (by simp only [EV, seval])) ?_; obtain ⟨x16, h17, h⟩ := bO_inv h; simp only [EV, seval, h10, h14]; refine rC_l (i_ShortenRuns_ok h17) (by simp only [AL, EV, seval, h10, h14]) (by simp only [AL, EF, and_self]) (le_d rfl) (site_1 (by simp only [EV, seval])) ?_; simp only [EV, seval, h10, h14]; refine hK _ _ _ ?_; clear hK K; refine AW_seq ?_; refine AR hN fun K hK => ?_; obtain ⟨x17, h18, h⟩ := bO_inv h; simp only [EV, seval, h10, h14]; refine rC_l (l_eqGateS_ok h18) (by simp only [AL, EV, seval, h10, h14]) (by simp only [AL, EF, and_self]) (le_d rfl) (no_j rfl) ?_; simp only [EV, seval, h10, h14]; refine hK _ _ _ ?_; clear hK K; refine AW_condK (a := .bool (!x17)) (by simp only [EV, seval, h10, h14]) (brK h (fun hc8 h => ?_) (fun hc8 h => ?_))
        ·refine AR hN fun K hK => ?_; simp only [EV, seval, h10, h14]; refine hK _ _ _ ?_; clear hK K; injection h with h; subst h; refine AW_le (Le_can (lt := [(4, .bool false)]) (lr := []) (b' := 64) [] [] hρ (by kernel_rfl) ?_ ?_) (AW_ret (end_q [] (.inr rfl) (by kernel_rfl) (by kernel_rfl) ?_))
         ·simp only [AL, EV, seval, h10, h14]
         ·simp only [AL, EV, seval, h10, h14]
         ·simp only [EV, Try.results7, seval]
        ·refine AW_skip (AK ?_); refine AR hN fun K hK => ?_; simp only [EV, seval, h10, h14]; refine hK _ _ _ ?_; clear hK K; refine AR hN fun K hK => ?_; obtain ⟨x18, h19, h⟩ := bO_inv h; simp only [EV, seval, h10, h14]; refine rC_l (l_heldGateS_ok h19) (by simp only [AL, EV, seval, h10, h14]) (by simp only [AL, EF, and_self]) (le_d rfl) (no_j rfl) ?_; simp only [EV, seval, h10, h14]; refine hK _ _ _ ?_; clear hK K; refine AW_seq ?_; refine AR hN fun K hK => ?_; simp only [EV, seval, h10, h14]; refine hK _ _ _ ?_; clear hK K; refine AW_condK (a := .bool (decide (x18 < 0))) (by simp only [EV, seval, h10, h14]) (brK h (fun hc9 h => ?_) (fun hc9 h => ?_))
         ·refine AR hN fun K hK => ?_; simp only [EV, seval, h10, h14]; refine hK _ _ _ ?_; clear hK K; injection h with h; subst h; refine AW_le (Le_can (lt := [(4, .bool false)]) (lr := []) (b' := 64) [] [] hρ (by kernel_rfl) ?_ ?_) (AW_ret (end_q [] (.inr rfl) (by kernel_rfl) (by kernel_rfl) ?_))
          ·simp only [AL, EV, seval, h10, h14]
          ·simp only [AL, EV, seval, h10, h14]
          ·simp only [EV, Try.results7, seval]
         ·refine AW_skip (AK ?_); refine AW_seq ?_; refine AR hN fun K hK => ?_; simp only [EV, seval, h10, h14]; refine hK _ _ _ ?_; clear hK K; refine AW_condK (a := .bool (x18 != x13.1)) (by simp only [EV, seval, h10, h14]) (brK h (fun hc10 h => ?_) (fun hc10 h => ?_))
          ·refine AR hN fun K hK => ?_; simp only [EV, seval, h10, h14]; refine hK _ _ _ ?_; clear hK K; injection h with h; subst h; refine AW_le (Le_can (lt := [(4, .bool false)]) (lr := []) (b' := 64) [] [] hρ (by kernel_rfl) ?_ ?_) (AW_ret (end_q [] (.inr rfl) (by kernel_rfl) (by kernel_rfl) ?_))
           ·simp only [AL, EV, seval, h10, h14]
           ·simp only [AL, EV, seval, h10, h14]
           ·simp only [EV, Try.results7, seval]
          ·refine AW_skip (AK ?_); refine AR hN fun K hK => ?_; simp only [EV, seval, h10, h14]; refine hK _ _ _ ?_; clear hK K; injection h with h; subst h; refine AW_le (Le_can (lt := [(4, .bool true)]) (lr := []) (b' := 64) [] [] hρ (by kernel_rfl) ?_ ?_) (AW_ret (end_q [] (.inr rfl) (by kernel_rfl) (by kernel_rfl) ?_))
           ·simp only [AL, EV, seval, h10, h14]
           ·simp only [AL, EV, seval, h10, h14]
           ·simp only [EV, Try.results7, seval]
end Go.Proofs.Ytoleoojcodlciaa
