/- Models of functions, and that the functions do what the models say; printed by a program. -/
import Derived.Test.YtoleoojcodlciaaK1
import Derived.Test.YtoleoojcodlciaaK5
import Derived.Test.YtoleoojcodlciaaKMgs
import Derived.Test.YtoleoojcodlciaaKFm
namespace Go.Proofs.Ytoleoojcodlciaa
open Go.RowKit
set_option maxRecDepth 100000
set_option linter.unusedVariables false
set_option linter.unusedSimpArgs false
set_option linter.defProp false
set_option maxHeartbeats 4000000
/- laws.FnExactAllCliffordWords -/
def l_FnExactAllCliffordWords : Option Bool :=
  bO (s_AllCliffordWords) fun x1 => bO (i_AllCliffordWords) fun x2 => bO (l_eqGateSS x2 x1) fun x3 => br (!x3) (some false) (bO (l_markGateSS x2 1) fun x4 => gd (decide (x4.2.length = x2.length)) (bO (l_heldGateSS x4.2 1) fun x5 => br (decide (x5 < 0)) (some false) (br (x5 != x4.1) (some false) (bO (i_AllCliffordWords) fun x6 => bO (l_eqGateSS x6 x1) fun x7 => br (!x7) (some false) (bO (l_heldGateSS x4.2 1) fun x8 => br (decide (x8 < 0)) (some false) (br (x8 != x4.1) (some false) (some true)))))))
theorem l_FnExactAllCliffordWords_ok {r : Bool} (h : l_FnExactAllCliffordWords = some r) :
    Spec Try.prog 4 [] [] (.bool r) [] := by
 unfold l_FnExactAllCliffordWords at h; refine SO Try.func4 rfl Try.ntmps4 fun C hN hρ => ?_; simp only [st0, tmps0, Nat.zero_add, Nat.reduceAdd]; refine AN hN ?_; refine AR hN fun K hK => ?_; obtain ⟨x1, h1, h⟩ := bO_inv h; simp only [EV, seval]; refine rC_p (s_AllCliffordWords_ok h1) (by simp only [AL, EV, seval]) (le_d rfl) (site_1 (by simp only [EV, seval])) ?_; simp only [EV, seval]; refine hK _ _ _ ?_; clear hK K; refine AR hN fun K hK => ?_; obtain ⟨x2, h2, h⟩ := bO_inv h; simp only [EV, seval]; refine rR_t (i_AllCliffordWords_ok h2) (by simp only [AL, EV, seval]) (by simp only [EV, seval]) ?_; simp only [EV, seval]; refine hK _ _ _ ?_; clear hK K; refine AW_seq ?_; refine AW_le (Le_famK (E := 86) (sz := 4) (e := EIIII) 2113 (lt := [(1, .own 1088 x1.length), (2, .own 2112 x2.length)]) (lr := [(1088, .row 40 1 (encL ELIIIIE x1)), (2112, .tab 40 1 (ownF 1099511627776 x2))]) (b' := 3152) (le := x2) [(1088, some 1088), (2112, some 2112)] [] hρ (by kernel_rfl) (by kernel_rfl) (by kernel_rfl) (by kernel_rfl) ?_ ?_ (by simp only [EV, seval])) ?_
 ·simp only [AL, EV, seval]
 ·simp only [AL, EV, seval]
 refine AR hN fun K hK => ?_; obtain ⟨x3, h3, h⟩ := bO_inv h; simp only [EV, seval]; refine rR_n (l_eqGateSS_ok h3) (by simp only [AL, EV, seval]) (by simp only [AL, EF, and_self]) (no_j rfl) ?_; simp only [EV, seval]; refine hK _ _ _ ?_; clear hK K; refine AB h (fun hc1 h => ?_) fun hc1 h => ?_
 ·refine AN hN ?_; injection h with h; subst h; exact AX (b' := 64) [(0, .bool false)] [] [] [] hρ (EQ [])
 ·refine AW_skip (AK ?_); refine AN hN ?_; refine AR hN fun K hK => ?_; obtain ⟨x4, h4, h⟩ := bO_inv h; simp only [EV, seval]; obtain ⟨h5, h⟩ := gd_inv h; replace h5 := of_decide_eq_true h5; refine rR_fam 2112 (l_markGateSS_ok h4) h5 (by simp only [EV, seval]) (by kernel_rfl) ?_; simp only [EV, seval, h5]; refine hK _ _ _ ?_; clear hK K; refine AR hN fun K hK => ?_; simp only [EV, seval, h5]; refine hK _ _ _ ?_; clear hK K; refine AR hN fun K hK => ?_; obtain ⟨x5, h6, h⟩ := bO_inv h; simp only [EV, seval, h5]; refine rR_n (l_heldGateSS_ok h6) (by simp only [AL, EV, seval, h5]) (by simp only [AL, EF, and_self]) (no_j rfl) ?_; simp only [EV, seval, h5]; refine hK _ _ _ ?_; clear hK K; refine AW_seq ?_; refine AR hN fun K hK => ?_; simp only [EV, seval, h5]; refine hK _ _ _ ?_; clear hK K; refine AW_condK (a := .bool (decide (x5 < 0))) (by simp only [EV, seval, h5]) (brK h (fun hc2 h => ?_) (fun hc2 h => ?_))
  ·refine AR hN fun K hK => ?_; simp only [EV, seval, h5]; refine hK _ _ _ ?_; clear hK K; injection h with h; subst h; refine AW_le (Le_can (lt := [(0, .bool false)]) (lr := []) (b' := 64) [] [] hρ (by kernel_rfl) ?_ ?_) (AW_ret (end_q [] (.inr rfl) (by kernel_rfl) (by kernel_rfl) ?_))
   ·simp only [AL, EV, seval, h5]
   ·simp only [AL, EV, seval, h5]
   ·simp only [EV, Try.results4, seval]
  ·refine AW_skip (AK ?_); refine AW_seq ?_; refine AR hN fun K hK => ?_; simp only [EV, seval, h5]; refine hK _ _ _ ?_; clear hK K; refine AW_condK (a := .bool (x5 != x4.1)) (by simp only [EV, seval, h5]) (brK h (fun hc3 h => ?_) (fun hc3 h => ?_))
   ·refine AR hN fun K hK => ?_; simp only [EV, seval, h5]; refine hK _ _ _ ?_; clear hK K; injection h with h; subst h; refine AW_le (Le_can (lt := [(0, .bool false)]) (lr := []) (b' := 64) [] [] hρ (by kernel_rfl) ?_ ?_) (AW_ret (end_q [] (.inr rfl) (by kernel_rfl) (by kernel_rfl) ?_))
    ·simp only [AL, EV, seval, h5]
    ·simp only [AL, EV, seval, h5]
    ·simp only [EV, Try.results4, seval]
   ·refine AW_skip (AK ?_); refine AR hN fun K hK => ?_; obtain ⟨x6, h7, h⟩ := bO_inv h; simp only [EV, seval, h5]; refine rR_p [] (Spec.canF (e2 := ELIIIIE) (i_AllCliffordWords_ok h7) (fun _ => rfl)) (by simp only [AL, EV, seval, h5]) (by simp only [AL, EV, seval, h5]) (by kernel_rfl) (fun _ hs => by cases hs) (le_d rfl) (le_d rfl) (no_j rfl) ?_; simp only [EV, seval, h5]; refine hK _ _ _ ?_; clear hK K; refine AW_seq ?_; refine AR hN fun K hK => ?_; obtain ⟨x7, h8, h⟩ := bO_inv h; simp only [EV, seval, h5]; refine rR_n (l_eqGateSS_ok h8) (by simp only [AL, EV, seval, h5]) (by simp only [AL, EF, and_self]) (no_j rfl) ?_; simp only [EV, seval, h5]; refine hK _ _ _ ?_; clear hK K; refine AW_condK (a := .bool (!x7)) (by simp only [EV, seval, h5]) (brK h (fun hc4 h => ?_) (fun hc4 h => ?_))
    ·refine AR hN fun K hK => ?_; simp only [EV, seval, h5]; refine hK _ _ _ ?_; clear hK K; injection h with h; subst h; refine AW_le (Le_can (lt := [(0, .bool false)]) (lr := []) (b' := 64) [] [] hρ (by kernel_rfl) ?_ ?_) (AW_ret (end_q [] (.inr rfl) (by kernel_rfl) (by kernel_rfl) ?_))
     ·simp only [AL, EV, seval, h5]
     ·simp only [AL, EV, seval, h5]
     ·simp only [EV, Try.results4, seval]
    ·refine AW_skip (AK ?_); refine AR hN fun K hK => ?_; simp only [EV, seval, h5]; refine hK _ _ _ ?_; clear hK K; refine AR hN fun K hK => ?_; obtain ⟨x8, h9, h⟩ := bO_inv h; simp only [EV, seval, h5]; refine rR_n (l_heldGateSS_ok h9) (by simp only [AL, EV, seval, h5]) (by simp only [AL, EF, and_self]) (no_j rfl) ?_; simp only [EV, seval, h5]; refine hK _ _ _ ?_; clear hK K; refine AW_seq ?_; refine AR hN fun K hK => ?_; simp only [EV, seval, h5]; refine hK _ _ _ ?_; clear hK K; refine AW_condK (a := .bool (decide (x8 < 0))) (by simp only [EV, seval, h5]) (brK h (fun hc5 h => ?_) (fun hc5 h => ?_))
     ·refine AR hN fun K hK => ?_; simp only [EV, seval, h5]; refine hK _ _ _ ?_; clear hK K; injection h with h; subst h; refine AW_le (Le_can (lt := [(0, .bool false)]) (lr := []) (b' := 64) [] [] hρ (by kernel_rfl) ?_ ?_) (AW_ret (end_q [] (.inr rfl) (by kernel_rfl) (by kernel_rfl) ?_))
      ·simp only [AL, EV, seval, h5]
      ·simp only [AL, EV, seval, h5]
      ·simp only [EV, Try.results4, seval]
     ·refine AW_skip (AK ?_); refine AW_seq ?_; refine AR hN fun K hK => ?_; simp only [EV, seval, h5]; refine hK _ _ _ ?_; clear hK K; refine AW_condK (a := .bool (x8 != x4.1)) (by simp only [EV, seval, h5]) (brK h (fun hc6 h => ?_) (fun hc6 h => ?_))
      ·refine AR hN fun K hK => ?_; simp only [EV, seval, h5]; refine hK _ _ _ ?_; clear hK K; injection h with h; subst h; refine AW_le (Le_can (lt := [(0, .bool false)]) (lr := []) (b' := 64) [] [] hρ (by kernel_rfl) ?_ ?_) (AW_ret (end_q [] (.inr rfl) (by kernel_rfl) (by kernel_rfl) ?_))
       ·simp only [AL, EV, seval, h5]
       ·simp only [AL, EV, seval, h5]
       ·simp only [EV, Try.results4, seval]
      ·refine AW_skip (AK ?_); refine AR hN fun K hK => ?_; simp only [EV, seval, h5]; refine hK _ _ _ ?_; clear hK K; injection h with h; subst h; refine AW_le (Le_can (lt := [(0, .bool true)]) (lr := []) (b' := 64) [] [] hρ (by kernel_rfl) ?_ ?_) (AW_ret (end_q [] (.inr rfl) (by kernel_rfl) (by kernel_rfl) ?_))
       ·simp only [AL, EV, seval, h5]
       ·simp only [AL, EV, seval, h5]
       ·simp only [EV, Try.results4, seval]
end Go.Proofs.Ytoleoojcodlciaa
