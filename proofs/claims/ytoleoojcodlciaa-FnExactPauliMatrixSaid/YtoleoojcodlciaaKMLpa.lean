/- Models of functions, and that the functions do what the models say; printed by a program. -/
import Derived.Test.YtoleoojcodlciaaK1
import Derived.Test.YtoleoojcodlciaaKMd
import Derived.Test.YtoleoojcodlciaaK6
import Derived.Test.YtoleoojcodlciaaKMds
import Derived.Test.YtoleoojcodlciaaKFm
namespace Go.Proofs.Ytoleoojcodlciaa
open Go.RowKit
set_option maxRecDepth 100000
set_option linter.unusedVariables false
set_option linter.unusedSimpArgs false
set_option linter.defProp false
set_option maxHeartbeats 4000000
/- laws.FnExactPauliMatrix -/
def l_FnExactPauliMatrix (a1 a2 a3 a4 : Int) : Option Bool :=
  bO (l_toPauli a1 a2 a3 a4) fun x1 => bO (s_PauliMatrix x1.1 x1.2.1 x1.2.2.1 x1.2.2.2) fun x2 => bO (l_toPauli a1 a2 a3 a4) fun x3 => bO (i_PauliMatrix x3.1 x3.2.1 x3.2.2.1 x3.2.2.2) fun x4 => bO (l_eqDOmegaSS x4 x2) fun x5 => br (!x5) (some false) (bO (l_markDOmegaSS x4 1) fun x6 => gd (decide (x6.2.length = x4.length)) (bO (l_heldDOmegaSS x6.2 1) fun x7 => br (decide (x7 < 0)) (some false) (br (x7 != x6.1) (some false) (bO (l_toPauli a1 a2 a3 a4) fun x8 => bO (i_PauliMatrix x8.1 x8.2.1 x8.2.2.1 x8.2.2.2) fun x9 => bO (l_eqDOmegaSS x9 x2) fun x10 => br (!x10) (some false) (bO (l_heldDOmegaSS x6.2 1) fun x11 => br (decide (x11 < 0)) (some false) (br (x11 != x6.1) (some false) (some true)))))))
theorem l_FnExactPauliMatrix_ok {a1 a2 a3 a4 : Int} {r : Bool} (h : l_FnExactPauliMatrix a1 a2 a3 a4 = some r) :
    Spec Try.prog 3 [.agg [.int .i64 a1, .int .i64 a2, .int .i64 a3, .int .i64 a4]] [] (.bool r) [] := by
 unfold l_FnExactPauliMatrix at h; refine SO Try.func3 rfl Try.ntmps3 fun C hN hρ => ?_; simp only [st0, tmps0, Nat.zero_add, Nat.reduceAdd]; refine AN hN ?_; refine AR hN fun K hK => ?_; obtain ⟨x1, h1, h⟩ := bO_inv h; simp only [EV, seval]; refine CP (l_toPauli_ok h1) ?_; obtain ⟨x2, h2, h⟩ := bO_inv h; simp only [EV, seval]; refine rC_p (s_PauliMatrix_ok h2) (by simp only [AL, EV, seval]) (le_d rfl) (site_1 (by simp only [EV, seval])) ?_; simp only [EV, seval]; refine hK _ _ _ ?_; clear hK K; refine AR hN fun K hK => ?_; obtain ⟨x3, h3, h⟩ := bO_inv h; simp only [EV, seval]; refine CP (l_toPauli_ok h3) ?_; obtain ⟨x4, h4, h⟩ := bO_inv h; simp only [EV, seval]; refine rR_t (i_PauliMatrix_ok h4) (by simp only [AL, EV, seval]) (by simp only [EV, seval]) ?_; simp only [EV, seval]; refine hK _ _ _ ?_; clear hK K; refine AW_seq ?_; refine AW_le (Le_famK (E := 73) (sz := 5) (e := EIIIII) 2145 (lt := [(1, .ptr 64 0), (3, .own 1120 x2.length), (4, .own 2144 x4.length)]) (lr := [(64, .box 23 [.int .i64 a1, .int .i64 a2, .int .i64 a3, .int .i64 a4]), (1120, .row 69 1 (encL ELIIIIIE x2)), (2144, .tab 69 1 (ownF 1099511627776 x4))]) (b' := 3152) (le := x4) [(64, some 64), (1120, some 1120), (2144, some 2144)] [] hρ (by kernel_rfl) (by kernel_rfl) (by kernel_rfl) (by kernel_rfl) ?_ ?_ (by simp only [EV, seval])) ?_
 ·simp only [AL, EV, seval]
 ·simp only [AL, EV, seval]
 refine AR hN fun K hK => ?_; obtain ⟨x5, h5, h⟩ := bO_inv h; simp only [EV, seval]; refine rR_n (l_eqDOmegaSS_ok h5) (by simp only [AL, EV, seval]) (by simp only [AL, EF, and_self]) (no_j rfl) ?_; simp only [EV, seval]; refine hK _ _ _ ?_; clear hK K; refine AB h (fun hc1 h => ?_) fun hc1 h => ?_
 ·refine AN hN ?_; injection h with h; subst h; exact AX (b' := 64) [(2, .bool false)] [] [] [] hρ (EQ [])
 ·refine AW_skip (AK ?_); refine AN hN ?_; refine AR hN fun K hK => ?_; obtain ⟨x6, h6, h⟩ := bO_inv h; simp only [EV, seval]; obtain ⟨h7, h⟩ := gd_inv h; replace h7 := of_decide_eq_true h7; refine rR_fam 2144 (l_markDOmegaSS_ok h6) h7 (by simp only [EV, seval]) (by kernel_rfl) ?_; simp only [EV, seval, h7]; refine hK _ _ _ ?_; clear hK K; refine AR hN fun K hK => ?_; simp only [EV, seval, h7]; refine hK _ _ _ ?_; clear hK K; refine AR hN fun K hK => ?_; obtain ⟨x7, h8, h⟩ := bO_inv h; simp only [EV, seval, h7]; refine rR_n (l_heldDOmegaSS_ok h8) (by simp only [AL, EV, seval, h7]) (by simp only [AL, EF, and_self]) (no_j rfl) ?_; simp only [EV, seval, h7]; refine hK _ _ _ ?_; clear hK K; refine AW_seq ?_; refine AR hN fun K hK => ?_; simp only [EV, seval, h7]; refine hK _ _ _ ?_; clear hK K; refine AW_condK (a := .bool (decide (x7 < 0))) (by simp only [EV, seval, h7]) (brK h (fun hc2 h => ?_) (fun hc2 h => ?_))
  ·refine AR hN fun K hK => ?_; simp only [EV, seval, h7]; refine hK _ _ _ ?_; clear hK K; injection h with h; subst h; refine AW_le (Le_can (lt := [(2, .bool false)]) (lr := []) (b' := 64) [] [] hρ (by kernel_rfl) ?_ ?_) (AW_ret (end_q [] (.inr rfl) (by kernel_rfl) (by kernel_rfl) ?_))
   ·simp only [AL, EV, seval, h7]
   ·simp only [AL, EV, seval, h7]
   ·simp only [EV, Try.results3, seval]
  ·refine AW_skip (AK ?_); refine AW_seq ?_; refine AR hN fun K hK => ?_; simp only [EV, seval, h7]; refine hK _ _ _ ?_; clear hK K; refine AW_condK (a := .bool (x7 != x6.1)) (by simp only [EV, seval, h7]) (brK h (fun hc3 h => ?_) (fun hc3 h => ?_))
   ·refine AR hN fun K hK => ?_; simp only [EV, seval, h7]; refine hK _ _ _ ?_; clear hK K; injection h with h; subst h; refine AW_le (Le_can (lt := [(2, .bool false)]) (lr := []) (b' := 64) [] [] hρ (by kernel_rfl) ?_ ?_) (AW_ret (end_q [] (.inr rfl) (by kernel_rfl) (by kernel_rfl) ?_))
    ·simp only [AL, EV, seval, h7]
    ·simp only [AL, EV, seval, h7]
    ·simp only [EV, Try.results3, seval]
   ·refine AW_skip (AK ?_); refine AR hN fun K hK => ?_; obtain ⟨x8, h9, h⟩ := bO_inv h; simp only [EV, seval, h7]; refine rC_p (l_toPauli_ok h9) (by simp only [AL, EV, seval, h7]) (le_d rfl) (no_j rfl) ?_; obtain ⟨x9, h10, h⟩ := bO_inv h; simp only [EV, seval, h7]; refine rR_p [] (Spec.canF (e2 := ELIIIIIE) (i_PauliMatrix_ok h10) (fun _ => rfl)) (by simp only [AL, EV, seval, h7]) (by simp only [AL, EV, seval, h7]) (by kernel_rfl) (fun _ hs => by cases hs) (le_d rfl) (le_d rfl) (no_j rfl) ?_; simp only [EV, seval, h7]; refine hK _ _ _ ?_; clear hK K; refine AW_seq ?_; refine AR hN fun K hK => ?_; obtain ⟨x10, h11, h⟩ := bO_inv h; simp only [EV, seval, h7]; refine rR_n (l_eqDOmegaSS_ok h11) (by simp only [AL, EV, seval, h7]) (by simp only [AL, EF, and_self]) (no_j rfl) ?_; simp only [EV, seval, h7]; refine hK _ _ _ ?_; clear hK K; refine AW_condK (a := .bool (!x10)) (by simp only [EV, seval, h7]) (brK h (fun hc4 h => ?_) (fun hc4 h => ?_))
    ·refine AR hN fun K hK => ?_; simp only [EV, seval, h7]; refine hK _ _ _ ?_; clear hK K; injection h with h; subst h; refine AW_le (Le_can (lt := [(2, .bool false)]) (lr := []) (b' := 64) [] [] hρ (by kernel_rfl) ?_ ?_) (AW_ret (end_q [] (.inr rfl) (by kernel_rfl) (by kernel_rfl) ?_))
     ·simp only [AL, EV, seval, h7]
     ·simp only [AL, EV, seval, h7]
     ·simp only [EV, Try.results3, seval]
    ·refine AW_skip (AK ?_); refine AR hN fun K hK => ?_; simp only [EV, seval, h7]; refine hK _ _ _ ?_; clear hK K; refine AR hN fun K hK => ?_; obtain ⟨x11, h12, h⟩ := bO_inv h; simp only [EV, seval, h7]; refine rR_n (l_heldDOmegaSS_ok h12) (by simp only [AL, EV, seval, h7]) (by simp only [AL, EF, and_self]) (no_j rfl) ?_; simp only [EV, seval, h7]; refine hK _ _ _ ?_; clear hK K; refine AW_seq ?_; refine AR hN fun K hK => ?_; simp only [EV, seval, h7]; refine hK _ _ _ ?_; clear hK K; refine AW_condK (a := .bool (decide (x11 < 0))) (by simp only [EV, seval, h7]) (brK h (fun hc5 h => ?_) (fun hc5 h => ?_))
     ·refine AR hN fun K hK => ?_; simp only [EV, seval, h7]; refine hK _ _ _ ?_; clear hK K; injection h with h; subst h; refine AW_le (Le_can (lt := [(2, .bool false)]) (lr := []) (b' := 64) [] [] hρ (by kernel_rfl) ?_ ?_) (AW_ret (end_q [] (.inr rfl) (by kernel_rfl) (by kernel_rfl) ?_))
      ·simp only [AL, EV, seval, h7]
      ·simp only [AL, EV, seval, h7]
      ·simp only [EV, Try.results3, seval]
     ·refine AW_skip (AK ?_); refine AW_seq ?_; refine AR hN fun K hK => ?_; simp only [EV, seval, h7]; refine hK _ _ _ ?_; clear hK K; refine AW_condK (a := .bool (x11 != x6.1)) (by simp only [EV, seval, h7]) (brK h (fun hc6 h => ?_) (fun hc6 h => ?_))
      ·refine AR hN fun K hK => ?_; simp only [EV, seval, h7]; refine hK _ _ _ ?_; clear hK K; injection h with h; subst h; refine AW_le (Le_can (lt := [(2, .bool false)]) (lr := []) (b' := 64) [] [] hρ (by kernel_rfl) ?_ ?_) (AW_ret (end_q [] (.inr rfl) (by kernel_rfl) (by kernel_rfl) ?_))
       ·simp only [AL, EV, seval, h7]
       ·simp only [AL, EV, seval, h7]
       ·simp only [EV, Try.results3, seval]
      ·refine AW_skip (AK ?_); refine AR hN fun K hK => ?_; simp only [EV, seval, h7]; refine hK _ _ _ ?_; clear hK K; injection h with h; subst h; refine AW_le (Le_can (lt := [(2, .bool true)]) (lr := []) (b' := 64) [] [] hρ (by kernel_rfl) ?_ ?_) (AW_ret (end_q [] (.inr rfl) (by kernel_rfl) (by kernel_rfl) ?_))
       ·simp only [AL, EV, seval, h7]
       ·simp only [AL, EV, seval, h7]
       ·simp only [EV, Try.results3, seval]
end Go.Proofs.Ytoleoojcodlciaa
