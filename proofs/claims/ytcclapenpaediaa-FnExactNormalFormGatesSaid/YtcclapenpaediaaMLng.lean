/- Models of functions, and that the functions do what the models say; printed by a program. -/
import Derived.Test.YtcclapenpaediaaGn
import Derived.Test.YtcclapenpaediaaMd
import Derived.Test.YtcclapenpaediaaMo
import Derived.Test.YtcclapenpaediaaMq
namespace Go.Proofs.Ytcclapenpaediaa
open Go.RowKit
set_option maxRecDepth 100000
set_option linter.unusedVariables false
set_option linter.unusedSimpArgs false
set_option linter.defProp false
/- laws.FnExactNormalFormGates -/
def l_FnExactNormalFormGates_j1 (a1 : List Int) (a2 : Int) (a3 : LQ) (x3 : LQ) (x5 : LQ) (v1 : Bool) : Option Bool :=
  br v1 (some false) (bO (l_markGateS x5 1) fun x13 => gd (decide (x13.2.length = x5.length)) (bO (l_heldGateS x13.2 1) fun x14 => br (decide (x14 < 0)) (some false) (br (x14 != x13.1) (some false) (bO (l_toNormalForm a1 a2 a3) fun x15 => bO (i_NormalFormGates x15.2.1 x15.1 x15.2.2) fun x16 => bO (l_eqGateS x16 x3) fun x17 => br (!x17) (some false) (bO (l_heldGateS x13.2 1) fun x18 => br (decide (x18 < 0)) (some false) (br (x18 != x13.1) (some false) (some true)))))))
def l_FnExactNormalFormGates (a1 : List Int) (a2 : Int) (a3 : LQ) : Option Bool :=
  bO (l_szNormalForm a1 a2 a3 1048576) fun x1 => br (decide (x1 < 0)) (some true) (bO (l_toNormalForm a1 a2 a3) fun x2 => bO (s_NormalFormGates x2.2.1 x2.1 x2.2.2) fun x3 => bO (l_toNormalForm a1 a2 a3) fun x4 => bO (i_NormalFormGates x4.2.1 x4.1 x4.2.2) fun x5 => bO (l_eqGateS x5 x3) fun x6 => br (!x6) (some false) (bO (l_toNormalForm a1 a2 a3) fun x7 => bO (l_eqNormalForm x4.2.1 x4.1 x4.2.2 x7.2.1 x7.1 x7.2.2) fun x8 => br (!x8) (some false) (bO (l_markNormalForm x4.2.1 x4.1 x4.2.2 1) fun x9 => gd (decide (x9.2.1.length = x4.2.1.length)) (gd (decide (x9.2.2.length = x4.2.2.length)) (bO (br (decide (x9.1 < 0)) (some true) (bO (l_eqGateS x5 x3) fun x10 => some (!x10))) fun x11 => l_FnExactNormalFormGates_j1 a1 a2 a3 x3 x5 x11)))))
set_option maxHeartbeats 4000000 in
theorem l_FnExactNormalFormGates_ok {a1 : List Int} {a2 : Int} {a3 : LQ} {r : Bool} (h : l_FnExactNormalFormGates a1 a2 a3 = some r) :
    Spec Try.prog 11 [.agg [.sl (encL EI a1) a1.length, .int .i64 a2, .sl (encL EIIII a3) a3.length]] [] (.bool r) [] := by
  unfold l_FnExactNormalFormGates at h
  refine spec_of Try.func11 rfl (by kernel_rfl) (by simp only [Try.ntmps11, List.length_cons, List.length_nil, Nat.reduceAdd, Nat.reduceLeDiff]) ?_
  intro C hN hρ
  rw [Try.ntmps11] at hN
  unfold st0
  simp only [tmps0, Nat.zero_add, Nat.reduceAdd]
  refine AW_rs (BR := BR) FM (by rw [hN]; kernel_rfl) (by kernel_rfl) ?_
  intro K hK
  simp only [EV, seval]
  refine hK _ _ _ ?_
  clear hK K
  refine AW_rs (BR := BR) FM (by rw [hN]; kernel_rfl) (by kernel_rfl) ?_
  intro K hK
  simp only [EV, seval]
  refine hK _ _ _ ?_
  clear hK K
  refine AW_rs (BR := BR) FM (by rw [hN]; kernel_rfl) (by kernel_rfl) ?_
  intro K hK
  obtain ⟨x1, h1, h⟩ := bO_inv h
  simp only [EV, seval]
  refine rC_p (l_szNormalForm_ok h1) (by simp only [AL, EV, seval]) (le_d rfl) (no_j rfl) ?_
  simp only [EV, seval]
  refine hK _ _ _ ?_
  clear hK K
  refine AW_seq ?_
  refine AW_rs (BR := BR) FM (by rw [hN]; kernel_rfl) (by kernel_rfl) ?_
  intro K hK
  simp only [EV, seval]
  refine hK _ _ _ ?_
  clear hK K
  refine AW_condK (a := .bool (decide (x1 < 0))) (by simp only [EV, seval]) (brK h (fun hc1 h => ?_) (fun hc1 h => ?_))
  · refine AW_rs (BR := BR) FM (by rw [hN]; kernel_rfl) (by kernel_rfl) ?_
    intro K hK
    simp only [EV, seval]
    refine hK _ _ _ ?_
    clear hK K
    injection h with h
    subst h
    refine AW_le (Le_can (lt := [(2, .bool true)]) (lr := []) (b' := 64) [] [] hρ (by kernel_rfl) ?_ ?_) (AW_ret (end_q [] (.inr rfl) (by kernel_rfl) (by kernel_rfl) ?_))
    · simp only [AL, EV, seval]
    · simp only [AL, EV, seval]
    · simp only [EV, Try.results11, seval]
  · refine AW_skip (show AW _ _ _ _ _ from ?_)
    refine AW_rs (BR := BR) FM (by rw [hN]; kernel_rfl) (by kernel_rfl) ?_
    intro K hK
    obtain ⟨x2, h2, h⟩ := bO_inv h
    simp only [EV, seval]
    refine rC_p (l_toNormalForm_ok h2) (by simp only [AL, EV, seval]) (le_d rfl) (site_2 (by simp only [EV, seval])) ?_
    obtain ⟨x3, h3, h⟩ := bO_inv h
    simp only [EV, seval]
    refine rC_l (s_NormalFormGates_ok h3) (by simp only [AL, EV, seval]) (by simp only [AL, EF, and_self]) (le_d rfl) (site_1 (by simp only [EV, seval])) ?_
    simp only [EV, seval]
    refine hK _ _ _ ?_
    clear hK K
    refine AW_rs (BR := BR) FM (by rw [hN]; kernel_rfl) (by kernel_rfl) ?_
    intro K hK
    obtain ⟨x4, h4, h⟩ := bO_inv h
    simp only [EV, seval]
    refine rC_p (l_toNormalForm_ok h4) (by simp only [AL, EV, seval]) (le_d rfl) (site_2 (by simp only [EV, seval])) ?_
    simp only [EV, seval]
    refine hK _ _ _ ?_
    clear hK K
    refine AW_rs (BR := BR) FM (by rw [hN]; kernel_rfl) (by kernel_rfl) ?_
    intro K hK
    obtain ⟨x5, h5, h⟩ := bO_inv h
    simp only [EV, seval]
    refine rC_l (i_NormalFormGates_ok h5) (by simp only [AL, EV, seval]) (by simp only [AL, EF, and_self]) (le_d rfl) (site_1 (by simp only [EV, seval])) ?_
    simp only [EV, seval]
    refine hK _ _ _ ?_
    clear hK K
    refine AW_seq ?_
    refine AW_rs (BR := BR) FM (by rw [hN]; kernel_rfl) (by kernel_rfl) ?_
    intro K hK
    obtain ⟨x6, h6, h⟩ := bO_inv h
    simp only [EV, seval]
    refine rC_l (l_eqGateS_ok h6) (by simp only [AL, EV, seval]) (by simp only [AL, EF, and_self]) (le_d rfl) (no_j rfl) ?_
    simp only [EV, seval]
    refine hK _ _ _ ?_
    clear hK K
    refine AW_condK (a := .bool (!x6)) (by simp only [EV, seval]) (brK h (fun hc2 h => ?_) (fun hc2 h => ?_))
    · refine AW_rs (BR := BR) FM (by rw [hN]; kernel_rfl) (by kernel_rfl) ?_
      intro K hK
      simp only [EV, seval]
      refine hK _ _ _ ?_
      clear hK K
      injection h with h
      subst h
      refine AW_le (Le_can (lt := [(2, .bool false)]) (lr := []) (b' := 64) [] [] hρ (by kernel_rfl) ?_ ?_) (AW_ret (end_q [] (.inr rfl) (by kernel_rfl) (by kernel_rfl) ?_))
      · simp only [AL, EV, seval]
      · simp only [AL, EV, seval]
      · simp only [EV, Try.results11, seval]
    · refine AW_skip (show AW _ _ _ _ _ from ?_)
      refine AW_seq ?_
      refine AW_rs (BR := BR) FM (by rw [hN]; kernel_rfl) (by kernel_rfl) ?_
      intro K hK
      obtain ⟨x7, h7, h⟩ := bO_inv h
      simp only [EV, seval]
      refine rC_p (l_toNormalForm_ok h7) (by simp only [AL, EV, seval]) (le_d rfl) (site_2 (by simp only [EV, seval])) ?_
      obtain ⟨x8, h8, h⟩ := bO_inv h
      simp only [EV, seval]
      refine rC_l (l_eqNormalForm_ok h8) (by simp only [AL, EV, seval]) (by simp only [AL, EF, and_self]) (le_d rfl) (no_j rfl) ?_
      simp only [EV, seval]
      refine hK _ _ _ ?_
      clear hK K
      refine AW_condK (a := .bool (!x8)) (by simp only [EV, seval]) (brK h (fun hc3 h => ?_) (fun hc3 h => ?_))
      · refine AW_rs (BR := BR) FM (by rw [hN]; kernel_rfl) (by kernel_rfl) ?_
        intro K hK
        simp only [EV, seval]
        refine hK _ _ _ ?_
        clear hK K
        injection h with h
        subst h
        refine AW_le (Le_can (lt := [(2, .bool false)]) (lr := []) (b' := 64) [] [] hρ (by kernel_rfl) ?_ ?_) (AW_ret (end_q [] (.inr rfl) (by kernel_rfl) (by kernel_rfl) ?_))
        · simp only [AL, EV, seval]
        · simp only [AL, EV, seval]
        · simp only [EV, Try.results11, seval]
      · refine AW_skip (show AW _ _ _ _ _ from ?_)
        refine AW_rs (BR := BR) FM (by rw [hN]; kernel_rfl) (by kernel_rfl) ?_
        intro K hK
        simp only [EV, seval]
        refine hK _ _ _ ?_
        clear hK K
        refine AW_rs (BR := BR) FM (by rw [hN]; kernel_rfl) (by kernel_rfl) ?_
        intro K hK
        obtain ⟨x9, h9, h⟩ := bO_inv h
        simp only [EV, seval]
        obtain ⟨h10, h⟩ := gd_inv h
        replace h10 := of_decide_eq_true h10
        obtain ⟨h11, h⟩ := gd_inv h
        replace h11 := of_decide_eq_true h11
        refine rR_p [5200, 5201] (l_markNormalForm_ok h9) (by simp only [AL, EV, seval, h10, h11]) (by simp only [AL, EV, seval, h10, h11]) (by kernel_rfl) (by simp only [EV, solidO, List.mem_cons, List.not_mem_nil, or_false, forall_eq_or_imp, forall_eq, seval]) (le_d rfl) (le_d rfl) (no_j rfl) ?_
        simp only [EV, seval, h10, h11]
        refine hK _ _ _ ?_
        clear hK K
        refine AW_seq ?_
        refine AW_rsJ (BR := BR) (fun S => ∃ (v1 : Bool), S = ⟨mkT [(1, .ptr 32 0), (4, .own 33 x3.length), (6, .own 34 x5.length), (42, .bool v1)], mkR [(32, .box 68 [.sl (encL EI a1) a1.length, .int .i64 a2, .sl (encL EIIII a3) a3.length]), (33, .row 49 4 (encL EIIII x3)), (34, .row 49 4 (encL EIIII x5))], 64⟩ ∧ l_FnExactNormalFormGates_j1 a1 a2 a3 x3 x5 v1 = some r) FM (by rw [hN]; kernel_rfl) (by kernel_rfl) ?_ ?_
        · intro K hK
          obtain ⟨x11, hv1, h⟩ := bO_inv h
          rcases br_inv hv1 with ⟨hc4, hv1⟩ | ⟨hc4, hv1⟩
          · cases hv1
            simp only [EV, seval, hc4, h10, h11]
            refine hK _ _ _ (show cutK _ _ _ from cutL ⟨_, rfl, h⟩ (Le_can [(32, some 64), (33, some 4192), (34, some 6224)] [] hρ (by kernel_rfl) ?_ ?_))
            · simp only [AL, EV, seval, hc4, h10, h11]
            · simp only [AL, EV, seval, hc4, h10, h11]
          · obtain ⟨x12, h13, hv1⟩ := bO_inv hv1
            simp only [EV, seval, hc4, h10, h11]
            refine rC_l (l_eqGateS_ok h13) (by simp only [AL, EV, seval, hc4, h10, h11]) (by simp only [AL, EF, and_self]) (le_d rfl) (no_j rfl) ?_
            cases hv1
            simp only [EV, seval, hc4, h10, h11]
            refine hK _ _ _ (show cutK _ _ _ from cutL ⟨_, rfl, h⟩ (Le_can [(32, some 64), (33, some 4192), (34, some 6224)] [] hρ (by kernel_rfl) ?_ ?_))
            · simp only [AL, EV, seval, hc4, h10, h11]
            · simp only [AL, EV, seval, hc4, h10, h11]
        · rintro S ⟨v1, rfl, h⟩
          unfold l_FnExactNormalFormGates_j1 at h
          refine AW_condK (a := .bool v1) (by simp only [EV, seval, h10, h11]) (brK h (fun hc5 h => ?_) (fun hc5 h => ?_))
          · refine AW_rs (BR := BR) FM (by rw [hN]; kernel_rfl) (by kernel_rfl) ?_
            intro K hK
            simp only [EV, seval, h10, h11]
            refine hK _ _ _ ?_
            clear hK K
            injection h with h
            subst h
            refine AW_le (Le_can (lt := [(2, .bool false)]) (lr := []) (b' := 64) [] [] hρ (by kernel_rfl) ?_ ?_) (AW_ret (end_q [] (.inr rfl) (by kernel_rfl) (by kernel_rfl) ?_))
            · simp only [AL, EV, seval, h10, h11]
            · simp only [AL, EV, seval, h10, h11]
            · simp only [EV, Try.results11, seval]
          · refine AW_skip (show AW _ _ _ _ _ from ?_)
            refine AW_rs (BR := BR) FM (by rw [hN]; kernel_rfl) (by kernel_rfl) ?_
            intro K hK
            simp only [EV, seval, h10, h11]
            refine hK _ _ _ ?_
            clear hK K
            refine AW_rs (BR := BR) FM (by rw [hN]; kernel_rfl) (by kernel_rfl) ?_
            intro K hK
            obtain ⟨x13, h14, h⟩ := bO_inv h
            simp only [EV, seval, h10, h11]
            obtain ⟨h15, h⟩ := gd_inv h
            replace h15 := of_decide_eq_true h15
            refine rR_p [34] (l_markGateS_ok h14) (by simp only [AL, EV, seval, h10, h11, h15]) (by simp only [AL, EV, seval, h10, h11, h15]) (by kernel_rfl) (by simp only [EV, solidO, List.mem_cons, List.not_mem_nil, or_false, forall_eq_or_imp, forall_eq, seval]) (le_d rfl) (le_d rfl) (no_j rfl) ?_
            simp only [EV, seval, h10, h11, h15]
            refine hK _ _ _ ?_
            clear hK K
            refine AW_rs (BR := BR) FM (by rw [hN]; kernel_rfl) (by kernel_rfl) ?_
            intro K hK
            simp only [EV, seval, h10, h11, h15]
            refine hK _ _ _ ?_
            clear hK K
            refine AW_rs (BR := BR) FM (by rw [hN]; kernel_rfl) (by kernel_rfl) ?_
            intro K hK
            obtain ⟨x14, h16, h⟩ := bO_inv h
            simp only [EV, seval, h10, h11, h15]
            refine rC_l (l_heldGateS_ok h16) (by simp only [AL, EV, seval, h10, h11, h15]) (by simp only [AL, EF, and_self]) (le_d rfl) (no_j rfl) ?_
            simp only [EV, seval, h10, h11, h15]
            refine hK _ _ _ ?_
            clear hK K
            refine AW_seq ?_
            refine AW_rs (BR := BR) FM (by rw [hN]; kernel_rfl) (by kernel_rfl) ?_
            intro K hK
            simp only [EV, seval, h10, h11, h15]
            refine hK _ _ _ ?_
            clear hK K
            refine AW_condK (a := .bool (decide (x14 < 0))) (by simp only [EV, seval, h10, h11, h15]) (brK h (fun hc6 h => ?_) (fun hc6 h => ?_))
            · refine AW_rs (BR := BR) FM (by rw [hN]; kernel_rfl) (by kernel_rfl) ?_
              intro K hK
              simp only [EV, seval, h10, h11, h15]
              refine hK _ _ _ ?_
              clear hK K
              injection h with h
              subst h
              refine AW_le (Le_can (lt := [(2, .bool false)]) (lr := []) (b' := 64) [] [] hρ (by kernel_rfl) ?_ ?_) (AW_ret (end_q [] (.inr rfl) (by kernel_rfl) (by kernel_rfl) ?_))
              · simp only [AL, EV, seval, h10, h11, h15]
              · simp only [AL, EV, seval, h10, h11, h15]
              · simp only [EV, Try.results11, seval]
            · refine AW_skip (show AW _ _ _ _ _ from ?_)
              refine AW_seq ?_
              refine AW_rs (BR := BR) FM (by rw [hN]; kernel_rfl) (by kernel_rfl) ?_
              intro K hK
              simp only [EV, seval, h10, h11, h15]
              refine hK _ _ _ ?_
              clear hK K
              refine AW_condK (a := .bool (x14 != x13.1)) (by simp only [EV, seval, h10, h11, h15]) (brK h (fun hc7 h => ?_) (fun hc7 h => ?_))
              · refine AW_rs (BR := BR) FM (by rw [hN]; kernel_rfl) (by kernel_rfl) ?_
                intro K hK
                simp only [EV, seval, h10, h11, h15]
                refine hK _ _ _ ?_
                clear hK K
                injection h with h
                subst h
                refine AW_le (Le_can (lt := [(2, .bool false)]) (lr := []) (b' := 64) [] [] hρ (by kernel_rfl) ?_ ?_) (AW_ret (end_q [] (.inr rfl) (by kernel_rfl) (by kernel_rfl) ?_))
                · simp only [AL, EV, seval, h10, h11, h15]
                · simp only [AL, EV, seval, h10, h11, h15]
                · simp only [EV, Try.results11, seval]
              · refine AW_skip (show AW _ _ _ _ _ from ?_)
                refine AW_rs (BR := BR) FM (by rw [hN]; kernel_rfl) (by kernel_rfl) ?_
                intro K hK
                obtain ⟨x15, h17, h⟩ := bO_inv h
                simp only [EV, seval, h10, h11, h15]
                refine rC_p (l_toNormalForm_ok h17) (by simp only [AL, EV, seval, h10, h11, h15]) (le_d rfl) (site_2 (by simp only [EV, seval])) ?_
                obtain ⟨x16, h18, h⟩ := bO_inv h
                simp only [EV, seval, h10, h11, h15]
                refine rC_l (i_NormalFormGates_ok h18) (by simp only [AL, EV, seval, h10, h11, h15]) (by simp only [AL, EF, and_self]) (le_d rfl) (site_1 (by simp only [EV, seval])) ?_
                simp only [EV, seval, h10, h11, h15]
                refine hK _ _ _ ?_
                clear hK K
                refine AW_seq ?_
                refine AW_rs (BR := BR) FM (by rw [hN]; kernel_rfl) (by kernel_rfl) ?_
                intro K hK
                obtain ⟨x17, h19, h⟩ := bO_inv h
                simp only [EV, seval, h10, h11, h15]
                refine rC_l (l_eqGateS_ok h19) (by simp only [AL, EV, seval, h10, h11, h15]) (by simp only [AL, EF, and_self]) (le_d rfl) (no_j rfl) ?_
                simp only [EV, seval, h10, h11, h15]
                refine hK _ _ _ ?_
                clear hK K
                refine AW_condK (a := .bool (!x17)) (by simp only [EV, seval, h10, h11, h15]) (brK h (fun hc8 h => ?_) (fun hc8 h => ?_))
                · refine AW_rs (BR := BR) FM (by rw [hN]; kernel_rfl) (by kernel_rfl) ?_
                  intro K hK
                  simp only [EV, seval, h10, h11, h15]
                  refine hK _ _ _ ?_
                  clear hK K
                  injection h with h
                  subst h
                  refine AW_le (Le_can (lt := [(2, .bool false)]) (lr := []) (b' := 64) [] [] hρ (by kernel_rfl) ?_ ?_) (AW_ret (end_q [] (.inr rfl) (by kernel_rfl) (by kernel_rfl) ?_))
                  · simp only [AL, EV, seval, h10, h11, h15]
                  · simp only [AL, EV, seval, h10, h11, h15]
                  · simp only [EV, Try.results11, seval]
                · refine AW_skip (show AW _ _ _ _ _ from ?_)
                  refine AW_rs (BR := BR) FM (by rw [hN]; kernel_rfl) (by kernel_rfl) ?_
                  intro K hK
                  simp only [EV, seval, h10, h11, h15]
                  refine hK _ _ _ ?_
                  clear hK K
                  refine AW_rs (BR := BR) FM (by rw [hN]; kernel_rfl) (by kernel_rfl) ?_
                  intro K hK
                  obtain ⟨x18, h20, h⟩ := bO_inv h
                  simp only [EV, seval, h10, h11, h15]
                  refine rC_l (l_heldGateS_ok h20) (by simp only [AL, EV, seval, h10, h11, h15]) (by simp only [AL, EF, and_self]) (le_d rfl) (no_j rfl) ?_
                  simp only [EV, seval, h10, h11, h15]
                  refine hK _ _ _ ?_
                  clear hK K
                  refine AW_seq ?_
                  refine AW_rs (BR := BR) FM (by rw [hN]; kernel_rfl) (by kernel_rfl) ?_
                  intro K hK
                  simp only [EV, seval, h10, h11, h15]
                  refine hK _ _ _ ?_
                  clear hK K
                  refine AW_condK (a := .bool (decide (x18 < 0))) (by simp only [EV, seval, h10, h11, h15]) (brK h (fun hc9 h => ?_) (fun hc9 h => ?_))
                  · refine AW_rs (BR := BR) FM (by rw [hN]; kernel_rfl) (by kernel_rfl) ?_
                    intro K hK
                    simp only [EV, seval, h10, h11, h15]
                    refine hK _ _ _ ?_
                    clear hK K
                    injection h with h
                    subst h
                    refine AW_le (Le_can (lt := [(2, .bool false)]) (lr := []) (b' := 64) [] [] hρ (by kernel_rfl) ?_ ?_) (AW_ret (end_q [] (.inr rfl) (by kernel_rfl) (by kernel_rfl) ?_))
                    · simp only [AL, EV, seval, h10, h11, h15]
                    · simp only [AL, EV, seval, h10, h11, h15]
                    · simp only [EV, Try.results11, seval]
                  · refine AW_skip (show AW _ _ _ _ _ from ?_)
                    refine AW_seq ?_
                    refine AW_rs (BR := BR) FM (by rw [hN]; kernel_rfl) (by kernel_rfl) ?_
                    intro K hK
                    simp only [EV, seval, h10, h11, h15]
                    refine hK _ _ _ ?_
                    clear hK K
                    refine AW_condK (a := .bool (x18 != x13.1)) (by simp only [EV, seval, h10, h11, h15]) (brK h (fun hc10 h => ?_) (fun hc10 h => ?_))
                    · refine AW_rs (BR := BR) FM (by rw [hN]; kernel_rfl) (by kernel_rfl) ?_
                      intro K hK
                      simp only [EV, seval, h10, h11, h15]
                      refine hK _ _ _ ?_
                      clear hK K
                      injection h with h
                      subst h
                      refine AW_le (Le_can (lt := [(2, .bool false)]) (lr := []) (b' := 64) [] [] hρ (by kernel_rfl) ?_ ?_) (AW_ret (end_q [] (.inr rfl) (by kernel_rfl) (by kernel_rfl) ?_))
                      · simp only [AL, EV, seval, h10, h11, h15]
                      · simp only [AL, EV, seval, h10, h11, h15]
                      · simp only [EV, Try.results11, seval]
                    · refine AW_skip (show AW _ _ _ _ _ from ?_)
                      refine AW_rs (BR := BR) FM (by rw [hN]; kernel_rfl) (by kernel_rfl) ?_
                      intro K hK
                      simp only [EV, seval, h10, h11, h15]
                      refine hK _ _ _ ?_
                      clear hK K
                      injection h with h
                      subst h
                      refine AW_le (Le_can (lt := [(2, .bool true)]) (lr := []) (b' := 64) [] [] hρ (by kernel_rfl) ?_ ?_) (AW_ret (end_q [] (.inr rfl) (by kernel_rfl) (by kernel_rfl) ?_))
                      · simp only [AL, EV, seval, h10, h11, h15]
                      · simp only [AL, EV, seval, h10, h11, h15]
                      · simp only [EV, Try.results11, seval]
end Go.Proofs.Ytcclapenpaediaa
