/- Models of functions, and that the functions do what the models say; printed by a program. -/
import Derived.Test.YtcclapenpaediaaGn
import Derived.Test.YtcclapenpaediaaMd
import Derived.Test.YtcclapenpaediaaMp
import Derived.Test.YtcclapenpaediaaMq
namespace Go.Proofs.Ytcclapenpaediaa
open Go.RowKit
set_option maxRecDepth 100000
set_option linter.unusedVariables false
set_option linter.unusedSimpArgs false
set_option linter.defProp false
/- laws.FnExactComputeNormalForm -/
def l_FnExactComputeNormalForm_j3 (x5 : Int × List Int × LQ × Bool) (x17 : Int × List Int × LQ) (v3 : Bool) : Option Bool :=
  br v3 (some false) (bO (l_heldNormalForm x17.2.1 x5.1 x17.2.2 1) fun x23 => br (decide (x23 < 0)) (some false) (br (x23 != x17.1) (some false) (some true)))
def l_FnExactComputeNormalForm_j2 (a1 : LQ) (x3 : Int × List Int × LQ × Bool) (x5 : Int × List Int × LQ × Bool) (v2 : Bool) : Option Bool :=
  br v2 (some false) (bO (l_markNormalForm x5.2.1 x5.1 x5.2.2.1 1) fun x17 => gd (decide (x17.2.1.length = x5.2.1.length)) (gd (decide (x17.2.2.length = x5.2.2.1.length)) (bO (l_heldNormalForm x17.2.1 x5.1 x17.2.2 1) fun x18 => br (decide (x18 < 0)) (some false) (br (x18 != x17.1) (some false) (bO (l_toGateS a1) fun x19 => bO (i_ComputeNormalForm x19) fun x20 => bO (l_eqNormalForm x20.2.1 x20.1 x20.2.2.1 x3.2.1 x3.1 x3.2.2.1) fun x21 => bO (br (!x21) (some true) (some (x20.2.2.2 != x3.2.2.2))) fun x22 => l_FnExactComputeNormalForm_j3 x5 x17 x22)))))
def l_FnExactComputeNormalForm_j1 (a1 : LQ) (x3 : Int × List Int × LQ × Bool) (x4 : LQ) (x5 : Int × List Int × LQ × Bool) (v1 : Bool) : Option Bool :=
  br v1 (some false) (bO (l_toGateS a1) fun x8 => bO (l_eqGateS x4 x8) fun x9 => br (!x9) (some false) (bO (l_markGateS x4 1) fun x10 => gd (decide (x10.2.length = x4.length)) (bO (br (decide (x10.1 < 0)) (some true) (bO (l_eqNormalForm x5.2.1 x5.1 x5.2.2.1 x3.2.1 x3.1 x3.2.2.1) fun x11 => some (!x11))) fun x12 => bO (br x12 (some true) (some (x5.2.2.2 != x3.2.2.2))) fun x13 => l_FnExactComputeNormalForm_j2 a1 x3 x5 x13)))
def l_FnExactComputeNormalForm (a1 : LQ) : Option Bool :=
  bO (l_szGateS a1 1048576) fun x1 => br (decide (x1 < 0)) (some true) (bO (l_toGateS a1) fun x2 => bO (s_ComputeNormalForm x2) fun x3 => bO (l_toGateS a1) fun x4 => bO (i_ComputeNormalForm x4) fun x5 => bO (l_eqNormalForm x5.2.1 x5.1 x5.2.2.1 x3.2.1 x3.1 x3.2.2.1) fun x6 => bO (br (!x6) (some true) (some (x5.2.2.2 != x3.2.2.2))) fun x7 => l_FnExactComputeNormalForm_j1 a1 x3 x4 x5 x7)
set_option maxHeartbeats 4000000 in
theorem l_FnExactComputeNormalForm_ok {a1 : LQ} {r : Bool} (h : l_FnExactComputeNormalForm a1 = some r) :
    Spec Try.prog 13 [.sl (encL EIIII a1) a1.length] [] (.bool r) [] := by
  unfold l_FnExactComputeNormalForm at h
  refine spec_of Try.func13 rfl (by kernel_rfl) (by simp only [Try.ntmps13, List.length_cons, List.length_nil, Nat.reduceAdd, Nat.reduceLeDiff]) ?_
  intro C hN hρ
  rw [Try.ntmps13] at hN
  unfold st0
  simp only [tmps0, Nat.zero_add, Nat.reduceAdd]
  refine AW_rs (BR := BR) FM (by rw [hN]; kernel_rfl) (by kernel_rfl) ?_
  intro K hK
  simp only [EV, seval]
  refine hK _ _ _ ?_
  clear hK K
  refine AW_rs (BR := BR) FM (by rw [hN]; kernel_rfl) (by kernel_rfl) ?_
  intro K hK
  simp only [EV, seval]
  refine hK _ _ _ ?_
  clear hK K
  refine AW_rs (BR := BR) FM (by rw [hN]; kernel_rfl) (by kernel_rfl) ?_
  intro K hK
  obtain ⟨x1, h1, h⟩ := bO_inv h
  simp only [EV, seval]
  refine rC_p (l_szGateS_ok h1) (by simp only [AL, EV, seval]) (le_d rfl) (no_j rfl) ?_
  simp only [EV, seval]
  refine hK _ _ _ ?_
  clear hK K
  refine AW_seq ?_
  refine AW_rs (BR := BR) FM (by rw [hN]; kernel_rfl) (by kernel_rfl) ?_
  intro K hK
  simp only [EV, seval]
  refine hK _ _ _ ?_
  clear hK K
  refine AW_condK (a := .bool (decide (x1 < 0))) (by simp only [EV, seval]) (brK h (fun hc1 h => ?_) (fun hc1 h => ?_))
  · refine AW_rs (BR := BR) FM (by rw [hN]; kernel_rfl) (by kernel_rfl) ?_
    intro K hK
    simp only [EV, seval]
    refine hK _ _ _ ?_
    clear hK K
    injection h with h
    subst h
    refine AW_le (Le_can (lt := [(2, .bool true)]) (lr := []) (b' := 64) [] [] hρ (by kernel_rfl) ?_ ?_) (AW_ret (end_q [] (.inr rfl) (by kernel_rfl) (by kernel_rfl) ?_))
    · simp only [AL, EV, seval]
    · simp only [AL, EV, seval]
    · simp only [EV, Try.results13, seval]
  · refine AW_skip (show AW _ _ _ _ _ from ?_)
    refine AW_rs (BR := BR) FM (by rw [hN]; kernel_rfl) (by kernel_rfl) ?_
    intro K hK
    obtain ⟨x2, h2, h⟩ := bO_inv h
    simp only [EV, seval]
    refine rC_p (l_toGateS_ok h2) (by simp only [AL, EV, seval]) (le_d rfl) (site_1 (by simp only [EV, seval])) ?_
    obtain ⟨x3, h3, h⟩ := bO_inv h
    simp only [EV, seval]
    refine rC_l (s_ComputeNormalForm_ok h3) (by simp only [AL, EV, seval]) (by simp only [AL, EF, and_self]) (le_d rfl) (site_2 (by simp only [EV, seval])) ?_
    simp only [EV, seval]
    refine hK _ _ _ ?_
    clear hK K
    refine AW_rs (BR := BR) FM (by rw [hN]; kernel_rfl) (by kernel_rfl) ?_
    intro K hK
    obtain ⟨x4, h4, h⟩ := bO_inv h
    simp only [EV, seval]
    refine rC_p (l_toGateS_ok h4) (by simp only [AL, EV, seval]) (le_d rfl) (site_1 (by simp only [EV, seval])) ?_
    simp only [EV, seval]
    refine hK _ _ _ ?_
    clear hK K
    refine AW_rs (BR := BR) FM (by rw [hN]; kernel_rfl) (by kernel_rfl) ?_
    intro K hK
    obtain ⟨x5, h5, h⟩ := bO_inv h
    simp only [EV, seval]
    refine rC_l (i_ComputeNormalForm_ok h5) (by simp only [AL, EV, seval]) (by simp only [AL, EF, and_self]) (le_d rfl) (site_2 (by simp only [EV, seval])) ?_
    simp only [EV, seval]
    refine hK _ _ _ ?_
    clear hK K
    refine AW_seq ?_
    refine AW_rsJ (BR := BR) (fun S => ∃ (v1 : Bool), S = ⟨mkT [(0, .sl (encL EIIII a1) a1.length), (4, .ptr 32 0), (5, .bool x3.2.2.2), (6, .own 33 x4.length), (7, .ptr 34 0), (8, .bool x5.2.2.2), (40, .bool v1)], mkR [(32, .box 72 [.own 35 x3.2.1.length, .int .i64 x3.1, .own 36 x3.2.2.1.length]), (33, .row 49 4 (encL EIIII x4)), (34, .box 72 [.own 37 x5.2.1.length, .int .i64 x5.1, .own 38 x5.2.2.1.length]), (35, .row 3 1 (encL EI x3.2.1)), (36, .row 113 4 (encL EIIII x3.2.2.1)), (37, .row 3 1 (encL EI x5.2.1)), (38, .row 113 4 (encL EIIII x5.2.2.1))], 64⟩ ∧ l_FnExactComputeNormalForm_j1 a1 x3 x4 x5 v1 = some r) FM (by rw [hN]; kernel_rfl) (by kernel_rfl) ?_ ?_
    · intro K hK
      obtain ⟨x6, h6, h⟩ := bO_inv h
      simp only [EV, seval]
      refine rC_l (l_eqNormalForm_ok h6) (by simp only [AL, EV, seval]) (by simp only [AL, EF, and_self]) (le_d rfl) (no_j rfl) ?_
      obtain ⟨x7, hv1, h⟩ := bO_inv h
      rcases br_inv hv1 with ⟨hc2, hv1⟩ | ⟨hc2, hv1⟩
      · cases hv1
        simp only [EV, seval, hc2]
        refine hK _ _ _ (show cutK _ _ _ from cutL ⟨_, rfl, h⟩ (Le_can [(32, some 4256), (33, some 5200), (34, some 6288), (35, some 4192), (36, some 4193), (37, some 6224), (38, some 6225)] [] hρ (by kernel_rfl) ?_ ?_))
        · simp only [AL, EV, seval, hc2]
        · simp only [AL, EV, seval, hc2]
      · cases hv1
        simp only [EV, seval, hc2]
        refine hK _ _ _ (show cutK _ _ _ from cutL ⟨_, rfl, h⟩ (Le_can [(32, some 4256), (33, some 5200), (34, some 6288), (35, some 4192), (36, some 4193), (37, some 6224), (38, some 6225)] [] hρ (by kernel_rfl) ?_ ?_))
        · simp only [AL, EV, seval, hc2]
        · simp only [AL, EV, seval, hc2]
    · rintro S ⟨v1, rfl, h⟩
      unfold l_FnExactComputeNormalForm_j1 at h
      refine AW_condK (a := .bool v1) (by simp only [EV, seval]) (brK h (fun hc3 h => ?_) (fun hc3 h => ?_))
      · refine AW_rs (BR := BR) FM (by rw [hN]; kernel_rfl) (by kernel_rfl) ?_
        intro K hK
        simp only [EV, seval]
        refine hK _ _ _ ?_
        clear hK K
        injection h with h
        subst h
        refine AW_le (Le_can (lt := [(2, .bool false)]) (lr := []) (b' := 64) [] [] hρ (by kernel_rfl) ?_ ?_) (AW_ret (end_q [] (.inr rfl) (by kernel_rfl) (by kernel_rfl) ?_))
        · simp only [AL, EV, seval]
        · simp only [AL, EV, seval]
        · simp only [EV, Try.results13, seval]
      · refine AW_skip (show AW _ _ _ _ _ from ?_)
        refine AW_seq ?_
        refine AW_rs (BR := BR) FM (by rw [hN]; kernel_rfl) (by kernel_rfl) ?_
        intro K hK
        obtain ⟨x8, h7, h⟩ := bO_inv h
        simp only [EV, seval]
        refine rC_p (l_toGateS_ok h7) (by simp only [AL, EV, seval]) (le_d rfl) (site_1 (by simp only [EV, seval])) ?_
        obtain ⟨x9, h8, h⟩ := bO_inv h
        simp only [EV, seval]
        refine rC_l (l_eqGateS_ok h8) (by simp only [AL, EV, seval]) (by simp only [AL, EF, and_self]) (le_d rfl) (no_j rfl) ?_
        simp only [EV, seval]
        refine hK _ _ _ ?_
        clear hK K
        refine AW_condK (a := .bool (!x9)) (by simp only [EV, seval]) (brK h (fun hc4 h => ?_) (fun hc4 h => ?_))
        · refine AW_rs (BR := BR) FM (by rw [hN]; kernel_rfl) (by kernel_rfl) ?_
          intro K hK
          simp only [EV, seval]
          refine hK _ _ _ ?_
          clear hK K
          injection h with h
          subst h
          refine AW_le (Le_can (lt := [(2, .bool false)]) (lr := []) (b' := 64) [] [] hρ (by kernel_rfl) ?_ ?_) (AW_ret (end_q [] (.inr rfl) (by kernel_rfl) (by kernel_rfl) ?_))
          · simp only [AL, EV, seval]
          · simp only [AL, EV, seval]
          · simp only [EV, Try.results13, seval]
        · refine AW_skip (show AW _ _ _ _ _ from ?_)
          refine AW_rs (BR := BR) FM (by rw [hN]; kernel_rfl) (by kernel_rfl) ?_
          intro K hK
          simp only [EV, seval]
          refine hK _ _ _ ?_
          clear hK K
          refine AW_rs (BR := BR) FM (by rw [hN]; kernel_rfl) (by kernel_rfl) ?_
          intro K hK
          obtain ⟨x10, h9, h⟩ := bO_inv h
          simp only [EV, seval]
          obtain ⟨h10, h⟩ := gd_inv h
          replace h10 := of_decide_eq_true h10
          refine rR_p [33] (l_markGateS_ok h9) (by simp only [AL, EV, seval, h10]) (by simp only [AL, EV, seval, h10]) (by kernel_rfl) (by simp only [EV, solidO, List.mem_cons, List.not_mem_nil, or_false, forall_eq_or_imp, forall_eq, seval]) (le_d rfl) (le_d rfl) (no_j rfl) ?_
          simp only [EV, seval, h10]
          refine hK _ _ _ ?_
          clear hK K
          refine AW_seq ?_
          refine AW_rsJ (BR := BR) (fun S => ∃ (v2 : Bool), S = ⟨mkT [(0, .sl (encL EIIII a1) a1.length), (4, .ptr 32 0), (5, .bool x3.2.2.2), (7, .ptr 33 0), (61, .bool v2)], mkR [(32, .box 72 [.own 34 x3.2.1.length, .int .i64 x3.1, .own 35 x3.2.2.1.length]), (33, .box 72 [.own 36 x5.2.1.length, .int .i64 x5.1, .own 37 x5.2.2.1.length]), (34, .row 3 1 (encL EI x3.2.1)), (35, .row 113 4 (encL EIIII x3.2.2.1)), (36, .row 3 1 (encL EI x5.2.1)), (37, .row 113 4 (encL EIIII x5.2.2.1))], 64⟩ ∧ l_FnExactComputeNormalForm_j2 a1 x3 x5 v2 = some r) FM (by rw [hN]; kernel_rfl) (by kernel_rfl) ?_ ?_
          · intro K hK
            obtain ⟨x12, hv2, h⟩ := bO_inv h
            rcases br_inv hv2 with ⟨hc5, hv2⟩ | ⟨hc5, hv2⟩
            · cases hv2
              obtain ⟨x14, hv4, h⟩ := bO_inv h
              replace hv4 := br_t hv4
              cases hv4
              try dsimp only at h
              simp only [EV, seval, hc5, h10]
              refine hK _ _ _ (show cutK _ _ _ from cutL ⟨_, rfl, h⟩ (Le_can [(32, some 32), (33, some 34), (34, some 35), (35, some 36), (36, some 37), (37, some 38)] [] hρ (by kernel_rfl) ?_ ?_))
              · simp only [AL, EV, seval, hc5, h10]
              · simp only [AL, EV, seval, hc5, h10]
            · obtain ⟨x15, h12, hv2⟩ := bO_inv hv2
              simp only [EV, seval, hc5, h10]
              refine rC_l (l_eqNormalForm_ok h12) (by simp only [AL, EV, seval, hc5, h10]) (by simp only [AL, EF, and_self]) (le_d rfl) (no_j rfl) ?_
              cases hv2
              obtain ⟨x16, hv5, h⟩ := bO_inv h
              rcases br_inv hv5 with ⟨hc7, hv5⟩ | ⟨hc7, hv5⟩
              · cases hv5
                simp only [EV, seval, hc5, hc7, h10]
                refine hK _ _ _ (show cutK _ _ _ from cutL ⟨_, rfl, h⟩ (Le_can [(32, some 32), (33, some 34), (34, some 35), (35, some 36), (36, some 37), (37, some 38)] [] hρ (by kernel_rfl) ?_ ?_))
                · simp only [AL, EV, seval, hc5, hc7, h10]
                · simp only [AL, EV, seval, hc5, hc7, h10]
              · cases hv5
                simp only [EV, seval, hc5, hc7, h10]
                refine hK _ _ _ (show cutK _ _ _ from cutL ⟨_, rfl, h⟩ (Le_can [(32, some 32), (33, some 34), (34, some 35), (35, some 36), (36, some 37), (37, some 38)] [] hρ (by kernel_rfl) ?_ ?_))
                · simp only [AL, EV, seval, hc5, hc7, h10]
                · simp only [AL, EV, seval, hc5, hc7, h10]
          · rintro S ⟨v2, rfl, h⟩
            unfold l_FnExactComputeNormalForm_j2 at h
            refine AW_condK (a := .bool v2) (by simp only [EV, seval, h10]) (brK h (fun hc8 h => ?_) (fun hc8 h => ?_))
            · refine AW_rs (BR := BR) FM (by rw [hN]; kernel_rfl) (by kernel_rfl) ?_
              intro K hK
              simp only [EV, seval, h10]
              refine hK _ _ _ ?_
              clear hK K
              injection h with h
              subst h
              refine AW_le (Le_can (lt := [(2, .bool false)]) (lr := []) (b' := 64) [] [] hρ (by kernel_rfl) ?_ ?_) (AW_ret (end_q [] (.inr rfl) (by kernel_rfl) (by kernel_rfl) ?_))
              · simp only [AL, EV, seval, h10]
              · simp only [AL, EV, seval, h10]
              · simp only [EV, Try.results13, seval]
            · refine AW_skip (show AW _ _ _ _ _ from ?_)
              refine AW_rs (BR := BR) FM (by rw [hN]; kernel_rfl) (by kernel_rfl) ?_
              intro K hK
              simp only [EV, seval, h10]
              refine hK _ _ _ ?_
              clear hK K
              refine AW_rs (BR := BR) FM (by rw [hN]; kernel_rfl) (by kernel_rfl) ?_
              intro K hK
              obtain ⟨x17, h13, h⟩ := bO_inv h
              simp only [EV, seval, h10]
              obtain ⟨h14, h⟩ := gd_inv h
              replace h14 := of_decide_eq_true h14
              obtain ⟨h15, h⟩ := gd_inv h
              replace h15 := of_decide_eq_true h15
              refine rR_p [36, 37] (l_markNormalForm_ok h13) (by simp only [AL, EV, seval, h10, h14, h15]) (by simp only [AL, EV, seval, h10, h14, h15]) (by kernel_rfl) (by simp only [EV, solidO, List.mem_cons, List.not_mem_nil, or_false, forall_eq_or_imp, forall_eq, seval]) (le_d rfl) (le_d rfl) (no_j rfl) ?_
              simp only [EV, seval, h10, h14, h15]
              refine hK _ _ _ ?_
              clear hK K
              refine AW_rs (BR := BR) FM (by rw [hN]; kernel_rfl) (by kernel_rfl) ?_
              intro K hK
              simp only [EV, seval, h10, h14, h15]
              refine hK _ _ _ ?_
              clear hK K
              refine AW_rs (BR := BR) FM (by rw [hN]; kernel_rfl) (by kernel_rfl) ?_
              intro K hK
              obtain ⟨x18, h16, h⟩ := bO_inv h
              simp only [EV, seval, h10, h14, h15]
              refine rC_l (l_heldNormalForm_ok h16) (by simp only [AL, EV, seval, h10, h14, h15]) (by simp only [AL, EF, and_self]) (le_d rfl) (no_j rfl) ?_
              simp only [EV, seval, h10, h14, h15]
              refine hK _ _ _ ?_
              clear hK K
              refine AW_seq ?_
              refine AW_rs (BR := BR) FM (by rw [hN]; kernel_rfl) (by kernel_rfl) ?_
              intro K hK
              simp only [EV, seval, h10, h14, h15]
              refine hK _ _ _ ?_
              clear hK K
              refine AW_condK (a := .bool (decide (x18 < 0))) (by simp only [EV, seval, h10, h14, h15]) (brK h (fun hc9 h => ?_) (fun hc9 h => ?_))
              · refine AW_rs (BR := BR) FM (by rw [hN]; kernel_rfl) (by kernel_rfl) ?_
                intro K hK
                simp only [EV, seval, h10, h14, h15]
                refine hK _ _ _ ?_
                clear hK K
                injection h with h
                subst h
                refine AW_le (Le_can (lt := [(2, .bool false)]) (lr := []) (b' := 64) [] [] hρ (by kernel_rfl) ?_ ?_) (AW_ret (end_q [] (.inr rfl) (by kernel_rfl) (by kernel_rfl) ?_))
                · simp only [AL, EV, seval, h10, h14, h15]
                · simp only [AL, EV, seval, h10, h14, h15]
                · simp only [EV, Try.results13, seval]
              · refine AW_skip (show AW _ _ _ _ _ from ?_)
                refine AW_seq ?_
                refine AW_rs (BR := BR) FM (by rw [hN]; kernel_rfl) (by kernel_rfl) ?_
                intro K hK
                simp only [EV, seval, h10, h14, h15]
                refine hK _ _ _ ?_
                clear hK K
                refine AW_condK (a := .bool (x18 != x17.1)) (by simp only [EV, seval, h10, h14, h15]) (brK h (fun hc10 h => ?_) (fun hc10 h => ?_))
                · refine AW_rs (BR := BR) FM (by rw [hN]; kernel_rfl) (by kernel_rfl) ?_
                  intro K hK
                  simp only [EV, seval, h10, h14, h15]
                  refine hK _ _ _ ?_
                  clear hK K
                  injection h with h
                  subst h
                  refine AW_le (Le_can (lt := [(2, .bool false)]) (lr := []) (b' := 64) [] [] hρ (by kernel_rfl) ?_ ?_) (AW_ret (end_q [] (.inr rfl) (by kernel_rfl) (by kernel_rfl) ?_))
                  · simp only [AL, EV, seval, h10, h14, h15]
                  · simp only [AL, EV, seval, h10, h14, h15]
                  · simp only [EV, Try.results13, seval]
                · refine AW_skip (show AW _ _ _ _ _ from ?_)
                  refine AW_rs (BR := BR) FM (by rw [hN]; kernel_rfl) (by kernel_rfl) ?_
                  intro K hK
                  obtain ⟨x19, h17, h⟩ := bO_inv h
                  simp only [EV, seval, h10, h14, h15]
                  refine rC_p (l_toGateS_ok h17) (by simp only [AL, EV, seval, h10, h14, h15]) (le_d rfl) (site_1 (by simp only [EV, seval])) ?_
                  obtain ⟨x20, h18, h⟩ := bO_inv h
                  simp only [EV, seval, h10, h14, h15]
                  refine rC_l (i_ComputeNormalForm_ok h18) (by simp only [AL, EV, seval, h10, h14, h15]) (by simp only [AL, EF, and_self]) (le_d rfl) (site_2 (by simp only [EV, seval])) ?_
                  simp only [EV, seval, h10, h14, h15]
                  refine hK _ _ _ ?_
                  clear hK K
                  refine AW_seq ?_
                  refine AW_rsJ (BR := BR) (fun S => ∃ (v3 : Bool), S = ⟨mkT [(7, .ptr 32 0), (10, .int .i64 x17.1), (87, .bool v3)], mkR [(32, .box 72 [.own 33 x17.2.1.length, .int .i64 x5.1, .own 34 x17.2.2.length]), (33, .row 3 1 (encL EI x17.2.1)), (34, .row 113 4 (encL EIIII x17.2.2))], 64⟩ ∧ l_FnExactComputeNormalForm_j3 x5 x17 v3 = some r) FM (by rw [hN]; kernel_rfl) (by kernel_rfl) ?_ ?_
                  · intro K hK
                    obtain ⟨x21, h19, h⟩ := bO_inv h
                    simp only [EV, seval, h10, h14, h15]
                    refine rC_l (l_eqNormalForm_ok h19) (by simp only [AL, EV, seval, h10, h14, h15]) (by simp only [AL, EF, and_self]) (le_d rfl) (no_j rfl) ?_
                    obtain ⟨x22, hv6, h⟩ := bO_inv h
                    rcases br_inv hv6 with ⟨hc11, hv6⟩ | ⟨hc11, hv6⟩
                    · cases hv6
                      simp only [EV, seval, hc11, h10, h14, h15]
                      refine hK _ _ _ (show cutK _ _ _ from cutL ⟨_, rfl, h⟩ (Le_can [(32, some 33), (33, some 36), (34, some 37)] [] hρ (by kernel_rfl) ?_ ?_))
                      · simp only [AL, EV, seval, hc11, h10, h14, h15]
                      · simp only [AL, EV, seval, hc11, h10, h14, h15]
                    · cases hv6
                      simp only [EV, seval, hc11, h10, h14, h15]
                      refine hK _ _ _ (show cutK _ _ _ from cutL ⟨_, rfl, h⟩ (Le_can [(32, some 33), (33, some 36), (34, some 37)] [] hρ (by kernel_rfl) ?_ ?_))
                      · simp only [AL, EV, seval, hc11, h10, h14, h15]
                      · simp only [AL, EV, seval, hc11, h10, h14, h15]
                  · rintro S ⟨v3, rfl, h⟩
                    unfold l_FnExactComputeNormalForm_j3 at h
                    refine AW_condK (a := .bool v3) (by simp only [EV, seval, h10, h14, h15]) (brK h (fun hc12 h => ?_) (fun hc12 h => ?_))
                    · refine AW_rs (BR := BR) FM (by rw [hN]; kernel_rfl) (by kernel_rfl) ?_
                      intro K hK
                      simp only [EV, seval, h10, h14, h15]
                      refine hK _ _ _ ?_
                      clear hK K
                      injection h with h
                      subst h
                      refine AW_le (Le_can (lt := [(2, .bool false)]) (lr := []) (b' := 64) [] [] hρ (by kernel_rfl) ?_ ?_) (AW_ret (end_q [] (.inr rfl) (by kernel_rfl) (by kernel_rfl) ?_))
                      · simp only [AL, EV, seval, h10, h14, h15]
                      · simp only [AL, EV, seval, h10, h14, h15]
                      · simp only [EV, Try.results13, seval]
                    · refine AW_skip (show AW _ _ _ _ _ from ?_)
                      refine AW_rs (BR := BR) FM (by rw [hN]; kernel_rfl) (by kernel_rfl) ?_
                      intro K hK
                      simp only [EV, seval, h10, h14, h15]
                      refine hK _ _ _ ?_
                      clear hK K
                      refine AW_rs (BR := BR) FM (by rw [hN]; kernel_rfl) (by kernel_rfl) ?_
                      intro K hK
                      obtain ⟨x23, h20, h⟩ := bO_inv h
                      simp only [EV, seval, h10, h14, h15]
                      refine rC_l (l_heldNormalForm_ok h20) (by simp only [AL, EV, seval, h10, h14, h15]) (by simp only [AL, EF, and_self]) (le_d rfl) (no_j rfl) ?_
                      simp only [EV, seval, h10, h14, h15]
                      refine hK _ _ _ ?_
                      clear hK K
                      refine AW_seq ?_
                      refine AW_rs (BR := BR) FM (by rw [hN]; kernel_rfl) (by kernel_rfl) ?_
                      intro K hK
                      simp only [EV, seval, h10, h14, h15]
                      refine hK _ _ _ ?_
                      clear hK K
                      refine AW_condK (a := .bool (decide (x23 < 0))) (by simp only [EV, seval, h10, h14, h15]) (brK h (fun hc13 h => ?_) (fun hc13 h => ?_))
                      · refine AW_rs (BR := BR) FM (by rw [hN]; kernel_rfl) (by kernel_rfl) ?_
                        intro K hK
                        simp only [EV, seval, h10, h14, h15]
                        refine hK _ _ _ ?_
                        clear hK K
                        injection h with h
                        subst h
                        refine AW_le (Le_can (lt := [(2, .bool false)]) (lr := []) (b' := 64) [] [] hρ (by kernel_rfl) ?_ ?_) (AW_ret (end_q [] (.inr rfl) (by kernel_rfl) (by kernel_rfl) ?_))
                        · simp only [AL, EV, seval, h10, h14, h15]
                        · simp only [AL, EV, seval, h10, h14, h15]
                        · simp only [EV, Try.results13, seval]
                      · refine AW_skip (show AW _ _ _ _ _ from ?_)
                        refine AW_seq ?_
                        refine AW_rs (BR := BR) FM (by rw [hN]; kernel_rfl) (by kernel_rfl) ?_
                        intro K hK
                        simp only [EV, seval, h10, h14, h15]
                        refine hK _ _ _ ?_
                        clear hK K
                        refine AW_condK (a := .bool (x23 != x17.1)) (by simp only [EV, seval, h10, h14, h15]) (brK h (fun hc14 h => ?_) (fun hc14 h => ?_))
                        · refine AW_rs (BR := BR) FM (by rw [hN]; kernel_rfl) (by kernel_rfl) ?_
                          intro K hK
                          simp only [EV, seval, h10, h14, h15]
                          refine hK _ _ _ ?_
                          clear hK K
                          injection h with h
                          subst h
                          refine AW_le (Le_can (lt := [(2, .bool false)]) (lr := []) (b' := 64) [] [] hρ (by kernel_rfl) ?_ ?_) (AW_ret (end_q [] (.inr rfl) (by kernel_rfl) (by kernel_rfl) ?_))
                          · simp only [AL, EV, seval, h10, h14, h15]
                          · simp only [AL, EV, seval, h10, h14, h15]
                          · simp only [EV, Try.results13, seval]
                        · refine AW_skip (show AW _ _ _ _ _ from ?_)
                          refine AW_rs (BR := BR) FM (by rw [hN]; kernel_rfl) (by kernel_rfl) ?_
                          intro K hK
                          simp only [EV, seval, h10, h14, h15]
                          refine hK _ _ _ ?_
                          clear hK K
                          injection h with h
                          subst h
                          refine AW_le (Le_can (lt := [(2, .bool true)]) (lr := []) (b' := 64) [] [] hρ (by kernel_rfl) ?_ ?_) (AW_ret (end_q [] (.inr rfl) (by kernel_rfl) (by kernel_rfl) ?_))
                          · simp only [AL, EV, seval, h10, h14, h15]
                          · simp only [AL, EV, seval, h10, h14, h15]
                          · simp only [EV, Try.results13, seval]
end Go.Proofs.Ytcclapenpaediaa
