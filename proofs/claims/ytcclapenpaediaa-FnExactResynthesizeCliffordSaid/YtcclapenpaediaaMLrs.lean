/- Models of functions, and that the functions do what the models say; printed by a program. -/
import Derived.Test.YtcclapenpaediaaGn
import Derived.Test.YtcclapenpaediaaMq
import Derived.Test.YtcclapenpaediaaMd
import Derived.Test.YtcclapenpaediaaMr
namespace Go.Proofs.Ytcclapenpaediaa
open Go.RowKit
set_option maxRecDepth 100000
set_option linter.unusedVariables false
set_option linter.unusedSimpArgs false
set_option linter.defProp false
/- laws.heldCircuit -/
def l_heldCircuit (a1 : Int) (a2 : LQ) (a3 : Int) : Option Int :=
  bO (l_heldGateS a2 a3) fun x1 => br (decide (x1 < 0)) (some (-1)) (some x1)
set_option maxHeartbeats 4000000 in
theorem l_heldCircuit_ok {a1 : Int} {a2 : LQ} {a3 : Int} {r : Int} (h : l_heldCircuit a1 a2 a3 = some r) :
    Spec Try.prog 51 [.agg [.int .i64 a1, .sl (encL EIIII a2) a2.length], .int .i64 a3] [] (.int .i64 r) [] := by
  unfold l_heldCircuit at h
  refine spec_of Try.func51 rfl (by kernel_rfl) (by simp only [Try.ntmps51, List.length_cons, List.length_nil, Nat.reduceAdd, Nat.reduceLeDiff]) ?_
  intro C hN hρ
  rw [Try.ntmps51] at hN
  unfold st0
  simp only [tmps0, Nat.zero_add, Nat.reduceAdd]
  refine AW_rs (BR := BR) FM (by rw [hN]; kernel_rfl) (by kernel_rfl) ?_
  intro K hK
  simp only [EV, seval]
  refine hK _ _ _ ?_
  clear hK K
  refine AW_rs (BR := BR) FM (by rw [hN]; kernel_rfl) (by kernel_rfl) ?_
  intro K hK
  obtain ⟨x1, h1, h⟩ := bO_inv h
  simp only [EV, seval]
  refine rC_p (l_heldGateS_ok h1) (by simp only [AL, EV, seval]) (le_d rfl) (no_j rfl) ?_
  simp only [EV, seval]
  refine hK _ _ _ ?_
  clear hK K
  refine AW_seq ?_
  refine AW_rs (BR := BR) FM (by rw [hN]; kernel_rfl) (by kernel_rfl) ?_
  intro K hK
  simp only [EV, seval]
  refine hK _ _ _ ?_
  clear hK K
  refine AW_condK (a := .bool (decide (x1 < 0))) (by simp only [EV, seval]) (brK h (fun hc1 h => ?_) (fun hc1 h => ?_))
  · refine AW_rs (BR := BR) FM (by rw [hN]; kernel_rfl) (by kernel_rfl) ?_
    intro K hK
    simp only [EV, seval]
    refine hK _ _ _ ?_
    clear hK K
    injection h with h
    subst h
    refine AW_le (Le_can (lt := [(4, .int .i64 (-1))]) (lr := []) (b' := 64) [] [] hρ (by kernel_rfl) ?_ ?_) (AW_ret (end_q [] (.inr rfl) (by kernel_rfl) (by kernel_rfl) ?_))
    · simp only [AL, EV, seval]
    · simp only [AL, EV, seval]
    · simp only [EV, Try.results51, seval]
  · refine AW_skip (show AW _ _ _ _ _ from ?_)
    refine AW_rs (BR := BR) FM (by rw [hN]; kernel_rfl) (by kernel_rfl) ?_
    intro K hK
    simp only [EV, seval]
    refine hK _ _ _ ?_
    clear hK K
    injection h with h
    subst h
    refine AW_le (Le_can (lt := [(4, .int .i64 x1)]) (lr := []) (b' := 64) [] [] hρ (by kernel_rfl) ?_ ?_) (AW_ret (end_q [] (.inr rfl) (by kernel_rfl) (by kernel_rfl) ?_))
    · simp only [AL, EV, seval]
    · simp only [AL, EV, seval]
    · simp only [EV, Try.results51, seval]
/- laws.FnExactResynthesizeClifford -/
def l_FnExactResynthesizeClifford_j3 (x5 : Int × LQ × Bool) (x17 : Int × LQ) (v3 : Bool) : Option Bool :=
  br v3 (some false) (bO (l_heldCircuit x5.1 x17.2 1) fun x23 => br (decide (x23 < 0)) (some false) (br (x23 != x17.1) (some false) (some true)))
def l_FnExactResynthesizeClifford_j2 (a1 : Int) (a2 : LQ) (x3 : Int × LQ × Bool) (x5 : Int × LQ × Bool) (v2 : Bool) : Option Bool :=
  br v2 (some false) (bO (l_markCircuit x5.1 x5.2.1 1) fun x17 => gd (decide (x17.2.length = x5.2.1.length)) (bO (l_heldCircuit x5.1 x17.2 1) fun x18 => br (decide (x18 < 0)) (some false) (br (x18 != x17.1) (some false) (bO (l_toCircuit a1 a2) fun x19 => bO (i_ResynthesizeClifford x19.1 x19.2) fun x20 => bO (l_eqCircuit x20.1 x20.2.1 x3.1 x3.2.1) fun x21 => bO (br (!x21) (some true) (some (x20.2.2 != x3.2.2))) fun x22 => l_FnExactResynthesizeClifford_j3 x5 x17 x22))))
def l_FnExactResynthesizeClifford_j1 (a1 : Int) (a2 : LQ) (x3 : Int × LQ × Bool) (x4 : Int × LQ) (x5 : Int × LQ × Bool) (v1 : Bool) : Option Bool :=
  br v1 (some false) (bO (l_toCircuit a1 a2) fun x8 => bO (l_eqCircuit x4.1 x4.2 x8.1 x8.2) fun x9 => br (!x9) (some false) (bO (l_markCircuit x4.1 x4.2 1) fun x10 => gd (decide (x10.2.length = x4.2.length)) (bO (br (decide (x10.1 < 0)) (some true) (bO (l_eqCircuit x5.1 x5.2.1 x3.1 x3.2.1) fun x11 => some (!x11))) fun x12 => bO (br x12 (some true) (some (x5.2.2 != x3.2.2))) fun x13 => l_FnExactResynthesizeClifford_j2 a1 a2 x3 x5 x13)))
def l_FnExactResynthesizeClifford (a1 : Int) (a2 : LQ) : Option Bool :=
  bO (l_szCircuit a1 a2 1048576) fun x1 => br (decide (x1 < 0)) (some true) (bO (l_toCircuit a1 a2) fun x2 => bO (s_ResynthesizeClifford x2.1 x2.2) fun x3 => bO (l_toCircuit a1 a2) fun x4 => bO (i_ResynthesizeClifford x4.1 x4.2) fun x5 => bO (l_eqCircuit x5.1 x5.2.1 x3.1 x3.2.1) fun x6 => bO (br (!x6) (some true) (some (x5.2.2 != x3.2.2))) fun x7 => l_FnExactResynthesizeClifford_j1 a1 a2 x3 x4 x5 x7)
set_option maxHeartbeats 4000000 in
theorem l_FnExactResynthesizeClifford_ok {a1 : Int} {a2 : LQ} {r : Bool} (h : l_FnExactResynthesizeClifford a1 a2 = some r) :
    Spec Try.prog 10 [.agg [.int .i64 a1, .sl (encL EIIII a2) a2.length]] [] (.bool r) [] := by
  unfold l_FnExactResynthesizeClifford at h
  refine spec_of Try.func10 rfl (by kernel_rfl) (by simp only [Try.ntmps10, List.length_cons, List.length_nil, Nat.reduceAdd, Nat.reduceLeDiff]) ?_
  intro C hN hρ
  rw [Try.ntmps10] at hN
  unfold st0
  simp only [tmps0, Nat.zero_add, Nat.reduceAdd]
  refine AW_rs (BR := BR) FM (by rw [hN]; kernel_rfl) (by kernel_rfl) ?_
  intro K hK
  simp only [EV, seval]
  refine hK _ _ _ ?_
  clear hK K
  refine AW_rs (BR := BR) FM (by rw [hN]; kernel_rfl) (by kernel_rfl) ?_
  intro K hK
  simp only [EV, seval]
  refine hK _ _ _ ?_
  clear hK K
  refine AW_rs (BR := BR) FM (by rw [hN]; kernel_rfl) (by kernel_rfl) ?_
  intro K hK
  obtain ⟨x1, h1, h⟩ := bO_inv h
  simp only [EV, seval]
  refine rC_p (l_szCircuit_ok h1) (by simp only [AL, EV, seval]) (le_d rfl) (no_j rfl) ?_
  simp only [EV, seval]
  refine hK _ _ _ ?_
  clear hK K
  refine AW_seq ?_
  refine AW_rs (BR := BR) FM (by rw [hN]; kernel_rfl) (by kernel_rfl) ?_
  intro K hK
  simp only [EV, seval]
  refine hK _ _ _ ?_
  clear hK K
  refine AW_condK (a := .bool (decide (x1 < 0))) (by simp only [EV, seval]) (brK h (fun hc1 h => ?_) (fun hc1 h => ?_))
  · refine AW_rs (BR := BR) FM (by rw [hN]; kernel_rfl) (by kernel_rfl) ?_
    intro K hK
    simp only [EV, seval]
    refine hK _ _ _ ?_
    clear hK K
    injection h with h
    subst h
    refine AW_le (Le_can (lt := [(2, .bool true)]) (lr := []) (b' := 64) [] [] hρ (by kernel_rfl) ?_ ?_) (AW_ret (end_q [] (.inr rfl) (by kernel_rfl) (by kernel_rfl) ?_))
    · simp only [AL, EV, seval]
    · simp only [AL, EV, seval]
    · simp only [EV, Try.results10, seval]
  · refine AW_skip (show AW _ _ _ _ _ from ?_)
    refine AW_rs (BR := BR) FM (by rw [hN]; kernel_rfl) (by kernel_rfl) ?_
    intro K hK
    obtain ⟨x2, h2, h⟩ := bO_inv h
    simp only [EV, seval]
    refine rC_p (l_toCircuit_ok h2) (by simp only [AL, EV, seval]) (le_d rfl) (site_1 (by simp only [EV, seval])) ?_
    obtain ⟨x3, h3, h⟩ := bO_inv h
    simp only [EV, seval]
    refine rC_l (s_ResynthesizeClifford_ok h3) (by simp only [AL, EV, seval]) (by simp only [AL, EF, and_self]) (le_d rfl) (site_1 (by simp only [EV, seval])) ?_
    simp only [EV, seval]
    refine hK _ _ _ ?_
    clear hK K
    refine AW_rs (BR := BR) FM (by rw [hN]; kernel_rfl) (by kernel_rfl) ?_
    intro K hK
    obtain ⟨x4, h4, h⟩ := bO_inv h
    simp only [EV, seval]
    refine rC_p (l_toCircuit_ok h4) (by simp only [AL, EV, seval]) (le_d rfl) (site_1 (by simp only [EV, seval])) ?_
    simp only [EV, seval]
    refine hK _ _ _ ?_
    clear hK K
    refine AW_rs (BR := BR) FM (by rw [hN]; kernel_rfl) (by kernel_rfl) ?_
    intro K hK
    obtain ⟨x5, h5, h⟩ := bO_inv h
    simp only [EV, seval]
    refine rC_l (i_ResynthesizeClifford_ok h5) (by simp only [AL, EV, seval]) (by simp only [AL, EF, and_self]) (le_d rfl) (site_1 (by simp only [EV, seval])) ?_
    simp only [EV, seval]
    refine hK _ _ _ ?_
    clear hK K
    refine AW_seq ?_
    refine AW_rsJ (BR := BR) (fun S => ∃ (v1 : Bool), S = ⟨mkT [(1, .ptr 32 0), (4, .ptr 33 0), (5, .bool x3.2.2), (6, .ptr 34 0), (7, .ptr 35 0), (8, .bool x5.2.2), (40, .bool v1)], mkR [(32, .box 58 [.int .i64 a1, .sl (encL EIIII a2) a2.length]), (33, .box 55 [.int .i64 x3.1, .own 36 x3.2.1.length]), (34, .box 55 [.int .i64 x4.1, .own 37 x4.2.length]), (35, .box 55 [.int .i64 x5.1, .own 38 x5.2.1.length]), (36, .row 49 4 (encL EIIII x3.2.1)), (37, .row 49 4 (encL EIIII x4.2)), (38, .row 49 4 (encL EIIII x5.2.1))], 64⟩ ∧ l_FnExactResynthesizeClifford_j1 a1 a2 x3 x4 x5 v1 = some r) FM (by rw [hN]; kernel_rfl) (by kernel_rfl) ?_ ?_
    · intro K hK
      obtain ⟨x6, h6, h⟩ := bO_inv h
      simp only [EV, seval]
      refine rC_l (l_eqCircuit_ok h6) (by simp only [AL, EV, seval]) (by simp only [AL, EF, and_self]) (le_d rfl) (no_j rfl) ?_
      obtain ⟨x7, hv1, h⟩ := bO_inv h
      rcases br_inv hv1 with ⟨hc2, hv1⟩ | ⟨hc2, hv1⟩
      · cases hv1
        simp only [EV, seval, hc2]
        refine hK _ _ _ (show cutK _ _ _ from cutL ⟨_, rfl, h⟩ (Le_can [(32, some 64), (33, some 4256), (34, some 5216), (35, some 6288), (36, some 4192), (37, some 5200), (38, some 6224)] [] hρ (by kernel_rfl) ?_ ?_))
        · simp only [AL, EV, seval, hc2]
        · simp only [AL, EV, seval, hc2]
      · cases hv1
        simp only [EV, seval, hc2]
        refine hK _ _ _ (show cutK _ _ _ from cutL ⟨_, rfl, h⟩ (Le_can [(32, some 64), (33, some 4256), (34, some 5216), (35, some 6288), (36, some 4192), (37, some 5200), (38, some 6224)] [] hρ (by kernel_rfl) ?_ ?_))
        · simp only [AL, EV, seval, hc2]
        · simp only [AL, EV, seval, hc2]
    · rintro S ⟨v1, rfl, h⟩
      unfold l_FnExactResynthesizeClifford_j1 at h
      refine AW_condK (a := .bool v1) (by simp only [EV, seval]) (brK h (fun hc3 h => ?_) (fun hc3 h => ?_))
      · refine AW_rs (BR := BR) FM (by rw [hN]; kernel_rfl) (by kernel_rfl) ?_
        intro K hK
        simp only [EV, seval]
        refine hK _ _ _ ?_
        clear hK K
        injection h with h
        subst h
        refine AW_le (Le_can (lt := [(2, .bool false)]) (lr := []) (b' := 64) [] [] hρ (by kernel_rfl) ?_ ?_) (AW_ret (end_q [] (.inr rfl) (by kernel_rfl) (by kernel_rfl) ?_))
        · simp only [AL, EV, seval]
        · simp only [AL, EV, seval]
        · simp only [EV, Try.results10, seval]
      · refine AW_skip (show AW _ _ _ _ _ from ?_)
        refine AW_seq ?_
        refine AW_rs (BR := BR) FM (by rw [hN]; kernel_rfl) (by kernel_rfl) ?_
        intro K hK
        obtain ⟨x8, h7, h⟩ := bO_inv h
        simp only [EV, seval]
        refine rC_p (l_toCircuit_ok h7) (by simp only [AL, EV, seval]) (le_d rfl) (site_1 (by simp only [EV, seval])) ?_
        obtain ⟨x9, h8, h⟩ := bO_inv h
        simp only [EV, seval]
        refine rC_l (l_eqCircuit_ok h8) (by simp only [AL, EV, seval]) (by simp only [AL, EF, and_self]) (le_d rfl) (no_j rfl) ?_
        simp only [EV, seval]
        refine hK _ _ _ ?_
        clear hK K
        refine AW_condK (a := .bool (!x9)) (by simp only [EV, seval]) (brK h (fun hc4 h => ?_) (fun hc4 h => ?_))
        · refine AW_rs (BR := BR) FM (by rw [hN]; kernel_rfl) (by kernel_rfl) ?_
          intro K hK
          simp only [EV, seval]
          refine hK _ _ _ ?_
          clear hK K
          injection h with h
          subst h
          refine AW_le (Le_can (lt := [(2, .bool false)]) (lr := []) (b' := 64) [] [] hρ (by kernel_rfl) ?_ ?_) (AW_ret (end_q [] (.inr rfl) (by kernel_rfl) (by kernel_rfl) ?_))
          · simp only [AL, EV, seval]
          · simp only [AL, EV, seval]
          · simp only [EV, Try.results10, seval]
        · refine AW_skip (show AW _ _ _ _ _ from ?_)
          refine AW_rs (BR := BR) FM (by rw [hN]; kernel_rfl) (by kernel_rfl) ?_
          intro K hK
          simp only [EV, seval]
          refine hK _ _ _ ?_
          clear hK K
          refine AW_rs (BR := BR) FM (by rw [hN]; kernel_rfl) (by kernel_rfl) ?_
          intro K hK
          obtain ⟨x10, h9, h⟩ := bO_inv h
          simp only [EV, seval]
          obtain ⟨h10, h⟩ := gd_inv h
          replace h10 := of_decide_eq_true h10
          refine rR_p [37] (l_markCircuit_ok h9) (by simp only [AL, EV, seval, h10]) (by simp only [AL, EV, seval, h10]) (by kernel_rfl) (by simp only [EV, solidO, List.mem_cons, List.not_mem_nil, or_false, forall_eq_or_imp, forall_eq, seval]) (le_d rfl) (le_d rfl) (no_j rfl) ?_
          simp only [EV, seval, h10]
          refine hK _ _ _ ?_
          clear hK K
          refine AW_seq ?_
          refine AW_rsJ (BR := BR) (fun S => ∃ (v2 : Bool), S = ⟨mkT [(1, .ptr 32 0), (4, .ptr 33 0), (5, .bool x3.2.2), (7, .ptr 34 0), (61, .bool v2)], mkR [(32, .box 58 [.int .i64 a1, .sl (encL EIIII a2) a2.length]), (33, .box 55 [.int .i64 x3.1, .own 35 x3.2.1.length]), (34, .box 55 [.int .i64 x5.1, .own 36 x5.2.1.length]), (35, .row 49 4 (encL EIIII x3.2.1)), (36, .row 49 4 (encL EIIII x5.2.1))], 64⟩ ∧ l_FnExactResynthesizeClifford_j2 a1 a2 x3 x5 v2 = some r) FM (by rw [hN]; kernel_rfl) (by kernel_rfl) ?_ ?_
          · intro K hK
            obtain ⟨x12, hv2, h⟩ := bO_inv h
            rcases br_inv hv2 with ⟨hc5, hv2⟩ | ⟨hc5, hv2⟩
            · cases hv2
              obtain ⟨x14, hv4, h⟩ := bO_inv h
              replace hv4 := br_t hv4
              cases hv4
              try dsimp only at h
              simp only [EV, seval, hc5, h10]
              refine hK _ _ _ (show cutK _ _ _ from cutL ⟨_, rfl, h⟩ (Le_can [(32, some 32), (33, some 33), (34, some 35), (35, some 36), (36, some 38)] [] hρ (by kernel_rfl) ?_ ?_))
              · simp only [AL, EV, seval, hc5, h10]
              · simp only [AL, EV, seval, hc5, h10]
            · obtain ⟨x15, h12, hv2⟩ := bO_inv hv2
              simp only [EV, seval, hc5, h10]
              refine rC_l (l_eqCircuit_ok h12) (by simp only [AL, EV, seval, hc5, h10]) (by simp only [AL, EF, and_self]) (le_d rfl) (no_j rfl) ?_
              cases hv2
              obtain ⟨x16, hv5, h⟩ := bO_inv h
              rcases br_inv hv5 with ⟨hc7, hv5⟩ | ⟨hc7, hv5⟩
              · cases hv5
                simp only [EV, seval, hc5, hc7, h10]
                refine hK _ _ _ (show cutK _ _ _ from cutL ⟨_, rfl, h⟩ (Le_can [(32, some 32), (33, some 33), (34, some 35), (35, some 36), (36, some 38)] [] hρ (by kernel_rfl) ?_ ?_))
                · simp only [AL, EV, seval, hc5, hc7, h10]
                · simp only [AL, EV, seval, hc5, hc7, h10]
              · cases hv5
                simp only [EV, seval, hc5, hc7, h10]
                refine hK _ _ _ (show cutK _ _ _ from cutL ⟨_, rfl, h⟩ (Le_can [(32, some 32), (33, some 33), (34, some 35), (35, some 36), (36, some 38)] [] hρ (by kernel_rfl) ?_ ?_))
                · simp only [AL, EV, seval, hc5, hc7, h10]
                · simp only [AL, EV, seval, hc5, hc7, h10]
          · rintro S ⟨v2, rfl, h⟩
            unfold l_FnExactResynthesizeClifford_j2 at h
            refine AW_condK (a := .bool v2) (by simp only [EV, seval, h10]) (brK h (fun hc8 h => ?_) (fun hc8 h => ?_))
            · refine AW_rs (BR := BR) FM (by rw [hN]; kernel_rfl) (by kernel_rfl) ?_
              intro K hK
              simp only [EV, seval, h10]
              refine hK _ _ _ ?_
              clear hK K
              injection h with h
              subst h
              refine AW_le (Le_can (lt := [(2, .bool false)]) (lr := []) (b' := 64) [] [] hρ (by kernel_rfl) ?_ ?_) (AW_ret (end_q [] (.inr rfl) (by kernel_rfl) (by kernel_rfl) ?_))
              · simp only [AL, EV, seval, h10]
              · simp only [AL, EV, seval, h10]
              · simp only [EV, Try.results10, seval]
            · refine AW_skip (show AW _ _ _ _ _ from ?_)
              refine AW_rs (BR := BR) FM (by rw [hN]; kernel_rfl) (by kernel_rfl) ?_
              intro K hK
              simp only [EV, seval, h10]
              refine hK _ _ _ ?_
              clear hK K
              refine AW_rs (BR := BR) FM (by rw [hN]; kernel_rfl) (by kernel_rfl) ?_
              intro K hK
              obtain ⟨x17, h13, h⟩ := bO_inv h
              simp only [EV, seval, h10]
              obtain ⟨h14, h⟩ := gd_inv h
              replace h14 := of_decide_eq_true h14
              refine rR_p [36] (l_markCircuit_ok h13) (by simp only [AL, EV, seval, h10, h14]) (by simp only [AL, EV, seval, h10, h14]) (by kernel_rfl) (by simp only [EV, solidO, List.mem_cons, List.not_mem_nil, or_false, forall_eq_or_imp, forall_eq, seval]) (le_d rfl) (le_d rfl) (no_j rfl) ?_
              simp only [EV, seval, h10, h14]
              refine hK _ _ _ ?_
              clear hK K
              refine AW_rs (BR := BR) FM (by rw [hN]; kernel_rfl) (by kernel_rfl) ?_
              intro K hK
              simp only [EV, seval, h10, h14]
              refine hK _ _ _ ?_
              clear hK K
              refine AW_rs (BR := BR) FM (by rw [hN]; kernel_rfl) (by kernel_rfl) ?_
              intro K hK
              obtain ⟨x18, h15, h⟩ := bO_inv h
              simp only [EV, seval, h10, h14]
              refine rC_l (l_heldCircuit_ok h15) (by simp only [AL, EV, seval, h10, h14]) (by simp only [AL, EF, and_self]) (le_d rfl) (no_j rfl) ?_
              simp only [EV, seval, h10, h14]
              refine hK _ _ _ ?_
              clear hK K
              refine AW_seq ?_
              refine AW_rs (BR := BR) FM (by rw [hN]; kernel_rfl) (by kernel_rfl) ?_
              intro K hK
              simp only [EV, seval, h10, h14]
              refine hK _ _ _ ?_
              clear hK K
              refine AW_condK (a := .bool (decide (x18 < 0))) (by simp only [EV, seval, h10, h14]) (brK h (fun hc9 h => ?_) (fun hc9 h => ?_))
              · refine AW_rs (BR := BR) FM (by rw [hN]; kernel_rfl) (by kernel_rfl) ?_
                intro K hK
                simp only [EV, seval, h10, h14]
                refine hK _ _ _ ?_
                clear hK K
                injection h with h
                subst h
                refine AW_le (Le_can (lt := [(2, .bool false)]) (lr := []) (b' := 64) [] [] hρ (by kernel_rfl) ?_ ?_) (AW_ret (end_q [] (.inr rfl) (by kernel_rfl) (by kernel_rfl) ?_))
                · simp only [AL, EV, seval, h10, h14]
                · simp only [AL, EV, seval, h10, h14]
                · simp only [EV, Try.results10, seval]
              · refine AW_skip (show AW _ _ _ _ _ from ?_)
                refine AW_seq ?_
                refine AW_rs (BR := BR) FM (by rw [hN]; kernel_rfl) (by kernel_rfl) ?_
                intro K hK
                simp only [EV, seval, h10, h14]
                refine hK _ _ _ ?_
                clear hK K
                refine AW_condK (a := .bool (x18 != x17.1)) (by simp only [EV, seval, h10, h14]) (brK h (fun hc10 h => ?_) (fun hc10 h => ?_))
                · refine AW_rs (BR := BR) FM (by rw [hN]; kernel_rfl) (by kernel_rfl) ?_
                  intro K hK
                  simp only [EV, seval, h10, h14]
                  refine hK _ _ _ ?_
                  clear hK K
                  injection h with h
                  subst h
                  refine AW_le (Le_can (lt := [(2, .bool false)]) (lr := []) (b' := 64) [] [] hρ (by kernel_rfl) ?_ ?_) (AW_ret (end_q [] (.inr rfl) (by kernel_rfl) (by kernel_rfl) ?_))
                  · simp only [AL, EV, seval, h10, h14]
                  · simp only [AL, EV, seval, h10, h14]
                  · simp only [EV, Try.results10, seval]
                · refine AW_skip (show AW _ _ _ _ _ from ?_)
                  refine AW_rs (BR := BR) FM (by rw [hN]; kernel_rfl) (by kernel_rfl) ?_
                  intro K hK
                  obtain ⟨x19, h16, h⟩ := bO_inv h
                  simp only [EV, seval, h10, h14]
                  refine rC_p (l_toCircuit_ok h16) (by simp only [AL, EV, seval, h10, h14]) (le_d rfl) (site_1 (by simp only [EV, seval])) ?_
                  obtain ⟨x20, h17, h⟩ := bO_inv h
                  simp only [EV, seval, h10, h14]
                  refine rC_l (i_ResynthesizeClifford_ok h17) (by simp only [AL, EV, seval, h10, h14]) (by simp only [AL, EF, and_self]) (le_d rfl) (site_1 (by simp only [EV, seval])) ?_
                  simp only [EV, seval, h10, h14]
                  refine hK _ _ _ ?_
                  clear hK K
                  refine AW_seq ?_
                  refine AW_rsJ (BR := BR) (fun S => ∃ (v3 : Bool), S = ⟨mkT [(7, .ptr 32 0), (10, .int .i64 x17.1), (87, .bool v3)], mkR [(32, .box 55 [.int .i64 x5.1, .own 33 x17.2.length]), (33, .row 49 4 (encL EIIII x17.2))], 64⟩ ∧ l_FnExactResynthesizeClifford_j3 x5 x17 v3 = some r) FM (by rw [hN]; kernel_rfl) (by kernel_rfl) ?_ ?_
                  · intro K hK
                    obtain ⟨x21, h18, h⟩ := bO_inv h
                    simp only [EV, seval, h10, h14]
                    refine rC_l (l_eqCircuit_ok h18) (by simp only [AL, EV, seval, h10, h14]) (by simp only [AL, EF, and_self]) (le_d rfl) (no_j rfl) ?_
                    obtain ⟨x22, hv6, h⟩ := bO_inv h
                    rcases br_inv hv6 with ⟨hc11, hv6⟩ | ⟨hc11, hv6⟩
                    · cases hv6
                      simp only [EV, seval, hc11, h10, h14]
                      refine hK _ _ _ (show cutK _ _ _ from cutL ⟨_, rfl, h⟩ (Le_can [(32, some 34), (33, some 36)] [] hρ (by kernel_rfl) ?_ ?_))
                      · simp only [AL, EV, seval, hc11, h10, h14]
                      · simp only [AL, EV, seval, hc11, h10, h14]
                    · cases hv6
                      simp only [EV, seval, hc11, h10, h14]
                      refine hK _ _ _ (show cutK _ _ _ from cutL ⟨_, rfl, h⟩ (Le_can [(32, some 34), (33, some 36)] [] hρ (by kernel_rfl) ?_ ?_))
                      · simp only [AL, EV, seval, hc11, h10, h14]
                      · simp only [AL, EV, seval, hc11, h10, h14]
                  · rintro S ⟨v3, rfl, h⟩
                    unfold l_FnExactResynthesizeClifford_j3 at h
                    refine AW_condK (a := .bool v3) (by simp only [EV, seval, h10, h14]) (brK h (fun hc12 h => ?_) (fun hc12 h => ?_))
                    · refine AW_rs (BR := BR) FM (by rw [hN]; kernel_rfl) (by kernel_rfl) ?_
                      intro K hK
                      simp only [EV, seval, h10, h14]
                      refine hK _ _ _ ?_
                      clear hK K
                      injection h with h
                      subst h
                      refine AW_le (Le_can (lt := [(2, .bool false)]) (lr := []) (b' := 64) [] [] hρ (by kernel_rfl) ?_ ?_) (AW_ret (end_q [] (.inr rfl) (by kernel_rfl) (by kernel_rfl) ?_))
                      · simp only [AL, EV, seval, h10, h14]
                      · simp only [AL, EV, seval, h10, h14]
                      · simp only [EV, Try.results10, seval]
                    · refine AW_skip (show AW _ _ _ _ _ from ?_)
                      refine AW_rs (BR := BR) FM (by rw [hN]; kernel_rfl) (by kernel_rfl) ?_
                      intro K hK
                      simp only [EV, seval, h10, h14]
                      refine hK _ _ _ ?_
                      clear hK K
                      refine AW_rs (BR := BR) FM (by rw [hN]; kernel_rfl) (by kernel_rfl) ?_
                      intro K hK
                      obtain ⟨x23, h19, h⟩ := bO_inv h
                      simp only [EV, seval, h10, h14]
                      refine rC_l (l_heldCircuit_ok h19) (by simp only [AL, EV, seval, h10, h14]) (by simp only [AL, EF, and_self]) (le_d rfl) (no_j rfl) ?_
                      simp only [EV, seval, h10, h14]
                      refine hK _ _ _ ?_
                      clear hK K
                      refine AW_seq ?_
                      refine AW_rs (BR := BR) FM (by rw [hN]; kernel_rfl) (by kernel_rfl) ?_
                      intro K hK
                      simp only [EV, seval, h10, h14]
                      refine hK _ _ _ ?_
                      clear hK K
                      refine AW_condK (a := .bool (decide (x23 < 0))) (by simp only [EV, seval, h10, h14]) (brK h (fun hc13 h => ?_) (fun hc13 h => ?_))
                      · refine AW_rs (BR := BR) FM (by rw [hN]; kernel_rfl) (by kernel_rfl) ?_
                        intro K hK
                        simp only [EV, seval, h10, h14]
                        refine hK _ _ _ ?_
                        clear hK K
                        injection h with h
                        subst h
                        refine AW_le (Le_can (lt := [(2, .bool false)]) (lr := []) (b' := 64) [] [] hρ (by kernel_rfl) ?_ ?_) (AW_ret (end_q [] (.inr rfl) (by kernel_rfl) (by kernel_rfl) ?_))
                        · simp only [AL, EV, seval, h10, h14]
                        · simp only [AL, EV, seval, h10, h14]
                        · simp only [EV, Try.results10, seval]
                      · refine AW_skip (show AW _ _ _ _ _ from ?_)
                        refine AW_seq ?_
                        refine AW_rs (BR := BR) FM (by rw [hN]; kernel_rfl) (by kernel_rfl) ?_
                        intro K hK
                        simp only [EV, seval, h10, h14]
                        refine hK _ _ _ ?_
                        clear hK K
                        refine AW_condK (a := .bool (x23 != x17.1)) (by simp only [EV, seval, h10, h14]) (brK h (fun hc14 h => ?_) (fun hc14 h => ?_))
                        · refine AW_rs (BR := BR) FM (by rw [hN]; kernel_rfl) (by kernel_rfl) ?_
                          intro K hK
                          simp only [EV, seval, h10, h14]
                          refine hK _ _ _ ?_
                          clear hK K
                          injection h with h
                          subst h
                          refine AW_le (Le_can (lt := [(2, .bool false)]) (lr := []) (b' := 64) [] [] hρ (by kernel_rfl) ?_ ?_) (AW_ret (end_q [] (.inr rfl) (by kernel_rfl) (by kernel_rfl) ?_))
                          · simp only [AL, EV, seval, h10, h14]
                          · simp only [AL, EV, seval, h10, h14]
                          · simp only [EV, Try.results10, seval]
                        · refine AW_skip (show AW _ _ _ _ _ from ?_)
                          refine AW_rs (BR := BR) FM (by rw [hN]; kernel_rfl) (by kernel_rfl) ?_
                          intro K hK
                          simp only [EV, seval, h10, h14]
                          refine hK _ _ _ ?_
                          clear hK K
                          injection h with h
                          subst h
                          refine AW_le (Le_can (lt := [(2, .bool true)]) (lr := []) (b' := 64) [] [] hρ (by kernel_rfl) ?_ ?_) (AW_ret (end_q [] (.inr rfl) (by kernel_rfl) (by kernel_rfl) ?_))
                          · simp only [AL, EV, seval, h10, h14]
                          · simp only [AL, EV, seval, h10, h14]
                          · simp only [EV, Try.results10, seval]
end Go.Proofs.Ytcclapenpaediaa
