/- Models of functions, and that the functions do what the models say; printed by a program. -/
import Derived.Test.YtfpfalknddfejaaGn
import Derived.Test.YtfpfalknddfejaaMk
import Derived.Test.YtfpfalknddfejaaMkt
import Derived.Test.YtfpfalknddfejaaMu
import Derived.Test.YtfpfalknddfejaaMh
import Derived.Test.YtfpfalknddfejaaMb
namespace Go.Proofs.Ytfpfalknddfejaa
open Go.RowKit
set_option maxRecDepth 100000
set_option linter.unusedVariables false
set_option linter.unusedSimpArgs false
set_option linter.defProp false
/- spec.DrawTableauApplyGate -/
def s_DrawTableauApplyGate (a1 : List Int) : Option (Int × List (Int × Int × Int × Int) × Int × Int × Int × Int) :=
  bO (s_l1New a1) fun x1 => bO (s_l26Bent x1.1 x1.2.1 x1.2.2) fun x2 => bO (s_l1Min 4 x2.1) fun x3 => bO (s_l1Max 1 x3) fun x4 => bO (s_l1Once x2.2.2.1 x2.2.2.2.1 x2.2.2.2.2 6) fun x5 => br x5.1 (bO (s_l9Bent x5.2.1 x5.2.2.1 x5.2.2.2 x4) fun x6 => some (x2.1, x2.2.1, x6.1, x6.2.1, x6.2.2.1, x6.2.2.2.1)) (bO (s_l25Cliff x5.2.1 x5.2.2.1 x5.2.2.2 x4) fun x7 => some (x2.1, x2.2.1, x7.1, x7.2.1, x7.2.2.1, x7.2.2.2.1))
set_option maxHeartbeats 4000000 in
theorem s_DrawTableauApplyGate_ok {a1 : List Int} {r : Int × List (Int × Int × Int × Int) × Int × Int × Int × Int} (h : s_DrawTableauApplyGate a1 = some r) :
    Spec Try.prog 46 [.sl (encL EB a1) a1.length] [] (.tup [.agg [.int .i64 r.1, .sl (encL EIIII r.2.1) r.2.1.length], .agg [.int .i64 r.2.2.1, .int .i64 r.2.2.2.1, .int .i64 r.2.2.2.2.1, .int .i64 r.2.2.2.2.2]]) [] := by
  unfold s_DrawTableauApplyGate at h
  refine spec_of Try.func46 rfl (by kernel_rfl) (by simp only [Try.ntmps46, List.length_cons, List.length_nil, Nat.reduceAdd, Nat.reduceLeDiff]) ?_
  intro C hN hρ
  rw [Try.ntmps46] at hN
  unfold st0
  simp only [tmps0, Nat.zero_add, Nat.reduceAdd]
  refine AW_rs (BR := BR) FM (by rw [hN]; kernel_rfl) (by kernel_rfl) ?_
  intro K hK
  simp only [AE, TY, EN, seval]
  refine hK _ _ _ ?_
  clear hK K
  refine AW_rs (BR := BR) FM (by rw [hN]; kernel_rfl) (by kernel_rfl) ?_
  intro K hK
  obtain ⟨x1, h1, h⟩ := bO_inv h
  simp only [AE, TY, EN, seval]
  refine rC_p (s_l1New_ok h1) (by simp only [AL, AE, TY, EN, seval]) (by simp only [List.length_cons, List.length_nil, Nat.zero_add, Nat.reduceAdd, Nat.reduceLeDiff, Nat.zero_le]) (site_1 (by simp only [AE, TY, EN, seval])) ?_
  simp only [AE, TY, EN, seval]
  refine hK _ _ _ ?_
  clear hK K
  refine AW_rs (BR := BR) FM (by rw [hN]; kernel_rfl) (by kernel_rfl) ?_
  intro K hK
  obtain ⟨x2, h2, h⟩ := bO_inv h
  simp only [AE, TY, EN, seval]
  refine rR_p [1104] (s_l26Bent_ok h2) (by simp only [AL, AE, TY, EN, seval]) (by simp only [AL, AE, TY, EN, seval]) (by kernel_rfl) (by simp only [AE, TY, EN, solidO, List.mem_cons, List.not_mem_nil, or_false, forall_eq_or_imp, forall_eq, seval]) (by simp only [List.length_cons, List.length_nil, Nat.zero_add, Nat.reduceAdd, Nat.reduceLeDiff, Nat.le_refl]) (by simp only [List.length_cons, List.length_nil, Nat.zero_add, Nat.reduceAdd, Nat.reduceSub, Nat.reduceLeDiff, Nat.sub_self, Nat.zero_le]) (by intro j hj; exact absurd hj (Nat.not_lt_zero _)) ?_
  simp only [AE, TY, EN, seval]
  refine hK _ _ _ ?_
  clear hK K
  refine AW_rs (BR := BR) FM (by rw [hN]; kernel_rfl) (by kernel_rfl) ?_
  intro K hK
  obtain ⟨x3, h3, h⟩ := bO_inv h
  simp only [AE, TY, EN, seval]
  refine rC_p (s_l1Min_ok h3) (by simp only [AL, AE, TY, EN, seval]) (by simp only [List.length_cons, List.length_nil, Nat.zero_add, Nat.reduceAdd, Nat.reduceLeDiff, Nat.zero_le]) (by intro j hj; exact absurd hj (Nat.not_lt_zero _)) ?_
  obtain ⟨x4, h4, h⟩ := bO_inv h
  simp only [AE, TY, EN, seval]
  refine rC_p (s_l1Max_ok h4) (by simp only [AL, AE, TY, EN, seval]) (by simp only [List.length_cons, List.length_nil, Nat.zero_add, Nat.reduceAdd, Nat.reduceLeDiff, Nat.zero_le]) (by intro j hj; exact absurd hj (Nat.not_lt_zero _)) ?_
  simp only [AE, TY, EN, seval]
  refine hK _ _ _ ?_
  clear hK K
  refine AW_seq ?_
  refine AW_rs (BR := BR) FM (by rw [hN]; kernel_rfl) (by kernel_rfl) ?_
  intro K hK
  obtain ⟨x5, h5, h⟩ := bO_inv h
  simp only [AE, TY, EN, seval]
  refine rR_p [1104] (s_l1Once_ok h5) (by simp only [AL, AE, TY, EN, seval]) (by simp only [AL, AE, TY, EN, seval]) (by kernel_rfl) (by simp only [AE, TY, EN, solidO, List.mem_cons, List.not_mem_nil, or_false, forall_eq_or_imp, forall_eq, seval]) (by simp only [List.length_cons, List.length_nil, Nat.zero_add, Nat.reduceAdd, Nat.reduceLeDiff, Nat.le_refl]) (by simp only [List.length_cons, List.length_nil, Nat.zero_add, Nat.reduceAdd, Nat.reduceSub, Nat.reduceLeDiff, Nat.sub_self, Nat.zero_le]) (by intro j hj; exact absurd hj (Nat.not_lt_zero _)) ?_
  simp only [AE, TY, EN, seval]
  refine hK _ _ _ ?_
  clear hK K
  refine AW_condK (a := .bool x5.1) (by simp only [AE, TY, EN, seval]) (brK h (fun hc1 h => ?_) (fun hc1 h => ?_))
  · refine AW_rsT (BR := BR) [(0, [2144]), (3, [1104])] (by kernel_rfl) FM (by rw [hN]; kernel_rfl) (by kernel_rfl) ?_
    intro K hK
    obtain ⟨x6, h6, h⟩ := bO_inv h
    simp only [AE, AT, TY, EN, seval]
    refine rRT_p _ [1104] (s_l9Bent_ok h6) (by simp only [AL, AE, TY, EN, seval]) (by simp only [AL, AE, TY, EN, seval]) (by kernel_rfl) (by simp only [AE, TY, EN, solidO, List.mem_cons, List.not_mem_nil, or_false, forall_eq_or_imp, forall_eq, seval]) (by simp only [List.length_cons, List.length_nil, Nat.zero_add, Nat.reduceAdd, Nat.reduceLeDiff, Nat.le_refl]) (by simp only [List.length_cons, List.length_nil, Nat.zero_add, Nat.reduceAdd, Nat.reduceSub, Nat.reduceLeDiff, Nat.sub_self, Nat.zero_le]) (by intro j hj; exact absurd hj (Nat.not_lt_zero _)) ?_
    simp only [AE, AT, TY, EN, seval]
    refine hK _ _ _ ?_
    clear hK K
    injection h with h
    subst h
    refine AW_le (Le_can (lt := [(2, .ptr 32 0), (3, .ptr 33 0)]) (lr := [(32, .box 33 [.int .i64 x2.1, .sl (encL EIIII x2.2.1) x2.2.1.length]), (33, .box 57 [.int .i64 x6.1, .int .i64 x6.2.1, .int .i64 x6.2.2.1, .int .i64 x6.2.2.2.1])]) (b' := 64) [(32, some 64), (33, some 80)] [] hρ (by kernel_rfl) ?_ ?_) (AW_ret (end_q [] (.inr rfl) (by kernel_rfl) (by kernel_rfl) ?_))
    · simp only [AL, AE, TY, EN, seval]
    · simp only [AL, AE, TY, EN, seval]
    · simp only [AE, TY, EN, Try.results46, seval]
  · refine AW_skip (show AW _ _ _ _ _ from ?_)
    refine AW_rsT (BR := BR) [(0, [2144]), (3, [1104])] (by kernel_rfl) FM (by rw [hN]; kernel_rfl) (by kernel_rfl) ?_
    intro K hK
    obtain ⟨x7, h7, h⟩ := bO_inv h
    simp only [AE, AT, TY, EN, seval]
    refine rRT_p _ [1104] (s_l25Cliff_ok h7) (by simp only [AL, AE, TY, EN, seval]) (by simp only [AL, AE, TY, EN, seval]) (by kernel_rfl) (by simp only [AE, TY, EN, solidO, List.mem_cons, List.not_mem_nil, or_false, forall_eq_or_imp, forall_eq, seval]) (by simp only [List.length_cons, List.length_nil, Nat.zero_add, Nat.reduceAdd, Nat.reduceLeDiff, Nat.le_refl]) (by simp only [List.length_cons, List.length_nil, Nat.zero_add, Nat.reduceAdd, Nat.reduceSub, Nat.reduceLeDiff, Nat.sub_self, Nat.zero_le]) (by intro j hj; exact absurd hj (Nat.not_lt_zero _)) ?_
    simp only [AE, AT, TY, EN, seval]
    refine hK _ _ _ ?_
    clear hK K
    injection h with h
    subst h
    refine AW_le (Le_can (lt := [(2, .ptr 32 0), (3, .ptr 33 0)]) (lr := [(32, .box 33 [.int .i64 x2.1, .sl (encL EIIII x2.2.1) x2.2.1.length]), (33, .box 57 [.int .i64 x7.1, .int .i64 x7.2.1, .int .i64 x7.2.2.1, .int .i64 x7.2.2.2.1])]) (b' := 64) [(32, some 64), (33, some 80)] [] hρ (by kernel_rfl) ?_ ?_) (AW_ret (end_q [] (.inr rfl) (by kernel_rfl) (by kernel_rfl) ?_))
    · simp only [AL, AE, TY, EN, seval]
    · simp only [AL, AE, TY, EN, seval]
    · simp only [AE, TY, EN, Try.results46, seval]
/- laws.FnTabGate -/
def l_FnTabGate_j2 (v2 : Bool) : Option Bool :=
  some v2
def l_FnTabGate_j1 (x2 : Int × List (Int × Int × Int × Int) × Int × Int × Int × Int) (x3 : Int × List (Int × Int × Int × Int) × Bool) (v1 : Bool) : Option Bool :=
  br v1 (some false) (bO (i_InverseGate x2.2.2.1 x2.2.2.2.1 x2.2.2.2.2.1 x2.2.2.2.2.2) fun x8 => bO (i_TableauApplyGate x3.1 x3.2.1 x8.1 x8.2.1 x8.2.2.1 x8.2.2.2) fun x9 => bO (br (!x3.2.2) (some true) (bO (br x9.2.2 (bO (s_EqualTableau x9.1 x9.2.1 x2.1 x2.2.1) fun x10 => some x10) (some false)) fun x11 => bO (br x11 (bO (i_IsValidTableau x3.1 x3.2.1) fun x12 => some x12) (some false)) fun x13 => some x13)) fun x14 => l_FnTabGate_j2 x14)
def l_FnTabGate (a1 : List Int) : Option Bool :=
  bO (l_big a1) fun x1 => br x1 (some true) (bO (s_DrawTableauApplyGate a1) fun x2 => bO (i_TableauApplyGate x2.1 x2.2.1 x2.2.2.1 x2.2.2.2.1 x2.2.2.2.2.1 x2.2.2.2.2.2) fun x3 => bO (s_TableauApplyGate x2.1 x2.2.1 x2.2.2.1 x2.2.2.2.1 x2.2.2.2.2.1 x2.2.2.2.2.2) fun x4 => bO (br (x3.2.2 != x4.2.2) (some true) (bO (s_EqualTableau x3.1 x3.2.1 x4.1 x4.2.1) fun x5 => some (!x5))) fun x6 => l_FnTabGate_j1 x2 x3 x6)
set_option maxHeartbeats 4000000 in
theorem l_FnTabGate_ok {a1 : List Int} {r : Bool} (h : l_FnTabGate a1 = some r) :
    Spec Try.prog 11 [.sl (encL EB a1) a1.length] [] (.bool r) [] := by
  unfold l_FnTabGate at h
  refine spec_of Try.func11 rfl (by kernel_rfl) (by simp only [Try.ntmps11, List.length_cons, List.length_nil, Nat.reduceAdd, Nat.reduceLeDiff]) ?_
  intro C hN hρ
  rw [Try.ntmps11] at hN
  unfold st0
  simp only [tmps0, Nat.zero_add, Nat.reduceAdd]
  refine AW_rs (BR := BR) FM (by rw [hN]; kernel_rfl) (by kernel_rfl) ?_
  intro K hK
  simp only [AE, TY, EN, seval]
  refine hK _ _ _ ?_
  clear hK K
  refine AW_seq ?_
  refine AW_rs (BR := BR) FM (by rw [hN]; kernel_rfl) (by kernel_rfl) ?_
  intro K hK
  obtain ⟨x1, h1, h⟩ := bO_inv h
  simp only [AE, TY, EN, seval]
  refine rC_p (l_big_ok h1) (by simp only [AL, AE, TY, EN, seval]) (by simp only [List.length_cons, List.length_nil, Nat.zero_add, Nat.reduceAdd, Nat.reduceLeDiff, Nat.zero_le]) (by intro j hj; exact absurd hj (Nat.not_lt_zero _)) ?_
  simp only [AE, TY, EN, seval]
  refine hK _ _ _ ?_
  clear hK K
  refine AW_condK (a := .bool x1) (by simp only [AE, TY, EN, seval]) (brK h (fun hc1 h => ?_) (fun hc1 h => ?_))
  · refine AW_rs (BR := BR) FM (by rw [hN]; kernel_rfl) (by kernel_rfl) ?_
    intro K hK
    simp only [AE, TY, EN, seval]
    refine hK _ _ _ ?_
    clear hK K
    injection h with h
    subst h
    refine AW_le (Le_can (lt := [(2, .bool true)]) (lr := []) (b' := 64) [] [] hρ (by kernel_rfl) ?_ ?_) (AW_ret (end_q [] (.inr rfl) (by kernel_rfl) (by kernel_rfl) ?_))
    · simp only [AL, AE, TY, EN, seval]
    · simp only [AL, AE, TY, EN, seval]
    · simp only [AE, TY, EN, Try.results11, seval]
  · refine AW_skip (show AW _ _ _ _ _ from ?_)
    refine AW_rs (BR := BR) FM (by rw [hN]; kernel_rfl) (by kernel_rfl) ?_
    intro K hK
    obtain ⟨x2, h2, h⟩ := bO_inv h
    simp only [AE, TY, EN, seval]
    refine rC_p (s_DrawTableauApplyGate_ok h2) (by simp only [AL, AE, TY, EN, seval]) (by simp only [List.length_cons, List.length_nil, Nat.zero_add, Nat.reduceAdd, Nat.reduceLeDiff, Nat.zero_le]) (by intro j hj; exact absurd hj (Nat.not_lt_zero _)) ?_
    simp only [AE, TY, EN, seval]
    refine hK _ _ _ ?_
    clear hK K
    refine AW_rs (BR := BR) FM (by rw [hN]; kernel_rfl) (by kernel_rfl) ?_
    intro K hK
    obtain ⟨x3, h3, h⟩ := bO_inv h
    simp only [AE, TY, EN, seval]
    refine rC_p (i_TableauApplyGate_ok h3) (by simp only [AL, AE, TY, EN, seval]) (by simp only [List.length_cons, List.length_nil, Nat.zero_add, Nat.reduceAdd, Nat.reduceLeDiff, Nat.zero_le]) (site_1 (by simp only [AE, TY, EN, seval])) ?_
    simp only [AE, TY, EN, seval]
    refine hK _ _ _ ?_
    clear hK K
    refine AW_rs (BR := BR) FM (by rw [hN]; kernel_rfl) (by kernel_rfl) ?_
    intro K hK
    obtain ⟨x4, h4, h⟩ := bO_inv h
    simp only [AE, TY, EN, seval]
    refine rC_p (s_TableauApplyGate_ok h4) (by simp only [AL, AE, TY, EN, seval]) (by simp only [List.length_cons, List.length_nil, Nat.zero_add, Nat.reduceAdd, Nat.reduceLeDiff, Nat.zero_le]) (site_1 (by simp only [AE, TY, EN, seval])) ?_
    simp only [AE, TY, EN, seval]
    refine hK _ _ _ ?_
    clear hK K
    refine AW_seq ?_
    refine AW_rsJ (BR := BR) (fun S => ∃ (v1 : Bool), S = ⟨mkT [(3, .ptr 32 0), (4, .ptr 33 0), (5, .ptr 34 0), (6, .bool x3.2.2), (38, .bool v1)], mkR [(32, .box 33 [.int .i64 x2.1, .sl (encL EIIII x2.2.1) x2.2.1.length]), (33, .box 57 [.int .i64 x2.2.2.1, .int .i64 x2.2.2.2.1, .int .i64 x2.2.2.2.2.1, .int .i64 x2.2.2.2.2.2]), (34, .box 33 [.int .i64 x3.1, .own 35 x3.2.1.length]), (35, .row 28 4 (encL EIIII x3.2.1))], 64⟩ ∧ l_FnTabGate_j1 x2 x3 v1 = some r) FM (by rw [hN]; kernel_rfl) (by kernel_rfl) ?_ ?_
    · intro K hK
      obtain ⟨x6, hv1, h⟩ := bO_inv h
      rcases br_inv hv1 with ⟨hc2, hv1⟩ | ⟨hc2, hv1⟩
      · cases hv1
        simp only [AE, TY, EN, seval, hc2]
        refine hK _ _ _ (show cutK _ _ _ from cutL ⟨_, rfl, h⟩ (Le_can [(32, some 2192), (33, some 2208), (34, some 3232), (35, some 3168)] [] hρ (by kernel_rfl) ?_ ?_))
        · simp only [AL, AE, TY, EN, seval, hc2]
        · simp only [AL, AE, TY, EN, seval, hc2]
      · obtain ⟨x7, h6, hv1⟩ := bO_inv hv1
        simp only [AE, TY, EN, seval, hc2]
        refine rC_l (s_EqualTableau_ok h6) (by simp only [AL, AE, TY, EN, seval, hc2]) (by simp only [AL, EF, and_self]) (by simp only [List.length_cons, List.length_nil, Nat.zero_add, Nat.reduceAdd, Nat.reduceLeDiff, Nat.zero_le]) (by intro j hj; exact absurd hj (Nat.not_lt_zero _)) ?_
        cases hv1
        simp only [AE, TY, EN, seval, hc2]
        refine hK _ _ _ (show cutK _ _ _ from cutL ⟨_, rfl, h⟩ (Le_can [(32, some 2192), (33, some 2208), (34, some 3232), (35, some 3168)] [] hρ (by kernel_rfl) ?_ ?_))
        · simp only [AL, AE, TY, EN, seval, hc2]
        · simp only [AL, AE, TY, EN, seval, hc2]
    · rintro S ⟨v1, rfl, h⟩
      unfold l_FnTabGate_j1 at h
      refine AW_condK (a := .bool v1) (by simp only [AE, TY, EN, seval]) (brK h (fun hc3 h => ?_) (fun hc3 h => ?_))
      · refine AW_rs (BR := BR) FM (by rw [hN]; kernel_rfl) (by kernel_rfl) ?_
        intro K hK
        simp only [AE, TY, EN, seval]
        refine hK _ _ _ ?_
        clear hK K
        injection h with h
        subst h
        refine AW_le (Le_can (lt := [(2, .bool false)]) (lr := []) (b' := 64) [] [] hρ (by kernel_rfl) ?_ ?_) (AW_ret (end_q [] (.inr rfl) (by kernel_rfl) (by kernel_rfl) ?_))
        · simp only [AL, AE, TY, EN, seval]
        · simp only [AL, AE, TY, EN, seval]
        · simp only [AE, TY, EN, Try.results11, seval]
      · refine AW_skip (show AW _ _ _ _ _ from ?_)
        refine AW_rs (BR := BR) FM (by rw [hN]; kernel_rfl) (by kernel_rfl) ?_
        intro K hK
        obtain ⟨x8, h7, h⟩ := bO_inv h
        simp only [AE, TY, EN, seval]
        refine rC_p (i_InverseGate_ok h7) (by simp only [AL, AE, TY, EN, seval]) (by simp only [List.length_cons, List.length_nil, Nat.zero_add, Nat.reduceAdd, Nat.reduceLeDiff, Nat.zero_le]) (by intro j hj; exact absurd hj (Nat.not_lt_zero _)) ?_
        obtain ⟨x9, h8, h⟩ := bO_inv h
        simp only [AE, TY, EN, seval]
        refine rC_l (i_TableauApplyGate_ok h8) (by simp only [AL, AE, TY, EN, seval]) (by simp only [AL, EF, and_self]) (by simp only [List.length_cons, List.length_nil, Nat.zero_add, Nat.reduceAdd, Nat.reduceLeDiff, Nat.zero_le]) (site_1 (by simp only [AE, TY, EN, seval])) ?_
        simp only [AE, TY, EN, seval]
        refine hK _ _ _ ?_
        clear hK K
        refine AW_rsJ (BR := BR) (fun S => ∃ (v2 : Bool), S = ⟨mkT [(2, .bool v2)], mkR [], 64⟩ ∧ l_FnTabGate_j2 v2 = some r) FM (by rw [hN]; kernel_rfl) (by kernel_rfl) ?_ ?_
        · intro K hK
          obtain ⟨x14, hv2, h⟩ := bO_inv h
          rcases br_inv hv2 with ⟨hc4, hv2⟩ | ⟨hc4, hv2⟩
          · cases hv2
            simp only [AE, TY, EN, seval, hc4]
            refine hK _ _ _ (show cutK _ _ _ from cutL ⟨_, rfl, h⟩ (Le_can [] [] hρ (by kernel_rfl) ?_ ?_))
            · simp only [AL, AE, TY, EN, seval, hc4]
            · simp only [AL, AE, TY, EN, seval, hc4]
          · obtain ⟨x16, hv5, hv2⟩ := bO_inv hv2
            rcases br_inv hv5 with ⟨hc7, hv5⟩ | ⟨hc7, hv5⟩
            · obtain ⟨x19, h13, hv5⟩ := bO_inv hv5
              simp only [AE, TY, EN, seval, hc4, hc7]
              refine rC_l (s_EqualTableau_ok h13) (by simp only [AL, AE, TY, EN, seval, hc4, hc7]) (by simp only [AL, EF, and_self]) (by simp only [List.length_cons, List.length_nil, Nat.zero_add, Nat.reduceAdd, Nat.reduceLeDiff, Nat.zero_le]) (by intro j hj; exact absurd hj (Nat.not_lt_zero _)) ?_
              cases hv5
              obtain ⟨x21, hv7, hv2⟩ := bO_inv hv2
              rcases br_inv hv7 with ⟨hc9, hv7⟩ | ⟨hc9, hv7⟩
              · obtain ⟨x22, h15, hv7⟩ := bO_inv hv7
                simp only [AE, TY, EN, seval, hc4, hc7, hc9]
                refine rC_l (i_IsValidTableau_ok h15) (by simp only [AL, AE, TY, EN, seval, hc4, hc7, hc9]) (by simp only [AL, EF, and_self]) (by simp only [List.length_cons, List.length_nil, Nat.zero_add, Nat.reduceAdd, Nat.reduceLeDiff, Nat.zero_le]) (by intro j hj; exact absurd hj (Nat.not_lt_zero _)) ?_
                cases hv7
                cases hv2
                simp only [AE, TY, EN, seval, hc4, hc7, hc9]
                refine hK _ _ _ (show cutK _ _ _ from cutL ⟨_, rfl, h⟩ (Le_can [] [] hρ (by kernel_rfl) ?_ ?_))
                · simp only [AL, AE, TY, EN, seval, hc4, hc7, hc9]
                · simp only [AL, AE, TY, EN, seval, hc4, hc7, hc9]
              · cases hv7
                cases hv2
                simp only [AE, TY, EN, seval, hc4, hc7, hc9]
                refine hK _ _ _ (show cutK _ _ _ from cutL ⟨_, rfl, h⟩ (Le_can [] [] hρ (by kernel_rfl) ?_ ?_))
                · simp only [AL, AE, TY, EN, seval, hc4, hc7, hc9]
                · simp only [AL, AE, TY, EN, seval, hc4, hc7, hc9]
            · cases hv5
              obtain ⟨x23, hv8, hv2⟩ := bO_inv hv2
              replace hv8 := br_f hv8
              cases hv8
              try dsimp only at hv2
              cases hv2
              simp only [AE, TY, EN, seval, hc4, hc7]
              refine hK _ _ _ (show cutK _ _ _ from cutL ⟨_, rfl, h⟩ (Le_can [] [] hρ (by kernel_rfl) ?_ ?_))
              · simp only [AL, AE, TY, EN, seval, hc4, hc7]
              · simp only [AL, AE, TY, EN, seval, hc4, hc7]
        · rintro S ⟨v2, rfl, h⟩
          unfold l_FnTabGate_j2 at h
          injection h with h
          subst h
          refine AW_le (Le_can (lt := [(2, .bool v2)]) (lr := []) (b' := 64) [] [] hρ (by kernel_rfl) ?_ ?_) (AW_ret (end_q [] (.inr rfl) (by kernel_rfl) (by kernel_rfl) ?_))
          · simp only [AL, AE, TY, EN, seval]
          · simp only [AL, AE, TY, EN, seval]
          · simp only [AE, TY, EN, Try.results11, seval]
end Go.Proofs.Ytfpfalknddfejaa
