/- Models of functions, and that the functions do what the models say; printed by a program. -/
import Derived.Test.YtfpfalknddfejaaGn
import Derived.Test.YtfpfalknddfejaaMk
import Derived.Test.YtfpfalknddfejaaMkt
import Derived.Test.YtfpfalknddfejaaMa
import Derived.Test.YtfpfalknddfejaaMu
import Derived.Test.YtfpfalknddfejaaMc
namespace Go.Proofs.Ytfpfalknddfejaa
open Go.RowKit
set_option maxRecDepth 100000
set_option linter.unusedVariables false
set_option linter.unusedSimpArgs false
set_option linter.defProp false
/- spec.DrawConjugateByTableau -/
def s_DrawConjugateByTableau_j1 (x2 : Int × List (Int × Int × Int × Int) × List Int × Int × Int) (v1 : Bool) (v2 : List Int) (v3 : Int) (v4 : Int) : Option (Int × List (Int × Int × Int × Int) × Int × Int × Int × Int) :=
  br v1 (bO (s_l25Pauli v2 v3 v4 x2.1) fun x7 => some (x2.1, x2.2.1, x7.1, x7.2.1, x7.2.2.1, x7.2.2.2.1)) (bO (s_l25Bent v2 v3 v4) fun x8 => some (x2.1, x2.2.1, x8.1, x8.2.1, x8.2.2.1, x8.2.2.2.1))
def s_DrawConjugateByTableau (a1 : List Int) : Option (Int × List (Int × Int × Int × Int) × Int × Int × Int × Int) :=
  bO (s_l1New a1) fun x1 => bO (s_l26Bent x1.1 x1.2.1 x1.2.2) fun x2 => bO (s_l1In x2.1 1 4) fun x3 => bO (br x3 (bO (s_l1Once x2.2.2.1 x2.2.2.2.1 x2.2.2.2.2 8) fun x4 => some (!x4.1, x4.2.1, x4.2.2.1, x4.2.2.2)) (some (false, x2.2.2.1, x2.2.2.2.1, x2.2.2.2.2))) fun x5 => s_DrawConjugateByTableau_j1 x2 x5.1 x5.2.1 x5.2.2.1 x5.2.2.2
set_option maxHeartbeats 4000000 in
theorem s_DrawConjugateByTableau_ok {a1 : List Int} {r : Int × List (Int × Int × Int × Int) × Int × Int × Int × Int} (h : s_DrawConjugateByTableau a1 = some r) :
    Spec Try.prog 44 [.sl (encL EB a1) a1.length] [] (.tup [.agg [.int .i64 r.1, .sl (encL EIIII r.2.1) r.2.1.length], .agg [.int .i64 r.2.2.1, .int .i64 r.2.2.2.1, .int .i64 r.2.2.2.2.1, .int .i64 r.2.2.2.2.2]]) [] := by
  unfold s_DrawConjugateByTableau at h
  refine spec_of Try.func44 rfl (by kernel_rfl) (by simp only [Try.ntmps44, List.length_cons, List.length_nil, Nat.reduceAdd, Nat.reduceLeDiff]) ?_
  intro C hN hρ
  rw [Try.ntmps44] at hN
  unfold st0
  simp only [tmps0, Nat.zero_add, Nat.reduceAdd]
  refine AW_rs (BR := BR) FM (by rw [hN]; kernel_rfl) (by kernel_rfl) ?_
  intro K hK
  simp only [AE, TY, EN, seval]
  refine hK _ _ _ ?_
  clear hK K
  refine AW_rs (BR := BR) FM (by rw [hN]; kernel_rfl) (by kernel_rfl) ?_
  intro K hK
  obtain ⟨x1, h1, h⟩ := bO_inv h
  simp only [AE, TY, EN, seval]
  refine rC_p (s_l1New_ok h1) (by simp only [AL, AE, TY, EN, seval]) (by simp only [List.length_cons, List.length_nil, Nat.zero_add, Nat.reduceAdd, Nat.reduceLeDiff, Nat.zero_le]) (site_1 (by simp only [AE, TY, EN, seval])) ?_
  simp only [AE, TY, EN, seval]
  refine hK _ _ _ ?_
  clear hK K
  refine AW_rs (BR := BR) FM (by rw [hN]; kernel_rfl) (by kernel_rfl) ?_
  intro K hK
  obtain ⟨x2, h2, h⟩ := bO_inv h
  simp only [AE, TY, EN, seval]
  refine rR_p [1104] (s_l26Bent_ok h2) (by simp only [AL, AE, TY, EN, seval]) (by simp only [AL, AE, TY, EN, seval]) (by kernel_rfl) (by simp only [AE, TY, EN, solidO, List.mem_cons, List.not_mem_nil, or_false, forall_eq_or_imp, forall_eq, seval]) (by simp only [List.length_cons, List.length_nil, Nat.zero_add, Nat.reduceAdd, Nat.reduceLeDiff, Nat.le_refl]) (by simp only [List.length_cons, List.length_nil, Nat.zero_add, Nat.reduceAdd, Nat.reduceSub, Nat.reduceLeDiff, Nat.sub_self, Nat.zero_le]) (by intro j hj; exact absurd hj (Nat.not_lt_zero _)) ?_
  simp only [AE, TY, EN, seval]
  refine hK _ _ _ ?_
  clear hK K
  refine AW_seq ?_
  refine AW_rsJ (BR := BR) (fun S => ∃ (v1 : Bool) (v2 : List Int) (v3 : Int) (v4 : Int), S = ⟨mkT [(2, .ptr 32 0), (3, .ptr 33 0), (4, .ptr 34 0), (5, .ptr 35 0), (17, .bool v1)], mkR [(32, .box 33 [.int .i64 0, .nil]), (33, .box 28 [.int .i64 0, .int .i64 0, .int .i64 0, .int .i64 0]), (34, .box 137 [.sl (encL EB v2) v2.length, .int .i64 v3, .int .i64 v4]), (35, .box 33 [.int .i64 x2.1, .sl (encL EIIII x2.2.1) x2.2.1.length])], 64⟩ ∧ s_DrawConjugateByTableau_j1 x2 v1 v2 v3 v4 = some r) FM (by rw [hN]; kernel_rfl) (by kernel_rfl) ?_ ?_
  · intro K hK
    obtain ⟨x3, h3, h⟩ := bO_inv h
    simp only [AE, TY, EN, seval]
    refine rC_p (s_l1In_ok h3) (by simp only [AL, AE, TY, EN, seval]) (by simp only [List.length_cons, List.length_nil, Nat.zero_add, Nat.reduceAdd, Nat.reduceLeDiff, Nat.zero_le]) (by intro j hj; exact absurd hj (Nat.not_lt_zero _)) ?_
    obtain ⟨x5, hv1, h⟩ := bO_inv h
    rcases br_inv hv1 with ⟨hc1, hv1⟩ | ⟨hc1, hv1⟩
    · obtain ⟨x6, h5, hv1⟩ := bO_inv hv1
      simp only [AE, TY, EN, seval, hc1]
      refine rR_p [1104] (s_l1Once_ok h5) (by simp only [AL, AE, TY, EN, seval, hc1]) (by simp only [AL, AE, TY, EN, seval, hc1]) (by kernel_rfl) (by simp only [AE, TY, EN, solidO, List.mem_cons, List.not_mem_nil, or_false, forall_eq_or_imp, forall_eq, seval]) (by simp only [List.length_cons, List.length_nil, Nat.zero_add, Nat.reduceAdd, Nat.reduceLeDiff, Nat.le_refl]) (by simp only [List.length_cons, List.length_nil, Nat.zero_add, Nat.reduceAdd, Nat.reduceSub, Nat.reduceLeDiff, Nat.sub_self, Nat.zero_le]) (by intro j hj; exact absurd hj (Nat.not_lt_zero _)) ?_
      cases hv1
      try dsimp only at h
      simp only [AE, TY, EN, seval, hc1]
      refine hK _ _ _ (show cutK _ _ _ from cutL ⟨_, _, _, _, rfl, h⟩ (Le_can [(32, some 64), (33, some 80), (34, some 1104), (35, some 2144)] [] hρ (by kernel_rfl) ?_ ?_))
      · simp only [AL, AE, TY, EN, seval, hc1]
      · simp only [AL, AE, TY, EN, seval, hc1]
    · cases hv1
      try dsimp only at h
      simp only [AE, TY, EN, seval, hc1]
      refine hK _ _ _ (show cutK _ _ _ from cutL ⟨_, _, _, _, rfl, h⟩ (Le_can [(32, some 64), (33, some 80), (34, some 1104), (35, some 2144)] [] hρ (by kernel_rfl) ?_ ?_))
      · simp only [AL, AE, TY, EN, seval, hc1]
      · simp only [AL, AE, TY, EN, seval, hc1]
  · rintro S ⟨v1, v2, v3, v4, rfl, h⟩
    unfold s_DrawConjugateByTableau_j1 at h
    refine AW_condK (a := .bool v1) (by simp only [AE, TY, EN, seval]) (brK h (fun hc2 h => ?_) (fun hc2 h => ?_))
    · refine AW_rsT (BR := BR) [(0, [35]), (4, [34])] (by kernel_rfl) FM (by rw [hN]; kernel_rfl) (by kernel_rfl) ?_
      intro K hK
      obtain ⟨x7, h6, h⟩ := bO_inv h
      simp only [AE, AT, TY, EN, seval]
      refine rRT_p _ [34] (s_l25Pauli_ok h6) (by simp only [AL, AE, TY, EN, seval]) (by simp only [AL, AE, TY, EN, seval]) (by kernel_rfl) (by simp only [AE, TY, EN, solidO, List.mem_cons, List.not_mem_nil, or_false, forall_eq_or_imp, forall_eq, seval]) (by simp only [List.length_cons, List.length_nil, Nat.zero_add, Nat.reduceAdd, Nat.reduceLeDiff, Nat.le_refl]) (by simp only [List.length_cons, List.length_nil, Nat.zero_add, Nat.reduceAdd, Nat.reduceSub, Nat.reduceLeDiff, Nat.sub_self, Nat.zero_le]) (by intro j hj; exact absurd hj (Nat.not_lt_zero _)) ?_
      simp only [AE, AT, TY, EN, seval]
      refine hK _ _ _ ?_
      clear hK K
      injection h with h
      subst h
      refine AW_le (Le_can (lt := [(2, .ptr 32 0), (3, .ptr 33 0)]) (lr := [(32, .box 33 [.int .i64 x2.1, .sl (encL EIIII x2.2.1) x2.2.1.length]), (33, .box 28 [.int .i64 x7.1, .int .i64 x7.2.1, .int .i64 x7.2.2.1, .int .i64 x7.2.2.2.1])]) (b' := 64) [(32, some 32), (33, some 33)] [] hρ (by kernel_rfl) ?_ ?_) (AW_ret (end_q [] (.inr rfl) (by kernel_rfl) (by kernel_rfl) ?_))
      · simp only [AL, AE, TY, EN, seval]
      · simp only [AL, AE, TY, EN, seval]
      · simp only [AE, TY, EN, Try.results44, seval]
    · refine AW_skip (show AW _ _ _ _ _ from ?_)
      refine AW_rsT (BR := BR) [(0, [35]), (2, [34])] (by kernel_rfl) FM (by rw [hN]; kernel_rfl) (by kernel_rfl) ?_
      intro K hK
      obtain ⟨x8, h7, h⟩ := bO_inv h
      simp only [AE, AT, TY, EN, seval]
      refine rRT_p _ [34] (s_l25Bent_ok h7) (by simp only [AL, AE, TY, EN, seval]) (by simp only [AL, AE, TY, EN, seval]) (by kernel_rfl) (by simp only [AE, TY, EN, solidO, List.mem_cons, List.not_mem_nil, or_false, forall_eq_or_imp, forall_eq, seval]) (by simp only [List.length_cons, List.length_nil, Nat.zero_add, Nat.reduceAdd, Nat.reduceLeDiff, Nat.le_refl]) (by simp only [List.length_cons, List.length_nil, Nat.zero_add, Nat.reduceAdd, Nat.reduceSub, Nat.reduceLeDiff, Nat.sub_self, Nat.zero_le]) (by intro j hj; exact absurd hj (Nat.not_lt_zero _)) ?_
      simp only [AE, AT, TY, EN, seval]
      refine hK _ _ _ ?_
      clear hK K
      injection h with h
      subst h
      refine AW_le (Le_can (lt := [(2, .ptr 32 0), (3, .ptr 33 0)]) (lr := [(32, .box 33 [.int .i64 x2.1, .sl (encL EIIII x2.2.1) x2.2.1.length]), (33, .box 28 [.int .i64 x8.1, .int .i64 x8.2.1, .int .i64 x8.2.2.1, .int .i64 x8.2.2.2.1])]) (b' := 64) [(32, some 32), (33, some 33)] [] hρ (by kernel_rfl) ?_ ?_) (AW_ret (end_q [] (.inr rfl) (by kernel_rfl) (by kernel_rfl) ?_))
      · simp only [AL, AE, TY, EN, seval]
      · simp only [AL, AE, TY, EN, seval]
      · simp only [AE, TY, EN, Try.results44, seval]
/- laws.FnLed -/
def l_FnLed_j2 (v2 : Bool) : Option Bool :=
  some v2
def l_FnLed_j4 (v4 : Bool) : Option Bool :=
  some v4
def l_FnLed_j3 (x2 : Int × List (Int × Int × Int × Int) × Int × Int × Int × Int) (x5 : Int × Int × Int × Int × Bool) (x12 : Int × Int × Int × Int × Bool) (x13 : Int × Int × Int × Int × Bool) (v3 : Bool) : Option Bool :=
  br v3 (some true) (bO (i_ConjugateByTableau x2.1 x2.2.1 x13.1 x13.2.1 x13.2.2.1 x13.2.2.2.1) fun x15 => bO (s_MulPauli x5.1 x5.2.1 x5.2.2.1 x5.2.2.2.1 x12.1 x12.2.1 x12.2.2.1 x12.2.2.2.1) fun x16 => bO (br x15.2.2.2.2 (some x16.2.2.2.2) (some false)) fun x17 => bO (br x17 (some (((x15.1 == x16.1) && ((x15.2.1 == x16.2.1) && ((x15.2.2.1 == x16.2.2.1) && (x15.2.2.2.1 == x16.2.2.2.1)))))) (some false)) fun x18 => l_FnLed_j4 x18)
def l_FnLed_j1 (x2 : Int × List (Int × Int × Int × Int) × Int × Int × Int × Int) (x4 : Int × List (Int × Int × Int × Int) × Int × Int × Int × Int) (x5 : Int × Int × Int × Int × Bool) (x6 : Int × Int × Int × Int × Bool) (v1 : Bool) : Option Bool :=
  br v1 (bO (br (x5.2.2.2.2 == x6.2.2.2.2) (some (((x5.1 == x6.1) && ((x5.2.1 == x6.2.1) && ((x5.2.2.1 == x6.2.2.1) && (x5.2.2.2.1 == x6.2.2.2.1)))))) (some false)) fun x11 => l_FnLed_j2 x11) (bO (i_ConjugateByTableau x2.1 x2.2.1 x2.2.2.1 x4.2.2.2.1 x4.2.2.2.2.1 x4.2.2.2.2.2) fun x12 => bO (s_MulPauli x2.2.2.1 x2.2.2.2.1 x2.2.2.2.2.1 x2.2.2.2.2.2 x2.2.2.1 x4.2.2.2.1 x4.2.2.2.2.1 x4.2.2.2.2.2) fun x13 => bO (br (!x12.2.2.2.2) (some true) (some (!x13.2.2.2.2))) fun x14 => l_FnLed_j3 x2 x5 x12 x13 x14)
def l_FnLed (a1 : List Int) : Option Bool :=
  bO (l_big a1) fun x1 => br x1 (some true) (bO (s_DrawConjugateByTableau a1) fun x2 => bO (l_tail a1) fun x3 => bO (s_DrawConjugateByTableau x3) fun x4 => bO (i_ConjugateByTableau x2.1 x2.2.1 x2.2.2.1 x2.2.2.2.1 x2.2.2.2.2.1 x2.2.2.2.2.2) fun x5 => bO (s_ConjugateByTableau x2.1 x2.2.1 x2.2.2.1 x2.2.2.2.1 x2.2.2.2.2.1 x2.2.2.2.2.2) fun x6 => bO (br (x5.2.2.2.2 != x6.2.2.2.2) (some true) (some (!((x5.1 == x6.1) && ((x5.2.1 == x6.2.1) && ((x5.2.2.1 == x6.2.2.1) && (x5.2.2.2.1 == x6.2.2.2.1))))))) fun x7 => bO (br x7 (some true) (some (!x5.2.2.2.2))) fun x8 => l_FnLed_j1 x2 x4 x5 x6 x8)
set_option maxHeartbeats 4000000 in
theorem l_FnLed_ok {a1 : List Int} {r : Bool} (h : l_FnLed a1 = some r) :
    Spec Try.prog 10 [.sl (encL EB a1) a1.length] [] (.bool r) [] := by
  unfold l_FnLed at h
  refine spec_of Try.func10 rfl (by kernel_rfl) (by simp only [Try.ntmps10, List.length_cons, List.length_nil, Nat.reduceAdd, Nat.reduceLeDiff]) ?_
  intro C hN hρ
  rw [Try.ntmps10] at hN
  unfold st0
  simp only [tmps0, Nat.zero_add, Nat.reduceAdd]
  refine AW_rs (BR := BR) FM (by rw [hN]; kernel_rfl) (by kernel_rfl) ?_
  intro K hK
  simp only [AE, TY, EN, seval]
  refine hK _ _ _ ?_
  clear hK K
  refine AW_seq ?_
  refine AW_rs (BR := BR) FM (by rw [hN]; kernel_rfl) (by kernel_rfl) ?_
  intro K hK
  obtain ⟨x1, h1, h⟩ := bO_inv h
  simp only [AE, TY, EN, seval]
  refine rC_p (l_big_ok h1) (by simp only [AL, AE, TY, EN, seval]) (by simp only [List.length_cons, List.length_nil, Nat.zero_add, Nat.reduceAdd, Nat.reduceLeDiff, Nat.zero_le]) (by intro j hj; exact absurd hj (Nat.not_lt_zero _)) ?_
  simp only [AE, TY, EN, seval]
  refine hK _ _ _ ?_
  clear hK K
  refine AW_condK (a := .bool x1) (by simp only [AE, TY, EN, seval]) (brK h (fun hc1 h => ?_) (fun hc1 h => ?_))
  · refine AW_rs (BR := BR) FM (by rw [hN]; kernel_rfl) (by kernel_rfl) ?_
    intro K hK
    simp only [AE, TY, EN, seval]
    refine hK _ _ _ ?_
    clear hK K
    injection h with h
    subst h
    refine AW_le (Le_can (lt := [(2, .bool true)]) (lr := []) (b' := 64) [] [] hρ (by kernel_rfl) ?_ ?_) (AW_ret (end_q [] (.inr rfl) (by kernel_rfl) (by kernel_rfl) ?_))
    · simp only [AL, AE, TY, EN, seval]
    · simp only [AL, AE, TY, EN, seval]
    · simp only [AE, TY, EN, Try.results10, seval]
  · refine AW_skip (show AW _ _ _ _ _ from ?_)
    refine AW_rs (BR := BR) FM (by rw [hN]; kernel_rfl) (by kernel_rfl) ?_
    intro K hK
    obtain ⟨x2, h2, h⟩ := bO_inv h
    simp only [AE, TY, EN, seval]
    refine rC_p (s_DrawConjugateByTableau_ok h2) (by simp only [AL, AE, TY, EN, seval]) (by simp only [List.length_cons, List.length_nil, Nat.zero_add, Nat.reduceAdd, Nat.reduceLeDiff, Nat.zero_le]) (by intro j hj; exact absurd hj (Nat.not_lt_zero _)) ?_
    simp only [AE, TY, EN, seval]
    refine hK _ _ _ ?_
    clear hK K
    refine AW_rs (BR := BR) FM (by rw [hN]; kernel_rfl) (by kernel_rfl) ?_
    intro K hK
    obtain ⟨x3, h3, h⟩ := bO_inv h
    simp only [AE, TY, EN, seval]
    refine rC_p (l_tail_ok h3) (by simp only [AL, AE, TY, EN, seval]) (by simp only [List.length_cons, List.length_nil, Nat.zero_add, Nat.reduceAdd, Nat.reduceLeDiff, Nat.zero_le]) (by intro j hj; exact absurd hj (Nat.not_lt_zero _)) ?_
    obtain ⟨x4, h4, h⟩ := bO_inv h
    simp only [AE, TY, EN, seval]
    refine rC_p (s_DrawConjugateByTableau_ok h4) (by simp only [AL, AE, TY, EN, seval]) (by simp only [List.length_cons, List.length_nil, Nat.zero_add, Nat.reduceAdd, Nat.reduceLeDiff, Nat.zero_le]) (by intro j hj; exact absurd hj (Nat.not_lt_zero _)) ?_
    simp only [AE, TY, EN, seval]
    refine hK _ _ _ ?_
    clear hK K
    refine AW_rs (BR := BR) FM (by rw [hN]; kernel_rfl) (by kernel_rfl) ?_
    intro K hK
    obtain ⟨x5, h5, h⟩ := bO_inv h
    simp only [AE, TY, EN, seval]
    refine rC_p (i_ConjugateByTableau_ok h5) (by simp only [AL, AE, TY, EN, seval]) (by simp only [List.length_cons, List.length_nil, Nat.zero_add, Nat.reduceAdd, Nat.reduceLeDiff, Nat.zero_le]) (by intro j hj; exact absurd hj (Nat.not_lt_zero _)) ?_
    simp only [AE, TY, EN, seval]
    refine hK _ _ _ ?_
    clear hK K
    refine AW_rs (BR := BR) FM (by rw [hN]; kernel_rfl) (by kernel_rfl) ?_
    intro K hK
    obtain ⟨x6, h6, h⟩ := bO_inv h
    simp only [AE, TY, EN, seval]
    refine rC_p (s_ConjugateByTableau_ok h6) (by simp only [AL, AE, TY, EN, seval]) (by simp only [List.length_cons, List.length_nil, Nat.zero_add, Nat.reduceAdd, Nat.reduceLeDiff, Nat.zero_le]) (by intro j hj; exact absurd hj (Nat.not_lt_zero _)) ?_
    simp only [AE, TY, EN, seval]
    refine hK _ _ _ ?_
    clear hK K
    refine AW_seq ?_
    refine AW_rsJ (BR := BR) (fun S => ∃ (v1 : Bool), S = ⟨mkT [(3, .ptr 32 0), (4, .ptr 33 0), (6, .ptr 34 0), (7, .ptr 35 0), (8, .bool x5.2.2.2.2), (9, .ptr 36 0), (10, .bool x6.2.2.2.2), (55, .bool v1)], mkR [(32, .box 33 [.int .i64 x2.1, .sl (encL EIIII x2.2.1) x2.2.1.length]), (33, .box 28 [.int .i64 x2.2.2.1, .int .i64 x2.2.2.2.1, .int .i64 x2.2.2.2.2.1, .int .i64 x2.2.2.2.2.2]), (34, .box 28 [.int .i64 x4.2.2.1, .int .i64 x4.2.2.2.1, .int .i64 x4.2.2.2.2.1, .int .i64 x4.2.2.2.2.2]), (35, .box 28 [.int .i64 x5.1, .int .i64 x5.2.1, .int .i64 x5.2.2.1, .int .i64 x5.2.2.2.1]), (36, .box 28 [.int .i64 x6.1, .int .i64 x6.2.1, .int .i64 x6.2.2.1, .int .i64 x6.2.2.2.1])], 64⟩ ∧ l_FnLed_j1 x2 x4 x5 x6 v1 = some r) FM (by rw [hN]; kernel_rfl) (by kernel_rfl) ?_ ?_
    · intro K hK
      obtain ⟨x7, hv1, h⟩ := bO_inv h
      rcases br_inv hv1 with ⟨hc2, hv1⟩ | ⟨hc2, hv1⟩
      · cases hv1
        obtain ⟨x9, hv3, h⟩ := bO_inv h
        replace hv3 := br_t hv3
        cases hv3
        try dsimp only at h
        simp only [AE, TY, EN, seval, hc2]
        refine hK _ _ _ (show cutK _ _ _ from cutL ⟨_, rfl, h⟩ (Le_can [(32, some 2192), (33, some 2208), (34, some 3248), (35, some 4256), (36, some 5280)] [] hρ (by kernel_rfl) ?_ ?_))
        · simp only [AL, AE, TY, EN, seval, hc2]
        · simp only [AL, AE, TY, EN, seval, hc2]
      · cases hv1
        obtain ⟨x10, hv4, h⟩ := bO_inv h
        rcases br_inv hv4 with ⟨hc4, hv4⟩ | ⟨hc4, hv4⟩
        · cases hv4
          simp only [AE, TY, EN, seval, hc2, hc4]
          refine hK _ _ _ (show cutK _ _ _ from cutL ⟨_, rfl, h⟩ (Le_can [(32, some 2192), (33, some 2208), (34, some 3248), (35, some 4256), (36, some 5280)] [] hρ (by kernel_rfl) ?_ ?_))
          · simp only [AL, AE, TY, EN, seval, hc2, hc4]
          · simp only [AL, AE, TY, EN, seval, hc2, hc4]
        · cases hv4
          simp only [AE, TY, EN, seval, hc2, hc4]
          refine hK _ _ _ (show cutK _ _ _ from cutL ⟨_, rfl, h⟩ (Le_can [(32, some 2192), (33, some 2208), (34, some 3248), (35, some 4256), (36, some 5280)] [] hρ (by kernel_rfl) ?_ ?_))
          · simp only [AL, AE, TY, EN, seval, hc2, hc4]
          · simp only [AL, AE, TY, EN, seval, hc2, hc4]
    · rintro S ⟨v1, rfl, h⟩
      unfold l_FnLed_j1 at h
      refine AW_condK (a := .bool v1) (by simp only [AE, TY, EN, seval]) (brK h (fun hc5 h => ?_) (fun hc5 h => ?_))
      · refine AW_rsJ (BR := BR) (fun S => ∃ (v2 : Bool), S = ⟨mkT [(2, .bool v2)], mkR [], 64⟩ ∧ l_FnLed_j2 v2 = some r) FM (by rw [hN]; kernel_rfl) (by kernel_rfl) ?_ ?_
        · intro K hK
          obtain ⟨x11, hv5, h⟩ := bO_inv h
          rcases br_inv hv5 with ⟨hc6, hv5⟩ | ⟨hc6, hv5⟩
          · cases hv5
            simp only [AE, TY, EN, seval, hc6]
            refine hK _ _ _ (show cutK _ _ _ from cutL ⟨_, rfl, h⟩ (Le_can [] [] hρ (by kernel_rfl) ?_ ?_))
            · simp only [AL, AE, TY, EN, seval, hc6]
            · simp only [AL, AE, TY, EN, seval, hc6]
          · cases hv5
            simp only [AE, TY, EN, seval, hc6]
            refine hK _ _ _ (show cutK _ _ _ from cutL ⟨_, rfl, h⟩ (Le_can [] [] hρ (by kernel_rfl) ?_ ?_))
            · simp only [AL, AE, TY, EN, seval, hc6]
            · simp only [AL, AE, TY, EN, seval, hc6]
        · rintro S ⟨v2, rfl, h⟩
          unfold l_FnLed_j2 at h
          injection h with h
          subst h
          refine AW_le (Le_can (lt := [(2, .bool v2)]) (lr := []) (b' := 64) [] [] hρ (by kernel_rfl) ?_ ?_) (AW_ret (end_q [] (.inr rfl) (by kernel_rfl) (by kernel_rfl) ?_))
          · simp only [AL, AE, TY, EN, seval]
          · simp only [AL, AE, TY, EN, seval]
          · simp only [AE, TY, EN, Try.results10, seval]
      · refine AW_skip (show AW _ _ _ _ _ from ?_)
        refine AW_rs (BR := BR) FM (by rw [hN]; kernel_rfl) (by kernel_rfl) ?_
        intro K hK
        simp only [AE, TY, EN, seval]
        refine hK _ _ _ ?_
        clear hK K
        refine AW_rs (BR := BR) FM (by rw [hN]; kernel_rfl) (by kernel_rfl) ?_
        intro K hK
        obtain ⟨x12, h7, h⟩ := bO_inv h
        simp only [AE, TY, EN, seval]
        refine rC_p (i_ConjugateByTableau_ok h7) (by simp only [AL, AE, TY, EN, seval]) (by simp only [List.length_cons, List.length_nil, Nat.zero_add, Nat.reduceAdd, Nat.reduceLeDiff, Nat.zero_le]) (by intro j hj; exact absurd hj (Nat.not_lt_zero _)) ?_
        simp only [AE, TY, EN, seval]
        refine hK _ _ _ ?_
        clear hK K
        refine AW_rs (BR := BR) FM (by rw [hN]; kernel_rfl) (by kernel_rfl) ?_
        intro K hK
        obtain ⟨x13, h8, h⟩ := bO_inv h
        simp only [AE, TY, EN, seval]
        refine rC_p (s_MulPauli_ok h8) (by simp only [AL, AE, TY, EN, seval]) (by simp only [List.length_cons, List.length_nil, Nat.zero_add, Nat.reduceAdd, Nat.reduceLeDiff, Nat.zero_le]) (by intro j hj; exact absurd hj (Nat.not_lt_zero _)) ?_
        simp only [AE, TY, EN, seval]
        refine hK _ _ _ ?_
        clear hK K
        refine AW_seq ?_
        refine AW_rsJ (BR := BR) (fun S => ∃ (v3 : Bool), S = ⟨mkT [(3, .ptr 32 0), (7, .ptr 33 0), (11, .ptr 34 0), (13, .ptr 35 0), (84, .bool v3)], mkR [(32, .box 33 [.int .i64 x2.1, .sl (encL EIIII x2.2.1) x2.2.1.length]), (33, .box 28 [.int .i64 x5.1, .int .i64 x5.2.1, .int .i64 x5.2.2.1, .int .i64 x5.2.2.2.1]), (34, .box 28 [.int .i64 x12.1, .int .i64 x12.2.1, .int .i64 x12.2.2.1, .int .i64 x12.2.2.2.1]), (35, .box 28 [.int .i64 x13.1, .int .i64 x13.2.1, .int .i64 x13.2.2.1, .int .i64 x13.2.2.2.1])], 64⟩ ∧ l_FnLed_j3 x2 x5 x12 x13 v3 = some r) FM (by rw [hN]; kernel_rfl) (by kernel_rfl) ?_ ?_
        · intro K hK
          obtain ⟨x14, hv6, h⟩ := bO_inv h
          rcases br_inv hv6 with ⟨hc7, hv6⟩ | ⟨hc7, hv6⟩
          · cases hv6
            simp only [AE, TY, EN, seval, hc7]
            refine hK _ _ _ (show cutK _ _ _ from cutL ⟨_, rfl, h⟩ (Le_can [(32, some 32), (33, some 35), (34, some 1184), (35, some 2208)] [] hρ (by kernel_rfl) ?_ ?_))
            · simp only [AL, AE, TY, EN, seval, hc7]
            · simp only [AL, AE, TY, EN, seval, hc7]
          · cases hv6
            simp only [AE, TY, EN, seval, hc7]
            refine hK _ _ _ (show cutK _ _ _ from cutL ⟨_, rfl, h⟩ (Le_can [(32, some 32), (33, some 35), (34, some 1184), (35, some 2208)] [] hρ (by kernel_rfl) ?_ ?_))
            · simp only [AL, AE, TY, EN, seval, hc7]
            · simp only [AL, AE, TY, EN, seval, hc7]
        · rintro S ⟨v3, rfl, h⟩
          unfold l_FnLed_j3 at h
          refine AW_condK (a := .bool v3) (by simp only [AE, TY, EN, seval]) (brK h (fun hc8 h => ?_) (fun hc8 h => ?_))
          · refine AW_rs (BR := BR) FM (by rw [hN]; kernel_rfl) (by kernel_rfl) ?_
            intro K hK
            simp only [AE, TY, EN, seval]
            refine hK _ _ _ ?_
            clear hK K
            injection h with h
            subst h
            refine AW_le (Le_can (lt := [(2, .bool true)]) (lr := []) (b' := 64) [] [] hρ (by kernel_rfl) ?_ ?_) (AW_ret (end_q [] (.inr rfl) (by kernel_rfl) (by kernel_rfl) ?_))
            · simp only [AL, AE, TY, EN, seval]
            · simp only [AL, AE, TY, EN, seval]
            · simp only [AE, TY, EN, Try.results10, seval]
          · refine AW_skip (show AW _ _ _ _ _ from ?_)
            refine AW_rs (BR := BR) FM (by rw [hN]; kernel_rfl) (by kernel_rfl) ?_
            intro K hK
            obtain ⟨x15, h9, h⟩ := bO_inv h
            simp only [AE, TY, EN, seval]
            refine rC_p (i_ConjugateByTableau_ok h9) (by simp only [AL, AE, TY, EN, seval]) (by simp only [List.length_cons, List.length_nil, Nat.zero_add, Nat.reduceAdd, Nat.reduceLeDiff, Nat.zero_le]) (by intro j hj; exact absurd hj (Nat.not_lt_zero _)) ?_
            simp only [AE, TY, EN, seval]
            refine hK _ _ _ ?_
            clear hK K
            refine AW_rs (BR := BR) FM (by rw [hN]; kernel_rfl) (by kernel_rfl) ?_
            intro K hK
            obtain ⟨x16, h10, h⟩ := bO_inv h
            simp only [AE, TY, EN, seval]
            refine rC_p (s_MulPauli_ok h10) (by simp only [AL, AE, TY, EN, seval]) (by simp only [List.length_cons, List.length_nil, Nat.zero_add, Nat.reduceAdd, Nat.reduceLeDiff, Nat.zero_le]) (by intro j hj; exact absurd hj (Nat.not_lt_zero _)) ?_
            simp only [AE, TY, EN, seval]
            refine hK _ _ _ ?_
            clear hK K
            refine AW_rsJ (BR := BR) (fun S => ∃ (v4 : Bool), S = ⟨mkT [(2, .bool v4)], mkR [], 64⟩ ∧ l_FnLed_j4 v4 = some r) FM (by rw [hN]; kernel_rfl) (by kernel_rfl) ?_ ?_
            · intro K hK
              obtain ⟨x17, hv7, h⟩ := bO_inv h
              rcases br_inv hv7 with ⟨hc9, hv7⟩ | ⟨hc9, hv7⟩
              · cases hv7
                obtain ⟨x19, hv9, h⟩ := bO_inv h
                rcases br_inv hv9 with ⟨hc11, hv9⟩ | ⟨hc11, hv9⟩
                · cases hv9
                  simp only [AE, TY, EN, seval, hc9, hc11]
                  refine hK _ _ _ (show cutK _ _ _ from cutL ⟨_, rfl, h⟩ (Le_can [] [] hρ (by kernel_rfl) ?_ ?_))
                  · simp only [AL, AE, TY, EN, seval, hc9, hc11]
                  · simp only [AL, AE, TY, EN, seval, hc9, hc11]
                · cases hv9
                  simp only [AE, TY, EN, seval, hc9, hc11]
                  refine hK _ _ _ (show cutK _ _ _ from cutL ⟨_, rfl, h⟩ (Le_can [] [] hρ (by kernel_rfl) ?_ ?_))
                  · simp only [AL, AE, TY, EN, seval, hc9, hc11]
                  · simp only [AL, AE, TY, EN, seval, hc9, hc11]
              · cases hv7
                obtain ⟨x20, hv10, h⟩ := bO_inv h
                replace hv10 := br_f hv10
                cases hv10
                try dsimp only at h
                simp only [AE, TY, EN, seval, hc9]
                refine hK _ _ _ (show cutK _ _ _ from cutL ⟨_, rfl, h⟩ (Le_can [] [] hρ (by kernel_rfl) ?_ ?_))
                · simp only [AL, AE, TY, EN, seval, hc9]
                · simp only [AL, AE, TY, EN, seval, hc9]
            · rintro S ⟨v4, rfl, h⟩
              unfold l_FnLed_j4 at h
              injection h with h
              subst h
              refine AW_le (Le_can (lt := [(2, .bool v4)]) (lr := []) (b' := 64) [] [] hρ (by kernel_rfl) ?_ ?_) (AW_ret (end_q [] (.inr rfl) (by kernel_rfl) (by kernel_rfl) ?_))
              · simp only [AL, AE, TY, EN, seval]
              · simp only [AL, AE, TY, EN, seval]
              · simp only [AE, TY, EN, Try.results10, seval]
end Go.Proofs.Ytfpfalknddfejaa
