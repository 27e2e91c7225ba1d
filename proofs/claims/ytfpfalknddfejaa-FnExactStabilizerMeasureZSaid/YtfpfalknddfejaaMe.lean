/- Models of functions, and that the functions do what the models say; printed by a program. -/
import Derived.Test.YtfpfalknddfejaaGn
import Derived.Test.YtfpfalknddfejaaMd
import Derived.Test.YtfpfalknddfejaaMc
namespace Go.Proofs.Ytfpfalknddfejaa
open Go.RowKit
set_option maxRecDepth 100000
set_option linter.unusedVariables false
set_option linter.unusedSimpArgs false
set_option linter.defProp false
/- laws.FnExactCosetIndex -/
def l_FnExactCosetIndex (a1 : Int) (a2 : List (Int × Int × Int × Int)) : Option Bool :=
  bO (l_szTableau a1 a2 1048576) fun x1 => br (decide (x1 < 0)) (some true) (bO (l_toTableau a1 a2) fun x2 => bO (s_CosetIndex x2.1 x2.2) fun x3 => bO (l_toTableau a1 a2) fun x4 => bO (i_CosetIndex x4.1 x4.2) fun x5 => br (x5 != x3) (some false) (bO (l_toTableau a1 a2) fun x6 => bO (l_eqTableau x4.1 x4.2 x6.1 x6.2) fun x7 => br (!x7) (some false) (some true)))
set_option maxHeartbeats 4000000 in
theorem l_FnExactCosetIndex_ok {a1 : Int} {a2 : List (Int × Int × Int × Int)} {r : Bool} (h : l_FnExactCosetIndex a1 a2 = some r) :
    Spec Try.prog 4 [.agg [.int .i64 a1, .sl (encL EIIII a2) a2.length]] [] (.bool r) [] := by
  unfold l_FnExactCosetIndex at h
  refine spec_of Try.func4 rfl (by kernel_rfl) (by simp only [Try.ntmps4, List.length_cons, List.length_nil, Nat.reduceAdd, Nat.reduceLeDiff]) ?_
  intro C hN hρ
  rw [Try.ntmps4] at hN
  unfold st0
  simp only [tmps0, Nat.zero_add, Nat.reduceAdd]
  refine AW_rs (BR := BR) FM (by rw [hN]; kernel_rfl) (by kernel_rfl) ?_
  intro K hK
  simp only [AE, TY, EN, seval]
  refine hK _ _ _ ?_
  clear hK K
  refine AW_rs (BR := BR) FM (by rw [hN]; kernel_rfl) (by kernel_rfl) ?_
  intro K hK
  simp only [AE, TY, EN, seval]
  refine hK _ _ _ ?_
  clear hK K
  refine AW_rs (BR := BR) FM (by rw [hN]; kernel_rfl) (by kernel_rfl) ?_
  intro K hK
  obtain ⟨x1, h1, h⟩ := bO_inv h
  simp only [AE, TY, EN, seval]
  refine rC_p (l_szTableau_ok h1) (by simp only [AL, AE, TY, EN, seval]) (by simp only [List.length_cons, List.length_nil, Nat.zero_add, Nat.reduceAdd, Nat.reduceLeDiff, Nat.zero_le]) (by intro j hj; exact absurd hj (Nat.not_lt_zero _)) ?_
  simp only [AE, TY, EN, seval]
  refine hK _ _ _ ?_
  clear hK K
  refine AW_seq ?_
  refine AW_rs (BR := BR) FM (by rw [hN]; kernel_rfl) (by kernel_rfl) ?_
  intro K hK
  simp only [AE, TY, EN, seval]
  refine hK _ _ _ ?_
  clear hK K
  refine AW_condK (a := .bool (decide (x1 < 0))) (by simp only [AE, TY, EN, seval]) (brK h (fun hc1 h => ?_) (fun hc1 h => ?_))
  · refine AW_rs (BR := BR) FM (by rw [hN]; kernel_rfl) (by kernel_rfl) ?_
    intro K hK
    simp only [AE, TY, EN, seval]
    refine hK _ _ _ ?_
    clear hK K
    injection h with h
    subst h
    refine AW_le (Le_can (lt := [(2, .bool true)]) (lr := []) (b' := 64) [] [] hρ (by kernel_rfl) ?_ ?_) (AW_ret (end_q [] (.inr rfl) (by kernel_rfl) (by kernel_rfl) ?_))
    · simp only [AL, AE, TY, EN, seval]
    · simp only [AL, AE, TY, EN, seval]
    · simp only [AE, TY, EN, Try.results4, seval]
  · refine AW_skip (show AW _ _ _ _ _ from ?_)
    refine AW_rs (BR := BR) FM (by rw [hN]; kernel_rfl) (by kernel_rfl) ?_
    intro K hK
    obtain ⟨x2, h2, h⟩ := bO_inv h
    simp only [AE, TY, EN, seval]
    refine rC_p (l_toTableau_ok h2) (by simp only [AL, AE, TY, EN, seval]) (by simp only [List.length_cons, List.length_nil, Nat.zero_add, Nat.reduceAdd, Nat.reduceLeDiff, Nat.zero_le]) (site_1 (by simp only [AE, TY, EN, seval])) ?_
    obtain ⟨x3, h3, h⟩ := bO_inv h
    simp only [AE, TY, EN, seval]
    refine rC_l (s_CosetIndex_ok h3) (by simp only [AL, AE, TY, EN, seval]) (by simp only [AL, EF, and_self]) (by simp only [List.length_cons, List.length_nil, Nat.zero_add, Nat.reduceAdd, Nat.reduceLeDiff, Nat.zero_le]) (by intro j hj; exact absurd hj (Nat.not_lt_zero _)) ?_
    simp only [AE, TY, EN, seval]
    refine hK _ _ _ ?_
    clear hK K
    refine AW_rs (BR := BR) FM (by rw [hN]; kernel_rfl) (by kernel_rfl) ?_
    intro K hK
    obtain ⟨x4, h4, h⟩ := bO_inv h
    simp only [AE, TY, EN, seval]
    refine rC_p (l_toTableau_ok h4) (by simp only [AL, AE, TY, EN, seval]) (by simp only [List.length_cons, List.length_nil, Nat.zero_add, Nat.reduceAdd, Nat.reduceLeDiff, Nat.zero_le]) (site_1 (by simp only [AE, TY, EN, seval])) ?_
    simp only [AE, TY, EN, seval]
    refine hK _ _ _ ?_
    clear hK K
    refine AW_rs (BR := BR) FM (by rw [hN]; kernel_rfl) (by kernel_rfl) ?_
    intro K hK
    obtain ⟨x5, h5, h⟩ := bO_inv h
    simp only [AE, TY, EN, seval]
    refine rC_l (i_CosetIndex_ok h5) (by simp only [AL, AE, TY, EN, seval]) (by simp only [AL, EF, and_self]) (by simp only [List.length_cons, List.length_nil, Nat.zero_add, Nat.reduceAdd, Nat.reduceLeDiff, Nat.zero_le]) (by intro j hj; exact absurd hj (Nat.not_lt_zero _)) ?_
    simp only [AE, TY, EN, seval]
    refine hK _ _ _ ?_
    clear hK K
    refine AW_seq ?_
    refine AW_rs (BR := BR) FM (by rw [hN]; kernel_rfl) (by kernel_rfl) ?_
    intro K hK
    simp only [AE, TY, EN, seval]
    refine hK _ _ _ ?_
    clear hK K
    refine AW_condK (a := .bool (x5 != x3)) (by simp only [AE, TY, EN, seval]) (brK h (fun hc2 h => ?_) (fun hc2 h => ?_))
    · refine AW_rs (BR := BR) FM (by rw [hN]; kernel_rfl) (by kernel_rfl) ?_
      intro K hK
      simp only [AE, TY, EN, seval]
      refine hK _ _ _ ?_
      clear hK K
      injection h with h
      subst h
      refine AW_le (Le_can (lt := [(2, .bool false)]) (lr := []) (b' := 64) [] [] hρ (by kernel_rfl) ?_ ?_) (AW_ret (end_q [] (.inr rfl) (by kernel_rfl) (by kernel_rfl) ?_))
      · simp only [AL, AE, TY, EN, seval]
      · simp only [AL, AE, TY, EN, seval]
      · simp only [AE, TY, EN, Try.results4, seval]
    · refine AW_skip (show AW _ _ _ _ _ from ?_)
      refine AW_seq ?_
      refine AW_rs (BR := BR) FM (by rw [hN]; kernel_rfl) (by kernel_rfl) ?_
      intro K hK
      obtain ⟨x6, h6, h⟩ := bO_inv h
      simp only [AE, TY, EN, seval]
      refine rC_p (l_toTableau_ok h6) (by simp only [AL, AE, TY, EN, seval]) (by simp only [List.length_cons, List.length_nil, Nat.zero_add, Nat.reduceAdd, Nat.reduceLeDiff, Nat.zero_le]) (site_1 (by simp only [AE, TY, EN, seval])) ?_
      obtain ⟨x7, h7, h⟩ := bO_inv h
      simp only [AE, TY, EN, seval]
      refine rC_l (l_eqTableau_ok h7) (by simp only [AL, AE, TY, EN, seval]) (by simp only [AL, EF, and_self]) (by simp only [List.length_cons, List.length_nil, Nat.zero_add, Nat.reduceAdd, Nat.reduceLeDiff, Nat.zero_le]) (by intro j hj; exact absurd hj (Nat.not_lt_zero _)) ?_
      simp only [AE, TY, EN, seval]
      refine hK _ _ _ ?_
      clear hK K
      refine AW_condK (a := .bool (!x7)) (by simp only [AE, TY, EN, seval]) (brK h (fun hc3 h => ?_) (fun hc3 h => ?_))
      · refine AW_rs (BR := BR) FM (by rw [hN]; kernel_rfl) (by kernel_rfl) ?_
        intro K hK
        simp only [AE, TY, EN, seval]
        refine hK _ _ _ ?_
        clear hK K
        injection h with h
        subst h
        refine AW_le (Le_can (lt := [(2, .bool false)]) (lr := []) (b' := 64) [] [] hρ (by kernel_rfl) ?_ ?_) (AW_ret (end_q [] (.inr rfl) (by kernel_rfl) (by kernel_rfl) ?_))
        · simp only [AL, AE, TY, EN, seval]
        · simp only [AL, AE, TY, EN, seval]
        · simp only [AE, TY, EN, Try.results4, seval]
      · refine AW_skip (show AW _ _ _ _ _ from ?_)
        refine AW_rs (BR := BR) FM (by rw [hN]; kernel_rfl) (by kernel_rfl) ?_
        intro K hK
        simp only [AE, TY, EN, seval]
        refine hK _ _ _ ?_
        clear hK K
        injection h with h
        subst h
        refine AW_le (Le_can (lt := [(2, .bool true)]) (lr := []) (b' := 64) [] [] hρ (by kernel_rfl) ?_ ?_) (AW_ret (end_q [] (.inr rfl) (by kernel_rfl) (by kernel_rfl) ?_))
        · simp only [AL, AE, TY, EN, seval]
        · simp only [AL, AE, TY, EN, seval]
        · simp only [AE, TY, EN, Try.results4, seval]
/- laws.FnExactStabilizerMeasureZ -/
def l_FnExactStabilizerMeasureZ_j1 (a1 : Int) (a2 : List (Int × Int × Int × Int)) (x4 : Int × List (Int × Int × Int × Int)) (v1 : Bool) : Option Bool :=
  br v1 (some false) (bO (l_toTableau a1 a2) fun x7 => bO (l_eqTableau x4.1 x4.2 x7.1 x7.2) fun x8 => br (!x8) (some false) (some true))
def l_FnExactStabilizerMeasureZ (a1 : Int) (a2 : List (Int × Int × Int × Int)) (a3 : Int) : Option Bool :=
  bO (l_szTableau a1 a2 1048576) fun x1 => br (decide (x1 < 0)) (some true) (bO (l_toTableau a1 a2) fun x2 => bO (s_StabilizerMeasureZ x2.1 x2.2 a3) fun x3 => bO (l_toTableau a1 a2) fun x4 => bO (i_StabilizerMeasureZ x4.1 x4.2 a3) fun x5 => bO (br (x5.1 != x3.1) (some true) (some (x5.2 != x3.2))) fun x6 => l_FnExactStabilizerMeasureZ_j1 a1 a2 x4 x6)
set_option maxHeartbeats 4000000 in
theorem l_FnExactStabilizerMeasureZ_ok {a1 : Int} {a2 : List (Int × Int × Int × Int)} {a3 : Int} {r : Bool} (h : l_FnExactStabilizerMeasureZ a1 a2 a3 = some r) :
    Spec Try.prog 5 [.agg [.int .i64 a1, .sl (encL EIIII a2) a2.length], .int .i64 a3] [] (.bool r) [] := by
  unfold l_FnExactStabilizerMeasureZ at h
  refine spec_of Try.func5 rfl (by kernel_rfl) (by simp only [Try.ntmps5, List.length_cons, List.length_nil, Nat.reduceAdd, Nat.reduceLeDiff]) ?_
  intro C hN hρ
  rw [Try.ntmps5] at hN
  unfold st0
  simp only [tmps0, Nat.zero_add, Nat.reduceAdd]
  refine AW_rs (BR := BR) FM (by rw [hN]; kernel_rfl) (by kernel_rfl) ?_
  intro K hK
  simp only [AE, TY, EN, seval]
  refine hK _ _ _ ?_
  clear hK K
  refine AW_rs (BR := BR) FM (by rw [hN]; kernel_rfl) (by kernel_rfl) ?_
  intro K hK
  simp only [AE, TY, EN, seval]
  refine hK _ _ _ ?_
  clear hK K
  refine AW_rs (BR := BR) FM (by rw [hN]; kernel_rfl) (by kernel_rfl) ?_
  intro K hK
  obtain ⟨x1, h1, h⟩ := bO_inv h
  simp only [AE, TY, EN, seval]
  refine rC_p (l_szTableau_ok h1) (by simp only [AL, AE, TY, EN, seval]) (by simp only [List.length_cons, List.length_nil, Nat.zero_add, Nat.reduceAdd, Nat.reduceLeDiff, Nat.zero_le]) (by intro j hj; exact absurd hj (Nat.not_lt_zero _)) ?_
  simp only [AE, TY, EN, seval]
  refine hK _ _ _ ?_
  clear hK K
  refine AW_seq ?_
  refine AW_rs (BR := BR) FM (by rw [hN]; kernel_rfl) (by kernel_rfl) ?_
  intro K hK
  simp only [AE, TY, EN, seval]
  refine hK _ _ _ ?_
  clear hK K
  refine AW_condK (a := .bool (decide (x1 < 0))) (by simp only [AE, TY, EN, seval]) (brK h (fun hc1 h => ?_) (fun hc1 h => ?_))
  · refine AW_rs (BR := BR) FM (by rw [hN]; kernel_rfl) (by kernel_rfl) ?_
    intro K hK
    simp only [AE, TY, EN, seval]
    refine hK _ _ _ ?_
    clear hK K
    injection h with h
    subst h
    refine AW_le (Le_can (lt := [(4, .bool true)]) (lr := []) (b' := 64) [] [] hρ (by kernel_rfl) ?_ ?_) (AW_ret (end_q [] (.inr rfl) (by kernel_rfl) (by kernel_rfl) ?_))
    · simp only [AL, AE, TY, EN, seval]
    · simp only [AL, AE, TY, EN, seval]
    · simp only [AE, TY, EN, Try.results5, seval]
  · refine AW_skip (show AW _ _ _ _ _ from ?_)
    refine AW_rs (BR := BR) FM (by rw [hN]; kernel_rfl) (by kernel_rfl) ?_
    intro K hK
    obtain ⟨x2, h2, h⟩ := bO_inv h
    simp only [AE, TY, EN, seval]
    refine rC_p (l_toTableau_ok h2) (by simp only [AL, AE, TY, EN, seval]) (by simp only [List.length_cons, List.length_nil, Nat.zero_add, Nat.reduceAdd, Nat.reduceLeDiff, Nat.zero_le]) (site_1 (by simp only [AE, TY, EN, seval])) ?_
    obtain ⟨x3, h3, h⟩ := bO_inv h
    simp only [AE, TY, EN, seval]
    refine rC_l (s_StabilizerMeasureZ_ok h3) (by simp only [AL, AE, TY, EN, seval]) (by simp only [AL, EF, and_self]) (by simp only [List.length_cons, List.length_nil, Nat.zero_add, Nat.reduceAdd, Nat.reduceLeDiff, Nat.zero_le]) (by intro j hj; exact absurd hj (Nat.not_lt_zero _)) ?_
    simp only [AE, TY, EN, seval]
    refine hK _ _ _ ?_
    clear hK K
    refine AW_rs (BR := BR) FM (by rw [hN]; kernel_rfl) (by kernel_rfl) ?_
    intro K hK
    obtain ⟨x4, h4, h⟩ := bO_inv h
    simp only [AE, TY, EN, seval]
    refine rC_p (l_toTableau_ok h4) (by simp only [AL, AE, TY, EN, seval]) (by simp only [List.length_cons, List.length_nil, Nat.zero_add, Nat.reduceAdd, Nat.reduceLeDiff, Nat.zero_le]) (site_1 (by simp only [AE, TY, EN, seval])) ?_
    simp only [AE, TY, EN, seval]
    refine hK _ _ _ ?_
    clear hK K
    refine AW_rs (BR := BR) FM (by rw [hN]; kernel_rfl) (by kernel_rfl) ?_
    intro K hK
    obtain ⟨x5, h5, h⟩ := bO_inv h
    simp only [AE, TY, EN, seval]
    refine rC_l (i_StabilizerMeasureZ_ok h5) (by simp only [AL, AE, TY, EN, seval]) (by simp only [AL, EF, and_self]) (by simp only [List.length_cons, List.length_nil, Nat.zero_add, Nat.reduceAdd, Nat.reduceLeDiff, Nat.zero_le]) (by intro j hj; exact absurd hj (Nat.not_lt_zero _)) ?_
    simp only [AE, TY, EN, seval]
    refine hK _ _ _ ?_
    clear hK K
    refine AW_seq ?_
    refine AW_rsJ (BR := BR) (fun S => ∃ (v1 : Bool), S = ⟨mkT [(2, .ptr 32 0), (8, .ptr 33 0), (38, .bool v1)], mkR [(32, .box 24 [.int .i64 a1, .sl (encL EIIII a2) a2.length]), (33, .box 33 [.int .i64 x4.1, .own 34 x4.2.length]), (34, .row 28 4 (encL EIIII x4.2))], 64⟩ ∧ l_FnExactStabilizerMeasureZ_j1 a1 a2 x4 v1 = some r) FM (by rw [hN]; kernel_rfl) (by kernel_rfl) ?_ ?_
    · intro K hK
      obtain ⟨x6, hv1, h⟩ := bO_inv h
      rcases br_inv hv1 with ⟨hc2, hv1⟩ | ⟨hc2, hv1⟩
      · cases hv1
        simp only [AE, TY, EN, seval, hc2]
        refine hK _ _ _ (show cutK _ _ _ from cutL ⟨_, rfl, h⟩ (Le_can [(32, some 64), (33, some 5216), (34, some 5200)] [] hρ (by kernel_rfl) ?_ ?_))
        · simp only [AL, AE, TY, EN, seval, hc2]
        · simp only [AL, AE, TY, EN, seval, hc2]
      · cases hv1
        simp only [AE, TY, EN, seval, hc2]
        refine hK _ _ _ (show cutK _ _ _ from cutL ⟨_, rfl, h⟩ (Le_can [(32, some 64), (33, some 5216), (34, some 5200)] [] hρ (by kernel_rfl) ?_ ?_))
        · simp only [AL, AE, TY, EN, seval, hc2]
        · simp only [AL, AE, TY, EN, seval, hc2]
    · rintro S ⟨v1, rfl, h⟩
      unfold l_FnExactStabilizerMeasureZ_j1 at h
      refine AW_condK (a := .bool v1) (by simp only [AE, TY, EN, seval]) (brK h (fun hc3 h => ?_) (fun hc3 h => ?_))
      · refine AW_rs (BR := BR) FM (by rw [hN]; kernel_rfl) (by kernel_rfl) ?_
        intro K hK
        simp only [AE, TY, EN, seval]
        refine hK _ _ _ ?_
        clear hK K
        injection h with h
        subst h
        refine AW_le (Le_can (lt := [(4, .bool false)]) (lr := []) (b' := 64) [] [] hρ (by kernel_rfl) ?_ ?_) (AW_ret (end_q [] (.inr rfl) (by kernel_rfl) (by kernel_rfl) ?_))
        · simp only [AL, AE, TY, EN, seval]
        · simp only [AL, AE, TY, EN, seval]
        · simp only [AE, TY, EN, Try.results5, seval]
      · refine AW_skip (show AW _ _ _ _ _ from ?_)
        refine AW_seq ?_
        refine AW_rs (BR := BR) FM (by rw [hN]; kernel_rfl) (by kernel_rfl) ?_
        intro K hK
        obtain ⟨x7, h6, h⟩ := bO_inv h
        simp only [AE, TY, EN, seval]
        refine rC_p (l_toTableau_ok h6) (by simp only [AL, AE, TY, EN, seval]) (by simp only [List.length_cons, List.length_nil, Nat.zero_add, Nat.reduceAdd, Nat.reduceLeDiff, Nat.zero_le]) (site_1 (by simp only [AE, TY, EN, seval])) ?_
        obtain ⟨x8, h7, h⟩ := bO_inv h
        simp only [AE, TY, EN, seval]
        refine rC_l (l_eqTableau_ok h7) (by simp only [AL, AE, TY, EN, seval]) (by simp only [AL, EF, and_self]) (by simp only [List.length_cons, List.length_nil, Nat.zero_add, Nat.reduceAdd, Nat.reduceLeDiff, Nat.zero_le]) (by intro j hj; exact absurd hj (Nat.not_lt_zero _)) ?_
        simp only [AE, TY, EN, seval]
        refine hK _ _ _ ?_
        clear hK K
        refine AW_condK (a := .bool (!x8)) (by simp only [AE, TY, EN, seval]) (brK h (fun hc4 h => ?_) (fun hc4 h => ?_))
        · refine AW_rs (BR := BR) FM (by rw [hN]; kernel_rfl) (by kernel_rfl) ?_
          intro K hK
          simp only [AE, TY, EN, seval]
          refine hK _ _ _ ?_
          clear hK K
          injection h with h
          subst h
          refine AW_le (Le_can (lt := [(4, .bool false)]) (lr := []) (b' := 64) [] [] hρ (by kernel_rfl) ?_ ?_) (AW_ret (end_q [] (.inr rfl) (by kernel_rfl) (by kernel_rfl) ?_))
          · simp only [AL, AE, TY, EN, seval]
          · simp only [AL, AE, TY, EN, seval]
          · simp only [AE, TY, EN, Try.results5, seval]
        · refine AW_skip (show AW _ _ _ _ _ from ?_)
          refine AW_rs (BR := BR) FM (by rw [hN]; kernel_rfl) (by kernel_rfl) ?_
          intro K hK
          simp only [AE, TY, EN, seval]
          refine hK _ _ _ ?_
          clear hK K
          injection h with h
          subst h
          refine AW_le (Le_can (lt := [(4, .bool true)]) (lr := []) (b' := 64) [] [] hρ (by kernel_rfl) ?_ ?_) (AW_ret (end_q [] (.inr rfl) (by kernel_rfl) (by kernel_rfl) ?_))
          · simp only [AL, AE, TY, EN, seval]
          · simp only [AL, AE, TY, EN, seval]
          · simp only [AE, TY, EN, Try.results5, seval]
/- laws.FnExactIsValidNormalForm -/
def l_FnExactIsValidNormalForm (a1 : List Int) (a2 : Int) (a3 : List (Int × Int × Int × Int)) : Option Bool :=
  bO (l_szNormalForm a1 a2 a3 1048576) fun x1 => br (decide (x1 < 0)) (some true) (bO (l_toNormalForm a1 a2 a3) fun x2 => bO (s_IsValidNormalForm x2.2.1 x2.1 x2.2.2) fun x3 => bO (l_toNormalForm a1 a2 a3) fun x4 => bO (i_IsValidNormalForm x4.2.1 x4.1 x4.2.2) fun x5 => br (x5 != x3) (some false) (bO (l_toNormalForm a1 a2 a3) fun x6 => bO (l_eqNormalForm x4.2.1 x4.1 x4.2.2 x6.2.1 x6.1 x6.2.2) fun x7 => br (!x7) (some false) (some true)))
set_option maxHeartbeats 4000000 in
theorem l_FnExactIsValidNormalForm_ok {a1 : List Int} {a2 : Int} {a3 : List (Int × Int × Int × Int)} {r : Bool} (h : l_FnExactIsValidNormalForm a1 a2 a3 = some r) :
    Spec Try.prog 6 [.agg [.sl (encL EI a1) a1.length, .int .i64 a2, .sl (encL EIIII a3) a3.length]] [] (.bool r) [] := by
  unfold l_FnExactIsValidNormalForm at h
  refine spec_of Try.func6 rfl (by kernel_rfl) (by simp only [Try.ntmps6, List.length_cons, List.length_nil, Nat.reduceAdd, Nat.reduceLeDiff]) ?_
  intro C hN hρ
  rw [Try.ntmps6] at hN
  unfold st0
  simp only [tmps0, Nat.zero_add, Nat.reduceAdd]
  refine AW_rs (BR := BR) FM (by rw [hN]; kernel_rfl) (by kernel_rfl) ?_
  intro K hK
  simp only [AE, TY, EN, seval]
  refine hK _ _ _ ?_
  clear hK K
  refine AW_rs (BR := BR) FM (by rw [hN]; kernel_rfl) (by kernel_rfl) ?_
  intro K hK
  simp only [AE, TY, EN, seval]
  refine hK _ _ _ ?_
  clear hK K
  refine AW_rs (BR := BR) FM (by rw [hN]; kernel_rfl) (by kernel_rfl) ?_
  intro K hK
  obtain ⟨x1, h1, h⟩ := bO_inv h
  simp only [AE, TY, EN, seval]
  refine rC_p (l_szNormalForm_ok h1) (by simp only [AL, AE, TY, EN, seval]) (by simp only [List.length_cons, List.length_nil, Nat.zero_add, Nat.reduceAdd, Nat.reduceLeDiff, Nat.zero_le]) (by intro j hj; exact absurd hj (Nat.not_lt_zero _)) ?_
  simp only [AE, TY, EN, seval]
  refine hK _ _ _ ?_
  clear hK K
  refine AW_seq ?_
  refine AW_rs (BR := BR) FM (by rw [hN]; kernel_rfl) (by kernel_rfl) ?_
  intro K hK
  simp only [AE, TY, EN, seval]
  refine hK _ _ _ ?_
  clear hK K
  refine AW_condK (a := .bool (decide (x1 < 0))) (by simp only [AE, TY, EN, seval]) (brK h (fun hc1 h => ?_) (fun hc1 h => ?_))
  · refine AW_rs (BR := BR) FM (by rw [hN]; kernel_rfl) (by kernel_rfl) ?_
    intro K hK
    simp only [AE, TY, EN, seval]
    refine hK _ _ _ ?_
    clear hK K
    injection h with h
    subst h
    refine AW_le (Le_can (lt := [(2, .bool true)]) (lr := []) (b' := 64) [] [] hρ (by kernel_rfl) ?_ ?_) (AW_ret (end_q [] (.inr rfl) (by kernel_rfl) (by kernel_rfl) ?_))
    · simp only [AL, AE, TY, EN, seval]
    · simp only [AL, AE, TY, EN, seval]
    · simp only [AE, TY, EN, Try.results6, seval]
  · refine AW_skip (show AW _ _ _ _ _ from ?_)
    refine AW_rs (BR := BR) FM (by rw [hN]; kernel_rfl) (by kernel_rfl) ?_
    intro K hK
    obtain ⟨x2, h2, h⟩ := bO_inv h
    simp only [AE, TY, EN, seval]
    refine rC_p (l_toNormalForm_ok h2) (by simp only [AL, AE, TY, EN, seval]) (by simp only [List.length_cons, List.length_nil, Nat.zero_add, Nat.reduceAdd, Nat.reduceLeDiff, Nat.zero_le]) (site_2 (by simp only [AE, TY, EN, seval])) ?_
    obtain ⟨x3, h3, h⟩ := bO_inv h
    simp only [AE, TY, EN, seval]
    refine rC_l (s_IsValidNormalForm_ok h3) (by simp only [AL, AE, TY, EN, seval]) (by simp only [AL, EF, and_self]) (by simp only [List.length_cons, List.length_nil, Nat.zero_add, Nat.reduceAdd, Nat.reduceLeDiff, Nat.zero_le]) (by intro j hj; exact absurd hj (Nat.not_lt_zero _)) ?_
    simp only [AE, TY, EN, seval]
    refine hK _ _ _ ?_
    clear hK K
    refine AW_rs (BR := BR) FM (by rw [hN]; kernel_rfl) (by kernel_rfl) ?_
    intro K hK
    obtain ⟨x4, h4, h⟩ := bO_inv h
    simp only [AE, TY, EN, seval]
    refine rC_p (l_toNormalForm_ok h4) (by simp only [AL, AE, TY, EN, seval]) (by simp only [List.length_cons, List.length_nil, Nat.zero_add, Nat.reduceAdd, Nat.reduceLeDiff, Nat.zero_le]) (site_2 (by simp only [AE, TY, EN, seval])) ?_
    simp only [AE, TY, EN, seval]
    refine hK _ _ _ ?_
    clear hK K
    refine AW_rs (BR := BR) FM (by rw [hN]; kernel_rfl) (by kernel_rfl) ?_
    intro K hK
    obtain ⟨x5, h5, h⟩ := bO_inv h
    simp only [AE, TY, EN, seval]
    refine rC_l (i_IsValidNormalForm_ok h5) (by simp only [AL, AE, TY, EN, seval]) (by simp only [AL, EF, and_self]) (by simp only [List.length_cons, List.length_nil, Nat.zero_add, Nat.reduceAdd, Nat.reduceLeDiff, Nat.zero_le]) (by intro j hj; exact absurd hj (Nat.not_lt_zero _)) ?_
    simp only [AE, TY, EN, seval]
    refine hK _ _ _ ?_
    clear hK K
    refine AW_seq ?_
    refine AW_rs (BR := BR) FM (by rw [hN]; kernel_rfl) (by kernel_rfl) ?_
    intro K hK
    simp only [AE, TY, EN, seval]
    refine hK _ _ _ ?_
    clear hK K
    refine AW_condK (a := .bool (x5 != x3)) (by simp only [AE, TY, EN, seval]) (brK h (fun hc2 h => ?_) (fun hc2 h => ?_))
    · refine AW_rs (BR := BR) FM (by rw [hN]; kernel_rfl) (by kernel_rfl) ?_
      intro K hK
      simp only [AE, TY, EN, seval]
      refine hK _ _ _ ?_
      clear hK K
      injection h with h
      subst h
      refine AW_le (Le_can (lt := [(2, .bool false)]) (lr := []) (b' := 64) [] [] hρ (by kernel_rfl) ?_ ?_) (AW_ret (end_q [] (.inr rfl) (by kernel_rfl) (by kernel_rfl) ?_))
      · simp only [AL, AE, TY, EN, seval]
      · simp only [AL, AE, TY, EN, seval]
      · simp only [AE, TY, EN, Try.results6, seval]
    · refine AW_skip (show AW _ _ _ _ _ from ?_)
      refine AW_seq ?_
      refine AW_rs (BR := BR) FM (by rw [hN]; kernel_rfl) (by kernel_rfl) ?_
      intro K hK
      obtain ⟨x6, h6, h⟩ := bO_inv h
      simp only [AE, TY, EN, seval]
      refine rC_p (l_toNormalForm_ok h6) (by simp only [AL, AE, TY, EN, seval]) (by simp only [List.length_cons, List.length_nil, Nat.zero_add, Nat.reduceAdd, Nat.reduceLeDiff, Nat.zero_le]) (site_2 (by simp only [AE, TY, EN, seval])) ?_
      obtain ⟨x7, h7, h⟩ := bO_inv h
      simp only [AE, TY, EN, seval]
      refine rC_l (l_eqNormalForm_ok h7) (by simp only [AL, AE, TY, EN, seval]) (by simp only [AL, EF, and_self]) (by simp only [List.length_cons, List.length_nil, Nat.zero_add, Nat.reduceAdd, Nat.reduceLeDiff, Nat.zero_le]) (by intro j hj; exact absurd hj (Nat.not_lt_zero _)) ?_
      simp only [AE, TY, EN, seval]
      refine hK _ _ _ ?_
      clear hK K
      refine AW_condK (a := .bool (!x7)) (by simp only [AE, TY, EN, seval]) (brK h (fun hc3 h => ?_) (fun hc3 h => ?_))
      · refine AW_rs (BR := BR) FM (by rw [hN]; kernel_rfl) (by kernel_rfl) ?_
        intro K hK
        simp only [AE, TY, EN, seval]
        refine hK _ _ _ ?_
        clear hK K
        injection h with h
        subst h
        refine AW_le (Le_can (lt := [(2, .bool false)]) (lr := []) (b' := 64) [] [] hρ (by kernel_rfl) ?_ ?_) (AW_ret (end_q [] (.inr rfl) (by kernel_rfl) (by kernel_rfl) ?_))
        · simp only [AL, AE, TY, EN, seval]
        · simp only [AL, AE, TY, EN, seval]
        · simp only [AE, TY, EN, Try.results6, seval]
      · refine AW_skip (show AW _ _ _ _ _ from ?_)
        refine AW_rs (BR := BR) FM (by rw [hN]; kernel_rfl) (by kernel_rfl) ?_
        intro K hK
        simp only [AE, TY, EN, seval]
        refine hK _ _ _ ?_
        clear hK K
        injection h with h
        subst h
        refine AW_le (Le_can (lt := [(2, .bool true)]) (lr := []) (b' := 64) [] [] hρ (by kernel_rfl) ?_ ?_) (AW_ret (end_q [] (.inr rfl) (by kernel_rfl) (by kernel_rfl) ?_))
        · simp only [AL, AE, TY, EN, seval]
        · simp only [AL, AE, TY, EN, seval]
        · simp only [AE, TY, EN, Try.results6, seval]
end Go.Proofs.Ytfpfalknddfejaa
