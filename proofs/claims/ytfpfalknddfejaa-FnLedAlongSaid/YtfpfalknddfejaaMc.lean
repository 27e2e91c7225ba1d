/- Models of functions, and that the functions do what the models say; printed by a program. -/
import Derived.Test.YtfpfalknddfejaaGn
import Derived.Test.YtfpfalknddfejaaMb
import Derived.Test.YtfpfalknddfejaaMa
namespace Go.Proofs.Ytfpfalknddfejaa
open Go.RowKit
set_option maxRecDepth 100000
set_option linter.unusedVariables false
set_option linter.unusedSimpArgs false
set_option linter.defProp false
/- impl.ConjugateByTableau -/
def i_ConjugateByTableau_j7 (v23 : Int) (kl1 : Int → Int → Int → Int → Int → Option (Int × Int × Int × Int × Bool)) (v32 : Int) (v33 : Int) (v34 : Int) (v35 : Int) : Option (Int × Int × Int × Int × Bool) :=
  kl1 (IntKind.wrap .i64 (v23 + 1)) v32 v33 v34 v35
def i_ConjugateByTableau_j8 (a1 : Int) (a2 : List (Int × Int × Int × Int)) (a5 : Int) (v23 : Int) (kl1 : Int → Int → Int → Int → Int → Option (Int × Int × Int × Int × Bool)) (v28 : Int) (v29 : Int) (v30 : Int) (v31 : Int) : Option (Int × Int × Int × Int × Bool) :=
  gd (decide (¬ v23 < 0)) (br ((bits .and .i64 (Int.fdiv a5 (2 ^ min (Int.toNat v23) (IntKind.bits .i64))) 1) == 1) (bO (geti a2 (IntKind.wrap .i64 (v23 + a1))) fun q6 => bO (i_MulPauli v28 v29 v30 v31 q6.1 q6.2.1 q6.2.2.1 q6.2.2.2) fun x13 => i_ConjugateByTableau_j7 v23 kl1 x13.1 x13.2.1 x13.2.2.1 x13.2.2.2.1) (i_ConjugateByTableau_j7 v23 kl1 v28 v29 v30 v31))
def i_ConjugateByTableau_j2 (v36 : Int) (v37 : Int) (v38 : Int) (v39 : Int) : Option (Int × Int × Int × Int × Bool) :=
  some (v36, v37, v38, v39, true)
def i_ConjugateByTableau_l1 (a1 : Int) (a2 : List (Int × Int × Int × Int)) (a3 : Int) (a4 : Int) (a5 : Int) : Nat → Int → Int → Int → Int → Int → Option (Int × Int × Int × Int × Bool)
  | 0, _, _, _, _, _ => none
  | n1 + 1, v23, v24, v25, v26, v27 =>
  br (decide (v23 < a3)) (gd (decide (¬ v23 < 0)) (br ((bits .and .i64 (Int.fdiv a4 (2 ^ min (Int.toNat v23) (IntKind.bits .i64))) 1) == 1) (bO (geti a2 v23) fun q5 => bO (i_MulPauli v24 v25 v26 v27 q5.1 q5.2.1 q5.2.2.1 q5.2.2.2) fun x12 => i_ConjugateByTableau_j8 a1 a2 a5 v23 (i_ConjugateByTableau_l1 a1 a2 a3 a4 a5 n1) x12.1 x12.2.1 x12.2.2.1 x12.2.2.2.1) (i_ConjugateByTableau_j8 a1 a2 a5 v23 (i_ConjugateByTableau_l1 a1 a2 a3 a4 a5 n1) v24 v25 v26 v27))) (i_ConjugateByTableau_j2 v24 v25 v26 v27)
def i_ConjugateByTableau_j1 (a1 : Int) (a2 : List (Int × Int × Int × Int)) (a3 : Int) (a4 : Int) (a5 : Int) (a6 : Int) (v1 : Bool) : Option (Int × Int × Int × Int × Bool) :=
  br v1 (some (0, 0, 0, 0, false)) (i_ConjugateByTableau_l1 a1 a2 a3 a4 a5 FU 0 a3 0 0 a6)
def i_ConjugateByTableau (a1 : Int) (a2 : List (Int × Int × Int × Int)) (a3 : Int) (a4 : Int) (a5 : Int) (a6 : Int) : Option (Int × Int × Int × Int × Bool) :=
  bO (i_IsValidTableau a1 a2) fun x1 => bO (br (!x1) (some true) (bO (i_IsValidPauli a3 a4 a5 a6) fun x2 => some (!x2))) fun x3 => bO (br x3 (some true) (some (a1 != a3))) fun x4 => i_ConjugateByTableau_j1 a1 a2 a3 a4 a5 a6 x4
set_option maxHeartbeats 4000000 in
theorem i_ConjugateByTableau_ok {a1 : Int} {a2 : List (Int × Int × Int × Int)} {a3 : Int} {a4 : Int} {a5 : Int} {a6 : Int} {r : Int × Int × Int × Int × Bool} (h : i_ConjugateByTableau a1 a2 a3 a4 a5 a6 = some r) :
    Spec Try.prog 19 [.agg [.int .i64 a1, .sl (encL EIIII a2) a2.length], .agg [.int .i64 a3, .int .i64 a4, .int .i64 a5, .int .i64 a6]] [] (.tup [.agg [.int .i64 r.1, .int .i64 r.2.1, .int .i64 r.2.2.1, .int .i64 r.2.2.2.1], .bool r.2.2.2.2]) [] := by
  unfold i_ConjugateByTableau at h
  refine spec_of Try.func19 rfl (by kernel_rfl) (by simp only [Try.ntmps19, List.length_cons, List.length_nil, Nat.reduceAdd, Nat.reduceLeDiff]) ?_
  intro C hN hρ
  rw [Try.ntmps19] at hN
  unfold st0
  simp only [tmps0, Nat.zero_add, Nat.reduceAdd]
  refine AW_rs (BR := BR) FM (by rw [hN]; kernel_rfl) (by kernel_rfl) ?_
  intro K hK
  simp only [AE, TY, EN, seval]
  refine hK _ _ _ ?_
  clear hK K
  refine AW_seq ?_
  refine AW_rsJ (BR := BR) (fun S => ∃ (v1 : Bool), S = ⟨mkT [(2, .ptr 32 0), (3, .ptr 33 0), (4, .ptr 34 0), (22, .bool v1)], mkR [(32, .box 33 [.int .i64 a1, .sl (encL EIIII a2) a2.length]), (33, .box 28 [.int .i64 a3, .int .i64 a4, .int .i64 a5, .int .i64 a6]), (34, .box 28 [.int .i64 0, .int .i64 0, .int .i64 0, .int .i64 0])], 64⟩ ∧ i_ConjugateByTableau_j1 a1 a2 a3 a4 a5 a6 v1 = some r) FM (by rw [hN]; kernel_rfl) (by kernel_rfl) ?_ ?_
  · intro K hK
    obtain ⟨x1, h1, h⟩ := bO_inv h
    simp only [AE, TY, EN, seval]
    refine rC_p (i_IsValidTableau_ok h1) (by simp only [AL, AE, TY, EN, seval]) (by simp only [List.length_cons, List.length_nil, Nat.zero_add, Nat.reduceAdd, Nat.reduceLeDiff, Nat.zero_le]) (by intro j hj; exact absurd hj (Nat.not_lt_zero _)) ?_
    obtain ⟨x3, hv1, h⟩ := bO_inv h
    rcases br_inv hv1 with ⟨hc1, hv1⟩ | ⟨hc1, hv1⟩
    · cases hv1
      obtain ⟨x5, hv3, h⟩ := bO_inv h
      replace hv3 := br_t hv3
      cases hv3
      try dsimp only at h
      simp only [AE, TY, EN, seval, hc1]
      refine hK _ _ _ (show cutK _ _ _ from cutL ⟨_, rfl, h⟩ (Le_can [(32, some 64), (33, some 80), (34, some 96)] [] hρ (by kernel_rfl) ?_ ?_))
      · simp only [AL, AE, TY, EN, seval, hc1]
      · simp only [AL, AE, TY, EN, seval, hc1]
    · obtain ⟨x6, h3, hv1⟩ := bO_inv hv1
      simp only [AE, TY, EN, seval, hc1]
      refine rC_p (i_IsValidPauli_ok h3) (by simp only [AL, AE, TY, EN, seval, hc1]) (by simp only [List.length_cons, List.length_nil, Nat.zero_add, Nat.reduceAdd, Nat.reduceLeDiff, Nat.zero_le]) (by intro j hj; exact absurd hj (Nat.not_lt_zero _)) ?_
      cases hv1
      obtain ⟨x7, hv4, h⟩ := bO_inv h
      rcases br_inv hv4 with ⟨hc3, hv4⟩ | ⟨hc3, hv4⟩
      · cases hv4
        simp only [AE, TY, EN, seval, hc1, hc3]
        refine hK _ _ _ (show cutK _ _ _ from cutL ⟨_, rfl, h⟩ (Le_can [(32, some 64), (33, some 80), (34, some 96)] [] hρ (by kernel_rfl) ?_ ?_))
        · simp only [AL, AE, TY, EN, seval, hc1, hc3]
        · simp only [AL, AE, TY, EN, seval, hc1, hc3]
      · cases hv4
        simp only [AE, TY, EN, seval, hc1, hc3]
        refine hK _ _ _ (show cutK _ _ _ from cutL ⟨_, rfl, h⟩ (Le_can [(32, some 64), (33, some 80), (34, some 96)] [] hρ (by kernel_rfl) ?_ ?_))
        · simp only [AL, AE, TY, EN, seval, hc1, hc3]
        · simp only [AL, AE, TY, EN, seval, hc1, hc3]
  · rintro S ⟨v1, rfl, h⟩
    unfold i_ConjugateByTableau_j1 at h
    refine AW_condK (a := .bool v1) (by simp only [AE, TY, EN, seval]) (brK h (fun hc4 h => ?_) (fun hc4 h => ?_))
    · refine AW_rs (BR := BR) FM (by rw [hN]; kernel_rfl) (by kernel_rfl) ?_
      intro K hK
      simp only [AE, TY, EN, seval]
      refine hK _ _ _ ?_
      clear hK K
      injection h with h
      subst h
      refine AW_le (Le_can (lt := [(4, .ptr 32 0), (5, .bool false)]) (lr := [(32, .box 28 [.int .i64 0, .int .i64 0, .int .i64 0, .int .i64 0])]) (b' := 64) [(32, some 34)] [] hρ (by kernel_rfl) ?_ ?_) (AW_ret (end_q [] (.inr rfl) (by kernel_rfl) (by kernel_rfl) ?_))
      · simp only [AL, AE, TY, EN, seval]
      · simp only [AL, AE, TY, EN, seval]
      · simp only [AE, TY, EN, Try.results19, seval]
    · refine AW_skip (show AW _ _ _ _ _ from ?_)
      refine AW_rs (BR := BR) FM (by rw [hN]; kernel_rfl) (by kernel_rfl) ?_
      intro K hK
      simp only [AE, TY, EN, seval]
      refine hK _ _ _ ?_
      clear hK K
      refine AW_cutK (fun S => ∃ (v36 : Int) (v37 : Int) (v38 : Int) (v39 : Int), S = ⟨mkT [(4, .ptr 32 0), (6, .ptr 33 0)], mkR [(32, .box 28 [.int .i64 0, .int .i64 0, .int .i64 0, .int .i64 0]), (33, .box 28 [.int .i64 v36, .int .i64 v37, .int .i64 v38, .int .i64 v39])], 64⟩ ∧ i_ConjugateByTableau_j2 v36 v37 v38 v39 = some r) ?_ ?_
      · refine AW_rs (BR := BR) FM (by rw [hN]; kernel_rfl) (by kernel_rfl) ?_
        intro K hK
        simp only [AE, TY, EN, seval]
        refine hK _ _ _ ?_
        clear hK K
        refine AW_block ?_
        refine AW_loopF (fun n S => ∃ (v23 : Int) (v24 : Int) (v25 : Int) (v26 : Int) (v27 : Int), S = ⟨mkT [(2, .ptr 32 0), (3, .ptr 33 0), (4, .ptr 34 0), (6, .ptr 35 0), (7, .int .i64 v23)], mkR [(32, .box 33 [.int .i64 a1, .sl (encL EIIII a2) a2.length]), (33, .box 28 [.int .i64 a3, .int .i64 a4, .int .i64 a5, .int .i64 a6]), (34, .box 28 [.int .i64 0, .int .i64 0, .int .i64 0, .int .i64 0]), (35, .box 28 [.int .i64 v24, .int .i64 v25, .int .i64 v26, .int .i64 v27])], 64⟩ ∧ i_ConjugateByTableau_l1 a1 a2 a3 a4 a5 n v23 v24 v25 v26 v27 = some r) FU ?_ ?_ ?_
        · refine cutL ⟨_, _, _, _, _, rfl, h⟩ (Le_can [(32, some 32), (33, some 33), (34, some 34), (35, some 144)] [] hρ (by kernel_rfl) ?_ ?_)
          · simp only [AL, AE, TY, EN, seval]
          · simp only [AL, AE, TY, EN, seval]
        · rintro S ⟨_, _, _, _, _, _, h⟩; rw [i_ConjugateByTableau_l1] at h; cases h
        · rintro n1 S ⟨v23, v24, v25, v26, v27, rfl, h⟩
          rw [i_ConjugateByTableau_l1] at h
          refine AW_seq ?_
          refine AW_rs (BR := BR) FM (by rw [hN]; kernel_rfl) (by kernel_rfl) ?_
          intro K hK
          simp only [AE, TY, EN, seval]
          refine hK _ _ _ ?_
          clear hK K
          refine AW_condK (a := .bool (decide (v23 < a3))) (by simp only [AE, TY, EN, seval]) (brK h (fun hc11 h => ?_) (fun hc11 h => ?_))
          · refine AW_skip (show AW _ _ _ _ _ from ?_)
            refine AW_cutK (fun S => ∃ (v32 : Int) (v33 : Int) (v34 : Int) (v35 : Int), S = ⟨mkT [(2, .ptr 32 0), (3, .ptr 33 0), (4, .ptr 34 0), (6, .ptr 35 0), (7, .int .i64 v23)], mkR [(32, .box 33 [.int .i64 a1, .sl (encL EIIII a2) a2.length]), (33, .box 28 [.int .i64 a3, .int .i64 a4, .int .i64 a5, .int .i64 a6]), (34, .box 28 [.int .i64 0, .int .i64 0, .int .i64 0, .int .i64 0]), (35, .box 28 [.int .i64 v32, .int .i64 v33, .int .i64 v34, .int .i64 v35])], 64⟩ ∧ i_ConjugateByTableau_j7 v23 (i_ConjugateByTableau_l1 a1 a2 a3 a4 a5 n1) v32 v33 v34 v35 = some r) ?_ ?_
            · refine AW_block ?_
              refine AW_cutK (fun S => ∃ (v28 : Int) (v29 : Int) (v30 : Int) (v31 : Int), S = ⟨mkT [(2, .ptr 32 0), (3, .ptr 33 0), (4, .ptr 34 0), (6, .ptr 35 0), (7, .int .i64 v23)], mkR [(32, .box 33 [.int .i64 a1, .sl (encL EIIII a2) a2.length]), (33, .box 28 [.int .i64 a3, .int .i64 a4, .int .i64 a5, .int .i64 a6]), (34, .box 28 [.int .i64 0, .int .i64 0, .int .i64 0, .int .i64 0]), (35, .box 28 [.int .i64 v28, .int .i64 v29, .int .i64 v30, .int .i64 v31])], 64⟩ ∧ i_ConjugateByTableau_j8 a1 a2 a5 v23 (i_ConjugateByTableau_l1 a1 a2 a3 a4 a5 n1) v28 v29 v30 v31 = some r) ?_ ?_
              · refine AW_rs (BR := BR) FM (by rw [hN]; kernel_rfl) (by kernel_rfl) ?_
                intro K hK
                obtain ⟨h18, h⟩ := gd_inv h
                replace h18 := of_decide_eq_true h18
                simp only [AE, TY, EN, seval, h18]
                refine hK _ _ _ ?_
                clear hK K
                refine AW_condK (a := .bool ((bits .and .i64 (Int.fdiv a4 (2 ^ min (Int.toNat v23) (IntKind.bits .i64))) 1) == 1)) (by simp only [AE, TY, EN, seval, h18]) (brK h (fun hc12 h => ?_) (fun hc12 h => ?_))
                · refine AW_re (BR := BR) FM (by rw [hN]; kernel_rfl) (by kernel_rfl) ?_
                  intro K hK
                  obtain ⟨q5, h19, h⟩ := bO_inv h
                  obtain ⟨⟨h20a, h20b⟩, h20c⟩ := geti_E EIIIIl h19
                  try simp only [AE, TY, EN, seval] at h20c
                  obtain ⟨x12, h21, h⟩ := bO_inv h
                  simp only [AE, TY, EN, seval, h20a, h20b, h20c]
                  refine rC_p (i_MulPauli_ok h21) (by simp only [AL, AE, TY, EN, seval, h20a, h20b, h20c]) (by simp only [List.length_cons, List.length_nil, Nat.zero_add, Nat.reduceAdd, Nat.reduceLeDiff, Nat.zero_le]) (by intro j hj; exact absurd hj (Nat.not_lt_zero _)) ?_
                  simp only [AE, TY, EN, seval, h20a, h20b, h20c]
                  refine hK _ _ _ (show cutK _ _ _ from cutL ⟨_, _, _, _, rfl, h⟩ (Le_can [(32, some 32), (33, some 33), (34, some 34), (35, some 35)] [] hρ (by kernel_rfl) ?_ ?_))
                  · simp only [AL, AE, TY, EN, seval, h20a, h20b, h20c]
                  · simp only [AL, AE, TY, EN, seval, h20a, h20b, h20c]
                · refine AW_skip (show cutK _ _ _ from cutL ⟨_, _, _, _, rfl, h⟩ (Le_can [(32, some 32), (33, some 33), (34, some 34), (35, some 35)] [] hρ (by kernel_rfl) ?_ ?_))
                  · simp only [AL, AE, TY, EN, seval, h18]
                  · simp only [AL, AE, TY, EN, seval, h18]
              · rintro S ⟨v28, v29, v30, v31, rfl, h⟩
                unfold i_ConjugateByTableau_j8 at h
                refine AW_rs (BR := BR) FM (by rw [hN]; kernel_rfl) (by kernel_rfl) ?_
                intro K hK
                obtain ⟨h22, h⟩ := gd_inv h
                replace h22 := of_decide_eq_true h22
                simp only [AE, TY, EN, seval, h22]
                refine hK _ _ _ ?_
                clear hK K
                refine AW_condK (a := .bool ((bits .and .i64 (Int.fdiv a5 (2 ^ min (Int.toNat v23) (IntKind.bits .i64))) 1) == 1)) (by simp only [AE, TY, EN, seval, h22]) (brK h (fun hc13 h => ?_) (fun hc13 h => ?_))
                · refine AW_re (BR := BR) FM (by rw [hN]; kernel_rfl) (by kernel_rfl) ?_
                  intro K hK
                  obtain ⟨q6, h23, h⟩ := bO_inv h
                  obtain ⟨⟨h24a, h24b⟩, h24c⟩ := geti_E EIIIIl h23
                  try simp only [AE, TY, EN, seval] at h24c
                  obtain ⟨x13, h25, h⟩ := bO_inv h
                  simp only [AE, TY, EN, seval, h24a, h24b, h24c]
                  refine rC_p (i_MulPauli_ok h25) (by simp only [AL, AE, TY, EN, seval, h24a, h24b, h24c]) (by simp only [List.length_cons, List.length_nil, Nat.zero_add, Nat.reduceAdd, Nat.reduceLeDiff, Nat.zero_le]) (by intro j hj; exact absurd hj (Nat.not_lt_zero _)) ?_
                  simp only [AE, TY, EN, seval, h24a, h24b, h24c]
                  refine hK _ _ _ (show cutK _ _ _ from cutL ⟨_, _, _, _, rfl, h⟩ (Le_can [(32, some 32), (33, some 33), (34, some 34), (35, some 35)] [] hρ (by kernel_rfl) ?_ ?_))
                  · simp only [AL, AE, TY, EN, seval, h24a, h24b, h24c]
                  · simp only [AL, AE, TY, EN, seval, h24a, h24b, h24c]
                · refine AW_skip (show cutK _ _ _ from cutL ⟨_, _, _, _, rfl, h⟩ (Le_can [(32, some 32), (33, some 33), (34, some 34), (35, some 35)] [] hρ (by kernel_rfl) ?_ ?_))
                  · simp only [AL, AE, TY, EN, seval, h22]
                  · simp only [AL, AE, TY, EN, seval, h22]
            · rintro S ⟨v32, v33, v34, v35, rfl, h⟩
              unfold i_ConjugateByTableau_j7 at h
              refine AW_re (BR := BR) FM (by rw [hN]; kernel_rfl) (by kernel_rfl) ?_
              intro K hK
              simp only [AE, TY, EN, seval]
              refine hK _ _ _ (show cutK _ _ _ from cutL ⟨_, _, _, _, _, rfl, h⟩ (Le_can [(32, some 32), (33, some 33), (34, some 34), (35, some 35)] [] hρ (by kernel_rfl) ?_ ?_))
              · simp only [AL, AE, TY, EN, seval]
              · simp only [AL, AE, TY, EN, seval]
          · refine AW_exit (show cutK _ _ _ from cutL ⟨_, _, _, _, rfl, h⟩ (Le_can [(32, some 34), (33, some 35)] [] hρ (by kernel_rfl) ?_ ?_))
            · simp only [AL, AE, TY, EN, seval]
            · simp only [AL, AE, TY, EN, seval]
      · rintro S ⟨v36, v37, v38, v39, rfl, h⟩
        unfold i_ConjugateByTableau_j2 at h
        refine AW_rs (BR := BR) FM (by rw [hN]; kernel_rfl) (by kernel_rfl) ?_
        intro K hK
        simp only [AE, TY, EN, seval]
        refine hK _ _ _ ?_
        clear hK K
        injection h with h
        subst h
        refine AW_le (Le_can (lt := [(4, .ptr 32 0), (5, .bool true)]) (lr := [(32, .box 28 [.int .i64 v36, .int .i64 v37, .int .i64 v38, .int .i64 v39])]) (b' := 64) [(32, some 32)] [] hρ (by kernel_rfl) ?_ ?_) (AW_ret (end_q [] (.inr rfl) (by kernel_rfl) (by kernel_rfl) ?_))
        · simp only [AL, AE, TY, EN, seval]
        · simp only [AL, AE, TY, EN, seval]
        · simp only [AE, TY, EN, Try.results19, seval]
/- spec.ConjugateByTableau -/
def s_ConjugateByTableau_j7 (v23 : Int) (kl1 : Int → Int → Int → Int → Int → Option (Int × Int × Int × Int × Bool)) (v32 : Int) (v33 : Int) (v34 : Int) (v35 : Int) : Option (Int × Int × Int × Int × Bool) :=
  kl1 (IntKind.wrap .i64 (v23 + 1)) v32 v33 v34 v35
def s_ConjugateByTableau_j8 (a2 : List (Int × Int × Int × Int)) (a3 : Int) (a5 : Int) (v23 : Int) (kl1 : Int → Int → Int → Int → Int → Option (Int × Int × Int × Int × Bool)) (v28 : Int) (v29 : Int) (v30 : Int) (v31 : Int) : Option (Int × Int × Int × Int × Bool) :=
  gd (decide (¬ (IntKind.wrap .u64 v23) < 0)) (br ((bits .and .i64 (Int.fdiv a5 (2 ^ min (Int.toNat (IntKind.wrap .u64 v23)) (IntKind.bits .i64))) 1) == 1) (bO (geti a2 (IntKind.wrap .i64 (v23 + a3))) fun q6 => bO (s_MulPauli v28 v29 v30 v31 q6.1 q6.2.1 q6.2.2.1 q6.2.2.2) fun x13 => s_ConjugateByTableau_j7 v23 kl1 x13.1 x13.2.1 x13.2.2.1 x13.2.2.2.1) (s_ConjugateByTableau_j7 v23 kl1 v28 v29 v30 v31))
def s_ConjugateByTableau_j2 (v36 : Int) (v37 : Int) (v38 : Int) (v39 : Int) : Option (Int × Int × Int × Int × Bool) :=
  some (v36, v37, v38, v39, true)
def s_ConjugateByTableau_l1 (a2 : List (Int × Int × Int × Int)) (a3 : Int) (a4 : Int) (a5 : Int) : Nat → Int → Int → Int → Int → Int → Option (Int × Int × Int × Int × Bool)
  | 0, _, _, _, _, _ => none
  | n1 + 1, v23, v24, v25, v26, v27 =>
  br (decide (v23 < a3)) (gd (decide (¬ (IntKind.wrap .u64 v23) < 0)) (br ((bits .and .i64 (Int.fdiv a4 (2 ^ min (Int.toNat (IntKind.wrap .u64 v23)) (IntKind.bits .i64))) 1) == 1) (bO (geti a2 v23) fun q5 => bO (s_MulPauli v24 v25 v26 v27 q5.1 q5.2.1 q5.2.2.1 q5.2.2.2) fun x12 => s_ConjugateByTableau_j8 a2 a3 a5 v23 (s_ConjugateByTableau_l1 a2 a3 a4 a5 n1) x12.1 x12.2.1 x12.2.2.1 x12.2.2.2.1) (s_ConjugateByTableau_j8 a2 a3 a5 v23 (s_ConjugateByTableau_l1 a2 a3 a4 a5 n1) v24 v25 v26 v27))) (s_ConjugateByTableau_j2 v24 v25 v26 v27)
def s_ConjugateByTableau_j1 (a2 : List (Int × Int × Int × Int)) (a3 : Int) (a4 : Int) (a5 : Int) (a6 : Int) (v1 : Bool) : Option (Int × Int × Int × Int × Bool) :=
  br v1 (some (0, 0, 0, 0, false)) (s_ConjugateByTableau_l1 a2 a3 a4 a5 FU 0 a3 0 0 a6)
def s_ConjugateByTableau (a1 : Int) (a2 : List (Int × Int × Int × Int)) (a3 : Int) (a4 : Int) (a5 : Int) (a6 : Int) : Option (Int × Int × Int × Int × Bool) :=
  bO (s_IsValidTableau a1 a2) fun x1 => bO (br (!x1) (some true) (bO (s_IsValidPauli a3 a4 a5 a6) fun x2 => some (!x2))) fun x3 => bO (br x3 (some true) (some (a1 != a3))) fun x4 => s_ConjugateByTableau_j1 a2 a3 a4 a5 a6 x4
set_option maxHeartbeats 4000000 in
theorem s_ConjugateByTableau_ok {a1 : Int} {a2 : List (Int × Int × Int × Int)} {a3 : Int} {a4 : Int} {a5 : Int} {a6 : Int} {r : Int × Int × Int × Int × Bool} (h : s_ConjugateByTableau a1 a2 a3 a4 a5 a6 = some r) :
    Spec Try.prog 16 [.agg [.int .i64 a1, .sl (encL EIIII a2) a2.length], .agg [.int .i64 a3, .int .i64 a4, .int .i64 a5, .int .i64 a6]] [] (.tup [.agg [.int .i64 r.1, .int .i64 r.2.1, .int .i64 r.2.2.1, .int .i64 r.2.2.2.1], .bool r.2.2.2.2]) [] := by
  unfold s_ConjugateByTableau at h
  refine spec_of Try.func16 rfl (by kernel_rfl) (by simp only [Try.ntmps16, List.length_cons, List.length_nil, Nat.reduceAdd, Nat.reduceLeDiff]) ?_
  intro C hN hρ
  rw [Try.ntmps16] at hN
  unfold st0
  simp only [tmps0, Nat.zero_add, Nat.reduceAdd]
  refine AW_rs (BR := BR) FM (by rw [hN]; kernel_rfl) (by kernel_rfl) ?_
  intro K hK
  simp only [AE, TY, EN, seval]
  refine hK _ _ _ ?_
  clear hK K
  refine AW_seq ?_
  refine AW_rsJ (BR := BR) (fun S => ∃ (v1 : Bool), S = ⟨mkT [(2, .ptr 32 0), (3, .ptr 33 0), (4, .ptr 34 0), (22, .bool v1)], mkR [(32, .box 33 [.int .i64 a1, .sl (encL EIIII a2) a2.length]), (33, .box 28 [.int .i64 a3, .int .i64 a4, .int .i64 a5, .int .i64 a6]), (34, .box 28 [.int .i64 0, .int .i64 0, .int .i64 0, .int .i64 0])], 64⟩ ∧ s_ConjugateByTableau_j1 a2 a3 a4 a5 a6 v1 = some r) FM (by rw [hN]; kernel_rfl) (by kernel_rfl) ?_ ?_
  · intro K hK
    obtain ⟨x1, h1, h⟩ := bO_inv h
    simp only [AE, TY, EN, seval]
    refine rC_p (s_IsValidTableau_ok h1) (by simp only [AL, AE, TY, EN, seval]) (by simp only [List.length_cons, List.length_nil, Nat.zero_add, Nat.reduceAdd, Nat.reduceLeDiff, Nat.zero_le]) (by intro j hj; exact absurd hj (Nat.not_lt_zero _)) ?_
    obtain ⟨x3, hv1, h⟩ := bO_inv h
    rcases br_inv hv1 with ⟨hc1, hv1⟩ | ⟨hc1, hv1⟩
    · cases hv1
      obtain ⟨x5, hv3, h⟩ := bO_inv h
      replace hv3 := br_t hv3
      cases hv3
      try dsimp only at h
      simp only [AE, TY, EN, seval, hc1]
      refine hK _ _ _ (show cutK _ _ _ from cutL ⟨_, rfl, h⟩ (Le_can [(32, some 64), (33, some 80), (34, some 96)] [] hρ (by kernel_rfl) ?_ ?_))
      · simp only [AL, AE, TY, EN, seval, hc1]
      · simp only [AL, AE, TY, EN, seval, hc1]
    · obtain ⟨x6, h3, hv1⟩ := bO_inv hv1
      simp only [AE, TY, EN, seval, hc1]
      refine rC_p (s_IsValidPauli_ok h3) (by simp only [AL, AE, TY, EN, seval, hc1]) (by simp only [List.length_cons, List.length_nil, Nat.zero_add, Nat.reduceAdd, Nat.reduceLeDiff, Nat.zero_le]) (by intro j hj; exact absurd hj (Nat.not_lt_zero _)) ?_
      cases hv1
      obtain ⟨x7, hv4, h⟩ := bO_inv h
      rcases br_inv hv4 with ⟨hc3, hv4⟩ | ⟨hc3, hv4⟩
      · cases hv4
        simp only [AE, TY, EN, seval, hc1, hc3]
        refine hK _ _ _ (show cutK _ _ _ from cutL ⟨_, rfl, h⟩ (Le_can [(32, some 64), (33, some 80), (34, some 96)] [] hρ (by kernel_rfl) ?_ ?_))
        · simp only [AL, AE, TY, EN, seval, hc1, hc3]
        · simp only [AL, AE, TY, EN, seval, hc1, hc3]
      · cases hv4
        simp only [AE, TY, EN, seval, hc1, hc3]
        refine hK _ _ _ (show cutK _ _ _ from cutL ⟨_, rfl, h⟩ (Le_can [(32, some 64), (33, some 80), (34, some 96)] [] hρ (by kernel_rfl) ?_ ?_))
        · simp only [AL, AE, TY, EN, seval, hc1, hc3]
        · simp only [AL, AE, TY, EN, seval, hc1, hc3]
  · rintro S ⟨v1, rfl, h⟩
    unfold s_ConjugateByTableau_j1 at h
    refine AW_condK (a := .bool v1) (by simp only [AE, TY, EN, seval]) (brK h (fun hc4 h => ?_) (fun hc4 h => ?_))
    · refine AW_rs (BR := BR) FM (by rw [hN]; kernel_rfl) (by kernel_rfl) ?_
      intro K hK
      simp only [AE, TY, EN, seval]
      refine hK _ _ _ ?_
      clear hK K
      injection h with h
      subst h
      refine AW_le (Le_can (lt := [(4, .ptr 32 0), (5, .bool false)]) (lr := [(32, .box 28 [.int .i64 0, .int .i64 0, .int .i64 0, .int .i64 0])]) (b' := 64) [(32, some 34)] [] hρ (by kernel_rfl) ?_ ?_) (AW_ret (end_q [] (.inr rfl) (by kernel_rfl) (by kernel_rfl) ?_))
      · simp only [AL, AE, TY, EN, seval]
      · simp only [AL, AE, TY, EN, seval]
      · simp only [AE, TY, EN, Try.results16, seval]
    · refine AW_skip (show AW _ _ _ _ _ from ?_)
      refine AW_rs (BR := BR) FM (by rw [hN]; kernel_rfl) (by kernel_rfl) ?_
      intro K hK
      simp only [AE, TY, EN, seval]
      refine hK _ _ _ ?_
      clear hK K
      refine AW_cutK (fun S => ∃ (v36 : Int) (v37 : Int) (v38 : Int) (v39 : Int), S = ⟨mkT [(4, .ptr 32 0), (6, .ptr 33 0)], mkR [(32, .box 28 [.int .i64 0, .int .i64 0, .int .i64 0, .int .i64 0]), (33, .box 28 [.int .i64 v36, .int .i64 v37, .int .i64 v38, .int .i64 v39])], 64⟩ ∧ s_ConjugateByTableau_j2 v36 v37 v38 v39 = some r) ?_ ?_
      · refine AW_rs (BR := BR) FM (by rw [hN]; kernel_rfl) (by kernel_rfl) ?_
        intro K hK
        simp only [AE, TY, EN, seval]
        refine hK _ _ _ ?_
        clear hK K
        refine AW_block ?_
        refine AW_loopF (fun n S => ∃ (v23 : Int) (v24 : Int) (v25 : Int) (v26 : Int) (v27 : Int), S = ⟨mkT [(2, .ptr 32 0), (3, .ptr 33 0), (4, .ptr 34 0), (6, .ptr 35 0), (7, .int .i64 v23)], mkR [(32, .box 33 [.int .i64 a1, .sl (encL EIIII a2) a2.length]), (33, .box 28 [.int .i64 a3, .int .i64 a4, .int .i64 a5, .int .i64 a6]), (34, .box 28 [.int .i64 0, .int .i64 0, .int .i64 0, .int .i64 0]), (35, .box 28 [.int .i64 v24, .int .i64 v25, .int .i64 v26, .int .i64 v27])], 64⟩ ∧ s_ConjugateByTableau_l1 a2 a3 a4 a5 n v23 v24 v25 v26 v27 = some r) FU ?_ ?_ ?_
        · refine cutL ⟨_, _, _, _, _, rfl, h⟩ (Le_can [(32, some 32), (33, some 33), (34, some 34), (35, some 144)] [] hρ (by kernel_rfl) ?_ ?_)
          · simp only [AL, AE, TY, EN, seval]
          · simp only [AL, AE, TY, EN, seval]
        · rintro S ⟨_, _, _, _, _, _, h⟩; rw [s_ConjugateByTableau_l1] at h; cases h
        · rintro n1 S ⟨v23, v24, v25, v26, v27, rfl, h⟩
          rw [s_ConjugateByTableau_l1] at h
          refine AW_seq ?_
          refine AW_rs (BR := BR) FM (by rw [hN]; kernel_rfl) (by kernel_rfl) ?_
          intro K hK
          simp only [AE, TY, EN, seval]
          refine hK _ _ _ ?_
          clear hK K
          refine AW_condK (a := .bool (decide (v23 < a3))) (by simp only [AE, TY, EN, seval]) (brK h (fun hc11 h => ?_) (fun hc11 h => ?_))
          · refine AW_skip (show AW _ _ _ _ _ from ?_)
            refine AW_cutK (fun S => ∃ (v32 : Int) (v33 : Int) (v34 : Int) (v35 : Int), S = ⟨mkT [(2, .ptr 32 0), (3, .ptr 33 0), (4, .ptr 34 0), (6, .ptr 35 0), (7, .int .i64 v23)], mkR [(32, .box 33 [.int .i64 a1, .sl (encL EIIII a2) a2.length]), (33, .box 28 [.int .i64 a3, .int .i64 a4, .int .i64 a5, .int .i64 a6]), (34, .box 28 [.int .i64 0, .int .i64 0, .int .i64 0, .int .i64 0]), (35, .box 28 [.int .i64 v32, .int .i64 v33, .int .i64 v34, .int .i64 v35])], 64⟩ ∧ s_ConjugateByTableau_j7 v23 (s_ConjugateByTableau_l1 a2 a3 a4 a5 n1) v32 v33 v34 v35 = some r) ?_ ?_
            · refine AW_block ?_
              refine AW_cutK (fun S => ∃ (v28 : Int) (v29 : Int) (v30 : Int) (v31 : Int), S = ⟨mkT [(2, .ptr 32 0), (3, .ptr 33 0), (4, .ptr 34 0), (6, .ptr 35 0), (7, .int .i64 v23)], mkR [(32, .box 33 [.int .i64 a1, .sl (encL EIIII a2) a2.length]), (33, .box 28 [.int .i64 a3, .int .i64 a4, .int .i64 a5, .int .i64 a6]), (34, .box 28 [.int .i64 0, .int .i64 0, .int .i64 0, .int .i64 0]), (35, .box 28 [.int .i64 v28, .int .i64 v29, .int .i64 v30, .int .i64 v31])], 64⟩ ∧ s_ConjugateByTableau_j8 a2 a3 a5 v23 (s_ConjugateByTableau_l1 a2 a3 a4 a5 n1) v28 v29 v30 v31 = some r) ?_ ?_
              · refine AW_rs (BR := BR) FM (by rw [hN]; kernel_rfl) (by kernel_rfl) ?_
                intro K hK
                obtain ⟨h20, h⟩ := gd_inv h
                replace h20 := of_decide_eq_true h20
                simp only [AE, TY, EN, seval, h20]
                refine hK _ _ _ ?_
                clear hK K
                refine AW_condK (a := .bool ((bits .and .i64 (Int.fdiv a4 (2 ^ min (Int.toNat (IntKind.wrap .u64 v23)) (IntKind.bits .i64))) 1) == 1)) (by simp only [AE, TY, EN, seval, h20]) (brK h (fun hc12 h => ?_) (fun hc12 h => ?_))
                · refine AW_re (BR := BR) FM (by rw [hN]; kernel_rfl) (by kernel_rfl) ?_
                  intro K hK
                  obtain ⟨q5, h21, h⟩ := bO_inv h
                  obtain ⟨⟨h22a, h22b⟩, h22c⟩ := geti_E EIIIIl h21
                  try simp only [AE, TY, EN, seval] at h22c
                  obtain ⟨x12, h23, h⟩ := bO_inv h
                  simp only [AE, TY, EN, seval, h22a, h22b, h22c]
                  refine rC_p (s_MulPauli_ok h23) (by simp only [AL, AE, TY, EN, seval, h22a, h22b, h22c]) (by simp only [List.length_cons, List.length_nil, Nat.zero_add, Nat.reduceAdd, Nat.reduceLeDiff, Nat.zero_le]) (by intro j hj; exact absurd hj (Nat.not_lt_zero _)) ?_
                  simp only [AE, TY, EN, seval, h22a, h22b, h22c]
                  refine hK _ _ _ (show cutK _ _ _ from cutL ⟨_, _, _, _, rfl, h⟩ (Le_can [(32, some 32), (33, some 33), (34, some 34), (35, some 35)] [] hρ (by kernel_rfl) ?_ ?_))
                  · simp only [AL, AE, TY, EN, seval, h22a, h22b, h22c]
                  · simp only [AL, AE, TY, EN, seval, h22a, h22b, h22c]
                · refine AW_skip (show cutK _ _ _ from cutL ⟨_, _, _, _, rfl, h⟩ (Le_can [(32, some 32), (33, some 33), (34, some 34), (35, some 35)] [] hρ (by kernel_rfl) ?_ ?_))
                  · simp only [AL, AE, TY, EN, seval, h20]
                  · simp only [AL, AE, TY, EN, seval, h20]
              · rintro S ⟨v28, v29, v30, v31, rfl, h⟩
                unfold s_ConjugateByTableau_j8 at h
                refine AW_rs (BR := BR) FM (by rw [hN]; kernel_rfl) (by kernel_rfl) ?_
                intro K hK
                obtain ⟨h24, h⟩ := gd_inv h
                replace h24 := of_decide_eq_true h24
                simp only [AE, TY, EN, seval, h24]
                refine hK _ _ _ ?_
                clear hK K
                refine AW_condK (a := .bool ((bits .and .i64 (Int.fdiv a5 (2 ^ min (Int.toNat (IntKind.wrap .u64 v23)) (IntKind.bits .i64))) 1) == 1)) (by simp only [AE, TY, EN, seval, h24]) (brK h (fun hc13 h => ?_) (fun hc13 h => ?_))
                · refine AW_re (BR := BR) FM (by rw [hN]; kernel_rfl) (by kernel_rfl) ?_
                  intro K hK
                  obtain ⟨q6, h25, h⟩ := bO_inv h
                  obtain ⟨⟨h26a, h26b⟩, h26c⟩ := geti_E EIIIIl h25
                  try simp only [AE, TY, EN, seval] at h26c
                  obtain ⟨x13, h27, h⟩ := bO_inv h
                  simp only [AE, TY, EN, seval, h26a, h26b, h26c]
                  refine rC_p (s_MulPauli_ok h27) (by simp only [AL, AE, TY, EN, seval, h26a, h26b, h26c]) (by simp only [List.length_cons, List.length_nil, Nat.zero_add, Nat.reduceAdd, Nat.reduceLeDiff, Nat.zero_le]) (by intro j hj; exact absurd hj (Nat.not_lt_zero _)) ?_
                  simp only [AE, TY, EN, seval, h26a, h26b, h26c]
                  refine hK _ _ _ (show cutK _ _ _ from cutL ⟨_, _, _, _, rfl, h⟩ (Le_can [(32, some 32), (33, some 33), (34, some 34), (35, some 35)] [] hρ (by kernel_rfl) ?_ ?_))
                  · simp only [AL, AE, TY, EN, seval, h26a, h26b, h26c]
                  · simp only [AL, AE, TY, EN, seval, h26a, h26b, h26c]
                · refine AW_skip (show cutK _ _ _ from cutL ⟨_, _, _, _, rfl, h⟩ (Le_can [(32, some 32), (33, some 33), (34, some 34), (35, some 35)] [] hρ (by kernel_rfl) ?_ ?_))
                  · simp only [AL, AE, TY, EN, seval, h24]
                  · simp only [AL, AE, TY, EN, seval, h24]
            · rintro S ⟨v32, v33, v34, v35, rfl, h⟩
              unfold s_ConjugateByTableau_j7 at h
              refine AW_re (BR := BR) FM (by rw [hN]; kernel_rfl) (by kernel_rfl) ?_
              intro K hK
              simp only [AE, TY, EN, seval]
              refine hK _ _ _ (show cutK _ _ _ from cutL ⟨_, _, _, _, _, rfl, h⟩ (Le_can [(32, some 32), (33, some 33), (34, some 34), (35, some 35)] [] hρ (by kernel_rfl) ?_ ?_))
              · simp only [AL, AE, TY, EN, seval]
              · simp only [AL, AE, TY, EN, seval]
          · refine AW_exit (show cutK _ _ _ from cutL ⟨_, _, _, _, rfl, h⟩ (Le_can [(32, some 34), (33, some 35)] [] hρ (by kernel_rfl) ?_ ?_))
            · simp only [AL, AE, TY, EN, seval]
            · simp only [AL, AE, TY, EN, seval]
      · rintro S ⟨v36, v37, v38, v39, rfl, h⟩
        unfold s_ConjugateByTableau_j2 at h
        refine AW_rs (BR := BR) FM (by rw [hN]; kernel_rfl) (by kernel_rfl) ?_
        intro K hK
        simp only [AE, TY, EN, seval]
        refine hK _ _ _ ?_
        clear hK K
        injection h with h
        subst h
        refine AW_le (Le_can (lt := [(4, .ptr 32 0), (5, .bool true)]) (lr := [(32, .box 28 [.int .i64 v36, .int .i64 v37, .int .i64 v38, .int .i64 v39])]) (b' := 64) [(32, some 32)] [] hρ (by kernel_rfl) ?_ ?_) (AW_ret (end_q [] (.inr rfl) (by kernel_rfl) (by kernel_rfl) ?_))
        · simp only [AL, AE, TY, EN, seval]
        · simp only [AL, AE, TY, EN, seval]
        · simp only [AE, TY, EN, Try.results16, seval]
/- impl.CosetIndex -/
def i_CosetIndex_j5 (v9 : Int) (v10 : Int) (v11 : List (Int × Int × Int × Int)) (kl1 : Int → Int → (List (Int × Int × Int × Int)) → Option Int) (v12 : Bool) : Option Int :=
  br v12 (some v10) (kl1 v9 (IntKind.wrap .i64 (v10 + 1)) v11)
def i_CosetIndex_j2 : Option Int :=
  some (-1)
def i_CosetIndex_l1 : Nat → Int → Int → (List (Int × Int × Int × Int)) → Option Int
  | 0, _, _, _ => none
  | n1 + 1, v9, v10, v11 =>
  br (decide (v10 < v9)) (bO (geti v11 v10) fun q5 => bO (br (q5.2.1 == 0) (some (q5.2.2.1 == 1)) (some false)) fun x7 => i_CosetIndex_j5 v9 v10 v11 (i_CosetIndex_l1 n1) x7) (i_CosetIndex_j2)
def i_CosetIndex_j1 (a1 : Int) (a2 : List (Int × Int × Int × Int)) (v1 : Bool) : Option Int :=
  br v1 (some (-1)) (bO (i_ConjugateByTableau a1 a2 1 1 1 0) fun x4 => bO (geti a2 1) fun q1 => bO (geti a2 0) fun q2 => i_CosetIndex_l1 FU ((([(q1.1, q1.2.1, q1.2.2.1, q1.2.2.2), (q2.1, q2.2.1, q2.2.2.1, q2.2.2.2), (x4.1, x4.2.1, x4.2.2.1, x4.2.2.2.1)]).length : Int)) 0 ([(q1.1, q1.2.1, q1.2.2.1, q1.2.2.2), (q2.1, q2.2.1, q2.2.2.1, q2.2.2.2), (x4.1, x4.2.1, x4.2.2.1, x4.2.2.2.1)]))
def i_CosetIndex (a1 : Int) (a2 : List (Int × Int × Int × Int)) : Option Int :=
  bO (br (a1 != 1) (some true) (bO (i_IsValidTableau a1 a2) fun x1 => some (!x1))) fun x2 => i_CosetIndex_j1 a1 a2 x2
set_option maxHeartbeats 4000000 in
theorem i_CosetIndex_ok {a1 : Int} {a2 : List (Int × Int × Int × Int)} {r : Int} (h : i_CosetIndex a1 a2 = some r) :
    Spec Try.prog 23 [.agg [.int .i64 a1, .sl (encL EIIII a2) a2.length]] [] (.int .i64 r) [] := by
  unfold i_CosetIndex at h
  refine spec_of Try.func23 rfl (by kernel_rfl) (by simp only [Try.ntmps23, List.length_cons, List.length_nil, Nat.reduceAdd, Nat.reduceLeDiff]) ?_
  intro C hN hρ
  rw [Try.ntmps23] at hN
  unfold st0
  simp only [tmps0, Nat.zero_add, Nat.reduceAdd]
  refine AW_rs (BR := BR) FM (by rw [hN]; kernel_rfl) (by kernel_rfl) ?_
  intro K hK
  simp only [AE, TY, EN, seval]
  refine hK _ _ _ ?_
  clear hK K
  refine AW_seq ?_
  refine AW_rsJ (BR := BR) (fun S => ∃ (v1 : Bool), S = ⟨mkT [(1, .ptr 32 0), (14, .bool v1)], mkR [(32, .box 33 [.int .i64 a1, .sl (encL EIIII a2) a2.length])], 64⟩ ∧ i_CosetIndex_j1 a1 a2 v1 = some r) FM (by rw [hN]; kernel_rfl) (by kernel_rfl) ?_ ?_
  · intro K hK
    obtain ⟨x2, hv1, h⟩ := bO_inv h
    rcases br_inv hv1 with ⟨hc1, hv1⟩ | ⟨hc1, hv1⟩
    · cases hv1
      simp only [AE, TY, EN, seval, hc1]
      refine hK _ _ _ (show cutK _ _ _ from cutL ⟨_, rfl, h⟩ (Le_can [(32, some 64)] [] hρ (by kernel_rfl) ?_ ?_))
      · simp only [AL, AE, TY, EN, seval, hc1]
      · simp only [AL, AE, TY, EN, seval, hc1]
    · obtain ⟨x3, h2, hv1⟩ := bO_inv hv1
      simp only [AE, TY, EN, seval, hc1]
      refine rC_p (i_IsValidTableau_ok h2) (by simp only [AL, AE, TY, EN, seval, hc1]) (by simp only [List.length_cons, List.length_nil, Nat.zero_add, Nat.reduceAdd, Nat.reduceLeDiff, Nat.zero_le]) (by intro j hj; exact absurd hj (Nat.not_lt_zero _)) ?_
      cases hv1
      simp only [AE, TY, EN, seval, hc1]
      refine hK _ _ _ (show cutK _ _ _ from cutL ⟨_, rfl, h⟩ (Le_can [(32, some 64)] [] hρ (by kernel_rfl) ?_ ?_))
      · simp only [AL, AE, TY, EN, seval, hc1]
      · simp only [AL, AE, TY, EN, seval, hc1]
  · rintro S ⟨v1, rfl, h⟩
    unfold i_CosetIndex_j1 at h
    refine AW_condK (a := .bool v1) (by simp only [AE, TY, EN, seval]) (brK h (fun hc2 h => ?_) (fun hc2 h => ?_))
    · refine AW_rs (BR := BR) FM (by rw [hN]; kernel_rfl) (by kernel_rfl) ?_
      intro K hK
      simp only [AE, TY, EN, seval]
      refine hK _ _ _ ?_
      clear hK K
      injection h with h
      subst h
      refine AW_le (Le_can (lt := [(2, .int .i64 (-1))]) (lr := []) (b' := 64) [] [] hρ (by kernel_rfl) ?_ ?_) (AW_ret (end_q [] (.inr rfl) (by kernel_rfl) (by kernel_rfl) ?_))
      · simp only [AL, AE, TY, EN, seval]
      · simp only [AL, AE, TY, EN, seval]
      · simp only [AE, TY, EN, Try.results23, seval]
    · refine AW_skip (show AW _ _ _ _ _ from ?_)
      refine AW_rs (BR := BR) FM (by rw [hN]; kernel_rfl) (by kernel_rfl) ?_
      intro K hK
      obtain ⟨x4, h3, h⟩ := bO_inv h
      simp only [AE, TY, EN, seval]
      refine rC_p (i_ConjugateByTableau_ok h3) (by simp only [AL, AE, TY, EN, seval]) (by simp only [List.length_cons, List.length_nil, Nat.zero_add, Nat.reduceAdd, Nat.reduceLeDiff, Nat.zero_le]) (by intro j hj; exact absurd hj (Nat.not_lt_zero _)) ?_
      simp only [AE, TY, EN, seval]
      refine hK _ _ _ ?_
      clear hK K
      refine AW_cutK (fun S => S = ⟨mkT [], mkR [], 64⟩ ∧ i_CosetIndex_j2 = some r) ?_ ?_
      · refine AW_rs (BR := BR) FM (by rw [hN]; kernel_rfl) (by kernel_rfl) ?_
        intro K hK
        obtain ⟨q1, h4, h⟩ := bO_inv h
        obtain ⟨⟨h5a, h5b⟩, h5c⟩ := geti_E EIIIIl h4
        try simp only [AE, TY, EN, seval] at h5c
        obtain ⟨q2, h6, h⟩ := bO_inv h
        obtain ⟨⟨h7a, h7b⟩, h7c⟩ := geti_E EIIIIl h6
        try simp only [AE, TY, EN, seval] at h7c
        try simp only [AE, TY, EN, seval, h7c] at h5c
        simp only [AE, TY, EN, seval, h5a, h5b, h5c, h7a, h7b, h7c]
        refine hK _ _ _ ?_
        clear hK K
        refine AW_block ?_
        refine AW_loopF (fun n S => ∃ (v9 : Int) (v10 : Int) (v11 : List (Int × Int × Int × Int)), S = ⟨mkT [(30, .own 32 v11.length), (31, .int .i64 v9), (32, .int .i64 v10)], mkR [(32, .row 28 4 (encL EIIII v11))], 64⟩ ∧ i_CosetIndex_l1 n v9 v10 v11 = some r) FU ?_ ?_ ?_
        · refine cutL ⟨_, _, _, rfl, h⟩ (Le_can [(32, some 1232)] [] hρ (by kernel_rfl) ?_ ?_)
          · simp only [AL, AE, TY, EN, seval, h5a, h5b, h5c, h7a, h7b, h7c]
          · simp only [AL, AE, TY, EN, seval, h5a, h5b, h5c, h7a, h7b, h7c]
        · rintro S ⟨_, _, _, _, h⟩; rw [i_CosetIndex_l1] at h; cases h
        · rintro n1 S ⟨v9, v10, v11, rfl, h⟩
          rw [i_CosetIndex_l1] at h
          refine AW_rs (BR := BR) FM (by rw [hN]; kernel_rfl) (by kernel_rfl) ?_
          intro K hK
          simp only [AE, TY, EN, seval, h7c]
          refine hK _ _ _ ?_
          clear hK K
          refine AW_seq ?_
          refine AW_condK (a := .bool (decide (v10 < v9))) (by simp only [AE, TY, EN, seval, h7c]) (brK h (fun hc9 h => ?_) (fun hc9 h => ?_))
          · refine AW_skip (show AW _ _ _ _ _ from ?_)
            refine AW_seq ?_
            refine AW_block ?_
            refine AW_rs (BR := BR) FM (by rw [hN]; kernel_rfl) (by kernel_rfl) ?_
            intro K hK
            obtain ⟨q5, h12, h⟩ := bO_inv h
            obtain ⟨⟨h13a, h13b⟩, h13c⟩ := geti_E EIIIIl h12
            try simp only [AE, TY, EN, seval] at h13c
            simp only [AE, TY, EN, seval, h13a, h13b, h13c, h7c]
            refine hK _ _ _ ?_
            clear hK K
            refine AW_rsJ (BR := BR) (fun S => ∃ (v12 : Bool), S = ⟨mkT [(5, .int .i64 v10), (30, .own 32 v11.length), (31, .int .i64 v9), (32, .int .i64 v10), (44, .bool v12)], mkR [(32, .row 28 4 (encL EIIII v11))], 64⟩ ∧ i_CosetIndex_j5 v9 v10 v11 (i_CosetIndex_l1 n1) v12 = some r) FM (by rw [hN]; kernel_rfl) (by kernel_rfl) ?_ ?_
            · intro K hK
              obtain ⟨x7, hv4, h⟩ := bO_inv h
              rcases br_inv hv4 with ⟨hc10, hv4⟩ | ⟨hc10, hv4⟩
              · cases hv4
                simp only [AE, TY, EN, seval, hc10, h7c]
                refine hK _ _ _ (show cutK _ _ _ from cutL ⟨_, rfl, h⟩ (Le_can [(32, some 32)] [] hρ (by kernel_rfl) ?_ ?_))
                · simp only [AL, AE, TY, EN, seval, hc10, h7c]
                · simp only [AL, AE, TY, EN, seval, hc10, h7c]
              · cases hv4
                simp only [AE, TY, EN, seval, hc10, h7c]
                refine hK _ _ _ (show cutK _ _ _ from cutL ⟨_, rfl, h⟩ (Le_can [(32, some 32)] [] hρ (by kernel_rfl) ?_ ?_))
                · simp only [AL, AE, TY, EN, seval, hc10, h7c]
                · simp only [AL, AE, TY, EN, seval, hc10, h7c]
            · rintro S ⟨v12, rfl, h⟩
              unfold i_CosetIndex_j5 at h
              refine AW_condK (a := .bool v12) (by simp only [AE, TY, EN, seval, h13a, h13b, h13c, h7c]) (brK h (fun hc11 h => ?_) (fun hc11 h => ?_))
              · refine AW_rs (BR := BR) FM (by rw [hN]; kernel_rfl) (by kernel_rfl) ?_
                intro K hK
                simp only [AE, TY, EN, seval, h7c]
                refine hK _ _ _ ?_
                clear hK K
                injection h with h
                subst h
                refine AW_le (Le_can (lt := [(2, .int .i64 v10)]) (lr := []) (b' := 64) [] [] hρ (by kernel_rfl) ?_ ?_) (AW_ret (end_q [] (.inr rfl) (by kernel_rfl) (by kernel_rfl) ?_))
                · simp only [AL, AE, TY, EN, seval, h7c]
                · simp only [AL, AE, TY, EN, seval, h7c]
                · simp only [AE, TY, EN, Try.results23, seval]
              · refine AW_skip (show AW _ _ _ _ _ from ?_)
                refine AW_re (BR := BR) FM (by rw [hN]; kernel_rfl) (by kernel_rfl) ?_
                intro K hK
                simp only [AE, TY, EN, seval, h7c]
                refine hK _ _ _ (show cutK _ _ _ from cutL ⟨_, _, _, rfl, h⟩ (Le_can [(32, some 32)] [] hρ (by kernel_rfl) ?_ ?_))
                · simp only [AL, AE, TY, EN, seval, h7c]
                · simp only [AL, AE, TY, EN, seval, h7c]
          · refine AW_exit (show cutK _ _ _ from cutL ⟨rfl, h⟩ (Le_can [] [] hρ (by kernel_rfl) ?_ ?_))
            · simp only [AL, AE, TY, EN, seval, h7c]
            · simp only [AL, AE, TY, EN, seval, h7c]
      · rintro S ⟨rfl, h⟩
        unfold i_CosetIndex_j2 at h
        refine AW_rs (BR := BR) FM (by rw [hN]; kernel_rfl) (by kernel_rfl) ?_
        intro K hK
        simp only [AE, TY, EN, seval]
        refine hK _ _ _ ?_
        clear hK K
        injection h with h
        subst h
        refine AW_le (Le_can (lt := [(2, .int .i64 (-1))]) (lr := []) (b' := 64) [] [] hρ (by kernel_rfl) ?_ ?_) (AW_ret (end_q [] (.inr rfl) (by kernel_rfl) (by kernel_rfl) ?_))
        · simp only [AL, AE, TY, EN, seval]
        · simp only [AL, AE, TY, EN, seval]
        · simp only [AE, TY, EN, Try.results23, seval]
/- spec.CosetIndex -/
def s_CosetIndex_j1 (a2 : List (Int × Int × Int × Int)) (v1 : Bool) : Option Int :=
  br v1 (some (-1)) (bO (geti a2 1) fun q1 => br (q1.2.1 == 0) (some 0) (bO (geti a2 0) fun q2 => br (q2.2.1 == 0) (some 1) (some 2)))
def s_CosetIndex (a1 : Int) (a2 : List (Int × Int × Int × Int)) : Option Int :=
  bO (s_IsValidTableau a1 a2) fun x1 => bO (br (!x1) (some true) (some (a1 != 1))) fun x2 => s_CosetIndex_j1 a2 x2
set_option maxHeartbeats 4000000 in
theorem s_CosetIndex_ok {a1 : Int} {a2 : List (Int × Int × Int × Int)} {r : Int} (h : s_CosetIndex a1 a2 = some r) :
    Spec Try.prog 22 [.agg [.int .i64 a1, .sl (encL EIIII a2) a2.length]] [] (.int .i64 r) [] := by
  unfold s_CosetIndex at h
  refine spec_of Try.func22 rfl (by kernel_rfl) (by simp only [Try.ntmps22, List.length_cons, List.length_nil, Nat.reduceAdd, Nat.reduceLeDiff]) ?_
  intro C hN hρ
  rw [Try.ntmps22] at hN
  unfold st0
  simp only [tmps0, Nat.zero_add, Nat.reduceAdd]
  refine AW_rs (BR := BR) FM (by rw [hN]; kernel_rfl) (by kernel_rfl) ?_
  intro K hK
  simp only [AE, TY, EN, seval]
  refine hK _ _ _ ?_
  clear hK K
  refine AW_seq ?_
  refine AW_rsJ (BR := BR) (fun S => ∃ (v1 : Bool), S = ⟨mkT [(1, .ptr 32 0), (10, .bool v1)], mkR [(32, .box 33 [.int .i64 a1, .sl (encL EIIII a2) a2.length])], 64⟩ ∧ s_CosetIndex_j1 a2 v1 = some r) FM (by rw [hN]; kernel_rfl) (by kernel_rfl) ?_ ?_
  · intro K hK
    obtain ⟨x1, h1, h⟩ := bO_inv h
    simp only [AE, TY, EN, seval]
    refine rC_p (s_IsValidTableau_ok h1) (by simp only [AL, AE, TY, EN, seval]) (by simp only [List.length_cons, List.length_nil, Nat.zero_add, Nat.reduceAdd, Nat.reduceLeDiff, Nat.zero_le]) (by intro j hj; exact absurd hj (Nat.not_lt_zero _)) ?_
    obtain ⟨x2, hv1, h⟩ := bO_inv h
    rcases br_inv hv1 with ⟨hc1, hv1⟩ | ⟨hc1, hv1⟩
    · cases hv1
      simp only [AE, TY, EN, seval, hc1]
      refine hK _ _ _ (show cutK _ _ _ from cutL ⟨_, rfl, h⟩ (Le_can [(32, some 64)] [] hρ (by kernel_rfl) ?_ ?_))
      · simp only [AL, AE, TY, EN, seval, hc1]
      · simp only [AL, AE, TY, EN, seval, hc1]
    · cases hv1
      simp only [AE, TY, EN, seval, hc1]
      refine hK _ _ _ (show cutK _ _ _ from cutL ⟨_, rfl, h⟩ (Le_can [(32, some 64)] [] hρ (by kernel_rfl) ?_ ?_))
      · simp only [AL, AE, TY, EN, seval, hc1]
      · simp only [AL, AE, TY, EN, seval, hc1]
  · rintro S ⟨v1, rfl, h⟩
    unfold s_CosetIndex_j1 at h
    refine AW_condK (a := .bool v1) (by simp only [AE, TY, EN, seval]) (brK h (fun hc2 h => ?_) (fun hc2 h => ?_))
    · refine AW_rs (BR := BR) FM (by rw [hN]; kernel_rfl) (by kernel_rfl) ?_
      intro K hK
      simp only [AE, TY, EN, seval]
      refine hK _ _ _ ?_
      clear hK K
      injection h with h
      subst h
      refine AW_le (Le_can (lt := [(2, .int .i64 (-1))]) (lr := []) (b' := 64) [] [] hρ (by kernel_rfl) ?_ ?_) (AW_ret (end_q [] (.inr rfl) (by kernel_rfl) (by kernel_rfl) ?_))
      · simp only [AL, AE, TY, EN, seval]
      · simp only [AL, AE, TY, EN, seval]
      · simp only [AE, TY, EN, Try.results22, seval]
    · refine AW_skip (show AW _ _ _ _ _ from ?_)
      refine AW_seq ?_
      refine AW_rs (BR := BR) FM (by rw [hN]; kernel_rfl) (by kernel_rfl) ?_
      intro K hK
      obtain ⟨q1, h2, h⟩ := bO_inv h
      obtain ⟨⟨h3a, h3b⟩, h3c⟩ := geti_E EIIIIl h2
      try simp only [AE, TY, EN, seval] at h3c
      simp only [AE, TY, EN, seval, h3a, h3b, h3c]
      refine hK _ _ _ ?_
      clear hK K
      refine AW_condK (a := .bool (q1.2.1 == 0)) (by simp only [AE, TY, EN, seval, h3a, h3b, h3c]) (brK h (fun hc3 h => ?_) (fun hc3 h => ?_))
      · refine AW_rs (BR := BR) FM (by rw [hN]; kernel_rfl) (by kernel_rfl) ?_
        intro K hK
        simp only [AE, TY, EN, seval]
        refine hK _ _ _ ?_
        clear hK K
        injection h with h
        subst h
        refine AW_le (Le_can (lt := [(2, .int .i64 0)]) (lr := []) (b' := 64) [] [] hρ (by kernel_rfl) ?_ ?_) (AW_ret (end_q [] (.inr rfl) (by kernel_rfl) (by kernel_rfl) ?_))
        · simp only [AL, AE, TY, EN, seval]
        · simp only [AL, AE, TY, EN, seval]
        · simp only [AE, TY, EN, Try.results22, seval]
      · refine AW_skip (show AW _ _ _ _ _ from ?_)
        refine AW_seq ?_
        refine AW_rs (BR := BR) FM (by rw [hN]; kernel_rfl) (by kernel_rfl) ?_
        intro K hK
        obtain ⟨q2, h4, h⟩ := bO_inv h
        obtain ⟨⟨h5a, h5b⟩, h5c⟩ := geti_E EIIIIl h4
        try simp only [AE, TY, EN, seval] at h5c
        try simp only [AE, TY, EN, seval, h5c] at h3c
        simp only [AE, TY, EN, seval, h5a, h5b, h5c]
        refine hK _ _ _ ?_
        clear hK K
        refine AW_condK (a := .bool (q2.2.1 == 0)) (by simp only [AE, TY, EN, seval, h5a, h5b, h5c]) (brK h (fun hc4 h => ?_) (fun hc4 h => ?_))
        · refine AW_rs (BR := BR) FM (by rw [hN]; kernel_rfl) (by kernel_rfl) ?_
          intro K hK
          simp only [AE, TY, EN, seval, h5c]
          refine hK _ _ _ ?_
          clear hK K
          injection h with h
          subst h
          refine AW_le (Le_can (lt := [(2, .int .i64 1)]) (lr := []) (b' := 64) [] [] hρ (by kernel_rfl) ?_ ?_) (AW_ret (end_q [] (.inr rfl) (by kernel_rfl) (by kernel_rfl) ?_))
          · simp only [AL, AE, TY, EN, seval, h5c]
          · simp only [AL, AE, TY, EN, seval, h5c]
          · simp only [AE, TY, EN, Try.results22, seval]
        · refine AW_skip (show AW _ _ _ _ _ from ?_)
          refine AW_rs (BR := BR) FM (by rw [hN]; kernel_rfl) (by kernel_rfl) ?_
          intro K hK
          simp only [AE, TY, EN, seval, h5c]
          refine hK _ _ _ ?_
          clear hK K
          injection h with h
          subst h
          refine AW_le (Le_can (lt := [(2, .int .i64 2)]) (lr := []) (b' := 64) [] [] hρ (by kernel_rfl) ?_ ?_) (AW_ret (end_q [] (.inr rfl) (by kernel_rfl) (by kernel_rfl) ?_))
          · simp only [AL, AE, TY, EN, seval, h5c]
          · simp only [AL, AE, TY, EN, seval, h5c]
          · simp only [AE, TY, EN, Try.results22, seval]
/- impl.StabilizerMeasureZ -/
def i_StabilizerMeasureZ_j20 (v80 : Int) (kl5 : Int → Int → Int → Int → Int → Option (Int × Bool)) (v85 : Int) (v86 : Int) (v87 : Int) (v88 : Int) : Option (Int × Bool) :=
  kl5 (IntKind.wrap .i64 (v80 + 1)) v85 v86 v87 v88
def i_StabilizerMeasureZ_j16 (v66 : Int) (kl4 : Int → Option (Int × Bool)) : Option (Int × Bool) :=
  kl4 (IntKind.wrap .i64 (v66 + 1))
def i_StabilizerMeasureZ_j21 (v66 : Int) (kl4 : Int → Option (Int × Bool)) (v92 : Int) (v93 : Bool) : Option (Int × Bool) :=
  br v93 (some (IntKind.wrap .i64 (Int.tdiv v92 2), true)) (i_StabilizerMeasureZ_j16 v66 kl4)
def i_StabilizerMeasureZ_j17 (v10 : Int) (v66 : Int) (kl4 : Int → Option (Int × Bool)) (v89 : Int) (v90 : Int) (v91 : Int) (v92 : Int) : Option (Int × Bool) :=
  bO (br (v90 == 0) (some (v91 == v10)) (some false)) fun x19 => i_StabilizerMeasureZ_j21 v66 kl4 v92 x19
def i_StabilizerMeasureZ_l6 (a1 : Int) (a2 : List (Int × Int × Int × Int)) (v10 : Int) (v66 : Int) (kl4 : Int → Option (Int × Bool)) : Nat → Int → Int → Int → Int → Int → Option (Int × Bool)
  | 0, _, _, _, _, _ => none
  | n5 + 1, v80, v81, v82, v83, v84 =>
  br (decide (v80 < a1)) (gd (decide (¬ v80 < 0)) (br ((bits .and .i64 (Int.fdiv v66 (2 ^ min (Int.toNat v80) (IntKind.bits .i64))) 1) == 1) (bO (geti a2 (IntKind.wrap .i64 (a1 + v80))) fun q12 => bO (i_MulPauli v81 v82 v83 v84 q12.1 q12.2.1 q12.2.2.1 q12.2.2.2) fun x18 => i_StabilizerMeasureZ_j20 v80 (i_StabilizerMeasureZ_l6 a1 a2 v10 v66 kl4 n5) x18.1 x18.2.1 x18.2.2.1 x18.2.2.2.1) (i_StabilizerMeasureZ_j20 v80 (i_StabilizerMeasureZ_l6 a1 a2 v10 v66 kl4 n5) v81 v82 v83 v84))) (i_StabilizerMeasureZ_j17 v10 v66 kl4 v81 v82 v83 v84)
def i_StabilizerMeasureZ_j3 : Option (Int × Bool) :=
  some (0, false)
def i_StabilizerMeasureZ_l3 (a1 : Int) (a2 : List (Int × Int × Int × Int)) (v10 : Int) : Nat → Int → Option (Int × Bool)
  | 0, _ => none
  | n4 + 1, v66 =>
  gd (decide (¬ a1 < 0)) (br (decide (v66 < (IntKind.wrap .i64 (1 * 2 ^ min (Int.toNat a1) (IntKind.bits .i64))))) (i_StabilizerMeasureZ_l6 a1 a2 v10 v66 (i_StabilizerMeasureZ_l3 a1 a2 v10 n4) FU 0 a1 0 0 0) (i_StabilizerMeasureZ_j3))
def i_StabilizerMeasureZ_j2 (a1 : Int) (a2 : List (Int × Int × Int × Int)) (v10 : Int) : Option (Int × Bool) :=
  i_StabilizerMeasureZ_l3 a1 a2 v10 FU 0
def i_StabilizerMeasureZ_l2 (a1 : Int) (a2 : List (Int × Int × Int × Int)) (l1 : List (Int × Int × Int × Int)) : Nat → Int → Int → Int → Option (Int × Bool)
  | 0, _, _, _ => none
  | n1 + 1, v7, v8, v9 =>
  br (decide (v8 < v7)) (bO (geti l1 v8) fun q3 => bO (i_PaulisCommute q3.1 q3.2.1 q3.2.2.1 q3.2.2.2 a1 0 v9 0) fun x7 => br (!x7) (some (0, false)) ((i_StabilizerMeasureZ_l2 a1 a2 l1 n1) v7 (IntKind.wrap .i64 (v8 + 1)) v9)) (i_StabilizerMeasureZ_j2 a1 a2 v9)
def i_StabilizerMeasureZ_j1 (a1 : Int) (a2 : List (Int × Int × Int × Int)) (a3 : Int) (v1 : Bool) : Option (Int × Bool) :=
  br v1 (some (0, false)) (gd (decide (¬ a3 < 0)) (bO (slc a2 a1 ((a2.length : Int))) fun l1 => i_StabilizerMeasureZ_l2 a1 a2 l1 FU ((l1.length : Int)) 0 (IntKind.wrap .i64 (1 * 2 ^ min (Int.toNat a3) (IntKind.bits .i64)))))
def i_StabilizerMeasureZ (a1 : Int) (a2 : List (Int × Int × Int × Int)) (a3 : Int) : Option (Int × Bool) :=
  bO (i_IsValidTableau a1 a2) fun x1 => bO (br (!x1) (some true) (bO (i_in a3 0 (IntKind.wrap .i64 (a1 - 1))) fun x2 => some (!x2))) fun x3 => i_StabilizerMeasureZ_j1 a1 a2 a3 x3
set_option maxHeartbeats 4000000 in
theorem i_StabilizerMeasureZ_ok {a1 : Int} {a2 : List (Int × Int × Int × Int)} {a3 : Int} {r : Int × Bool} (h : i_StabilizerMeasureZ a1 a2 a3 = some r) :
    Spec Try.prog 25 [.agg [.int .i64 a1, .sl (encL EIIII a2) a2.length], .int .i64 a3] [] (.tup [.int .i64 r.1, .bool r.2]) [] := by
  unfold i_StabilizerMeasureZ at h
  refine spec_of Try.func25 rfl (by kernel_rfl) (by simp only [Try.ntmps25, List.length_cons, List.length_nil, Nat.reduceAdd, Nat.reduceLeDiff]) ?_
  intro C hN hρ
  rw [Try.ntmps25] at hN
  unfold st0
  simp only [tmps0, Nat.zero_add, Nat.reduceAdd]
  refine AW_rs (BR := BR) FM (by rw [hN]; kernel_rfl) (by kernel_rfl) ?_
  intro K hK
  simp only [AE, TY, EN, seval]
  refine hK _ _ _ ?_
  clear hK K
  refine AW_seq ?_
  refine AW_rsJ (BR := BR) (fun S => ∃ (v1 : Bool), S = ⟨mkT [(1, .int .i64 a3), (2, .ptr 32 0), (22, .bool v1)], mkR [(32, .box 33 [.int .i64 a1, .sl (encL EIIII a2) a2.length])], 64⟩ ∧ i_StabilizerMeasureZ_j1 a1 a2 a3 v1 = some r) FM (by rw [hN]; kernel_rfl) (by kernel_rfl) ?_ ?_
  · intro K hK
    obtain ⟨x1, h1, h⟩ := bO_inv h
    simp only [AE, TY, EN, seval]
    refine rC_p (i_IsValidTableau_ok h1) (by simp only [AL, AE, TY, EN, seval]) (by simp only [List.length_cons, List.length_nil, Nat.zero_add, Nat.reduceAdd, Nat.reduceLeDiff, Nat.zero_le]) (by intro j hj; exact absurd hj (Nat.not_lt_zero _)) ?_
    obtain ⟨x3, hv1, h⟩ := bO_inv h
    rcases br_inv hv1 with ⟨hc1, hv1⟩ | ⟨hc1, hv1⟩
    · cases hv1
      simp only [AE, TY, EN, seval, hc1]
      refine hK _ _ _ (show cutK _ _ _ from cutL ⟨_, rfl, h⟩ (Le_can [(32, some 64)] [] hρ (by kernel_rfl) ?_ ?_))
      · simp only [AL, AE, TY, EN, seval, hc1]
      · simp only [AL, AE, TY, EN, seval, hc1]
    · obtain ⟨x4, h3, hv1⟩ := bO_inv hv1
      simp only [AE, TY, EN, seval, hc1]
      refine rC_p (i_in_ok h3) (by simp only [AL, AE, TY, EN, seval, hc1]) (by simp only [List.length_cons, List.length_nil, Nat.zero_add, Nat.reduceAdd, Nat.reduceLeDiff, Nat.zero_le]) (by intro j hj; exact absurd hj (Nat.not_lt_zero _)) ?_
      cases hv1
      simp only [AE, TY, EN, seval, hc1]
      refine hK _ _ _ (show cutK _ _ _ from cutL ⟨_, rfl, h⟩ (Le_can [(32, some 64)] [] hρ (by kernel_rfl) ?_ ?_))
      · simp only [AL, AE, TY, EN, seval, hc1]
      · simp only [AL, AE, TY, EN, seval, hc1]
  · rintro S ⟨v1, rfl, h⟩
    unfold i_StabilizerMeasureZ_j1 at h
    refine AW_condK (a := .bool v1) (by simp only [AE, TY, EN, seval]) (brK h (fun hc2 h => ?_) (fun hc2 h => ?_))
    · refine AW_rs (BR := BR) FM (by rw [hN]; kernel_rfl) (by kernel_rfl) ?_
      intro K hK
      simp only [AE, TY, EN, seval]
      refine hK _ _ _ ?_
      clear hK K
      injection h with h
      subst h
      refine AW_le (Le_can (lt := [(4, .int .i64 0), (5, .bool false)]) (lr := []) (b' := 64) [] [] hρ (by kernel_rfl) ?_ ?_) (AW_ret (end_q [] (.inr rfl) (by kernel_rfl) (by kernel_rfl) ?_))
      · simp only [AL, AE, TY, EN, seval]
      · simp only [AL, AE, TY, EN, seval]
      · simp only [AE, TY, EN, Try.results25, seval]
    · refine AW_skip (show AW _ _ _ _ _ from ?_)
      refine AW_rs (BR := BR) FM (by rw [hN]; kernel_rfl) (by kernel_rfl) ?_
      intro K hK
      obtain ⟨h4, h⟩ := gd_inv h
      replace h4 := of_decide_eq_true h4
      simp only [AE, TY, EN, seval, h4]
      refine hK _ _ _ ?_
      clear hK K
      refine AW_cutK (fun S => ∃ (v10 : Int), S = ⟨mkT [(2, .ptr 32 0), (6, .ptr 33 0)], mkR [(32, .box 33 [.int .i64 a1, .sl (encL EIIII a2) a2.length]), (33, .box 28 [.int .i64 a1, .int .i64 0, .int .i64 v10, .int .i64 0])], 64⟩ ∧ i_StabilizerMeasureZ_j2 a1 a2 v10 = some r) ?_ ?_
      · refine AW_rs (BR := BR) FM (by rw [hN]; kernel_rfl) (by kernel_rfl) ?_
        intro K hK
        obtain ⟨l1, h5, h⟩ := bO_inv h
        obtain ⟨⟨h6a, h6b, h6c⟩, h6d, h6e⟩ := slc_E EIIIIl h5
        try simp only [AE, TY, EN, seval] at h6d
        try simp only [AE, TY, EN, seval] at h6e
        try simp only [AE, TY, EN, seval] at h6a
        try simp only [AE, TY, EN, seval] at h6b
        try simp only [AE, TY, EN, seval] at h6c
        simp only [AE, TY, EN, seval, h6a, h6b, h6c, h6d, h6e]
        refine hK _ _ _ ?_
        clear hK K
        refine AW_block ?_
        refine AW_loopF (fun n S => ∃ (v7 : Int) (v8 : Int) (v9 : Int), S = ⟨mkT [(2, .ptr 32 0), (6, .ptr 33 0), (32, .sl (encL EIIII l1) l1.length), (33, .int .i64 v7), (34, .int .i64 v8)], mkR [(32, .box 33 [.int .i64 a1, .sl (encL EIIII a2) a2.length]), (33, .box 28 [.int .i64 a1, .int .i64 0, .int .i64 v9, .int .i64 0])], 64⟩ ∧ i_StabilizerMeasureZ_l2 a1 a2 l1 n v7 v8 v9 = some r) FU ?_ ?_ ?_
        · refine cutL ⟨_, _, _, rfl, h⟩ (Le_can [(32, some 32), (33, some 144)] [] hρ (by kernel_rfl) ?_ ?_)
          · simp only [AL, AE, TY, EN, seval, h6a, h6b, h6c, h6d, h6e]
          · simp only [AL, AE, TY, EN, seval, h6a, h6b, h6c, h6d, h6e]
        · rintro S ⟨_, _, _, _, h⟩; rw [i_StabilizerMeasureZ_l2] at h; cases h
        · rintro n1 S ⟨v7, v8, v9, rfl, h⟩
          rw [i_StabilizerMeasureZ_l2] at h
          refine AW_rs (BR := BR) FM (by rw [hN]; kernel_rfl) (by kernel_rfl) ?_
          intro K hK
          simp only [AE, TY, EN, seval]
          refine hK _ _ _ ?_
          clear hK K
          refine AW_seq ?_
          refine AW_condK (a := .bool (decide (v8 < v7))) (by simp only [AE, TY, EN, seval]) (brK h (fun hc7 h => ?_) (fun hc7 h => ?_))
          · refine AW_skip (show AW _ _ _ _ _ from ?_)
            refine AW_seq ?_
            refine AW_block ?_
            refine AW_rs (BR := BR) FM (by rw [hN]; kernel_rfl) (by kernel_rfl) ?_
            intro K hK
            obtain ⟨q3, h13, h⟩ := bO_inv h
            obtain ⟨⟨h14a, h14b⟩, h14c⟩ := geti_E EIIIIl h13
            try simp only [AE, TY, EN, seval] at h14c
            simp only [AE, TY, EN, seval, h14a, h14b, h14c]
            refine hK _ _ _ ?_
            clear hK K
            refine AW_rs (BR := BR) FM (by rw [hN]; kernel_rfl) (by kernel_rfl) ?_
            intro K hK
            obtain ⟨x7, h15, h⟩ := bO_inv h
            simp only [AE, TY, EN, seval]
            refine rC_p (i_PaulisCommute_ok h15) (by simp only [AL, AE, TY, EN, seval]) (by simp only [List.length_cons, List.length_nil, Nat.zero_add, Nat.reduceAdd, Nat.reduceLeDiff, Nat.zero_le]) (by intro j hj; exact absurd hj (Nat.not_lt_zero _)) ?_
            simp only [AE, TY, EN, seval]
            refine hK _ _ _ ?_
            clear hK K
            refine AW_condK (a := .bool (!x7)) (by simp only [AE, TY, EN, seval]) (brK h (fun hc8 h => ?_) (fun hc8 h => ?_))
            · refine AW_rs (BR := BR) FM (by rw [hN]; kernel_rfl) (by kernel_rfl) ?_
              intro K hK
              simp only [AE, TY, EN, seval]
              refine hK _ _ _ ?_
              clear hK K
              injection h with h
              subst h
              refine AW_le (Le_can (lt := [(4, .int .i64 0), (5, .bool false)]) (lr := []) (b' := 64) [] [] hρ (by kernel_rfl) ?_ ?_) (AW_ret (end_q [] (.inr rfl) (by kernel_rfl) (by kernel_rfl) ?_))
              · simp only [AL, AE, TY, EN, seval]
              · simp only [AL, AE, TY, EN, seval]
              · simp only [AE, TY, EN, Try.results25, seval]
            · refine AW_skip (show AW _ _ _ _ _ from ?_)
              refine AW_re (BR := BR) FM (by rw [hN]; kernel_rfl) (by kernel_rfl) ?_
              intro K hK
              simp only [AE, TY, EN, seval]
              refine hK _ _ _ (show cutK _ _ _ from cutL ⟨_, _, _, rfl, h⟩ (Le_can [(32, some 32), (33, some 33)] [] hρ (by kernel_rfl) ?_ ?_))
              · simp only [AL, AE, TY, EN, seval]
              · simp only [AL, AE, TY, EN, seval]
          · refine AW_exit (show cutK _ _ _ from cutL ⟨_, rfl, h⟩ (Le_can [(32, some 32), (33, some 33)] [] hρ (by kernel_rfl) ?_ ?_))
            · simp only [AL, AE, TY, EN, seval]
            · simp only [AL, AE, TY, EN, seval]
      · rintro S ⟨v10, rfl, h⟩
        unfold i_StabilizerMeasureZ_j2 at h
        refine AW_cutK (fun S => S = ⟨mkT [], mkR [], 64⟩ ∧ i_StabilizerMeasureZ_j3 = some r) ?_ ?_
        · refine AW_rs (BR := BR) FM (by rw [hN]; kernel_rfl) (by kernel_rfl) ?_
          intro K hK
          simp only [AE, TY, EN, seval]
          refine hK _ _ _ ?_
          clear hK K
          refine AW_block ?_
          refine AW_loopF (fun n S => ∃ (v66 : Int), S = ⟨mkT [(2, .ptr 32 0), (6, .ptr 33 0), (9, .int .i64 v66)], mkR [(32, .box 33 [.int .i64 a1, .sl (encL EIIII a2) a2.length]), (33, .box 28 [.int .i64 a1, .int .i64 0, .int .i64 v10, .int .i64 0])], 64⟩ ∧ i_StabilizerMeasureZ_l3 a1 a2 v10 n v66 = some r) FU ?_ ?_ ?_
          · refine cutL ⟨_, rfl, h⟩ (Le_can [(32, some 32), (33, some 33)] [] hρ (by kernel_rfl) ?_ ?_)
            · simp only [AL, AE, TY, EN, seval]
            · simp only [AL, AE, TY, EN, seval]
          · rintro S ⟨_, _, h⟩; rw [i_StabilizerMeasureZ_l3] at h; cases h
          · rintro n4 S ⟨v66, rfl, h⟩
            rw [i_StabilizerMeasureZ_l3] at h
            refine AW_seq ?_
            refine AW_rs (BR := BR) FM (by rw [hN]; kernel_rfl) (by kernel_rfl) ?_
            intro K hK
            obtain ⟨h40, h⟩ := gd_inv h
            replace h40 := of_decide_eq_true h40
            simp only [AE, TY, EN, seval, h40]
            refine hK _ _ _ ?_
            clear hK K
            refine AW_condK (a := .bool (decide (v66 < (IntKind.wrap .i64 (1 * 2 ^ min (Int.toNat a1) (IntKind.bits .i64)))))) (by simp only [AE, TY, EN, seval, h40]) (brK h (fun hc27 h => ?_) (fun hc27 h => ?_))
            · refine AW_skip (show AW _ _ _ _ _ from ?_)
              refine AW_cutK (fun S => S = ⟨mkT [(2, .ptr 32 0), (6, .ptr 33 0), (9, .int .i64 v66)], mkR [(32, .box 33 [.int .i64 a1, .sl (encL EIIII a2) a2.length]), (33, .box 28 [.int .i64 a1, .int .i64 0, .int .i64 v10, .int .i64 0])], 64⟩ ∧ i_StabilizerMeasureZ_j16 v66 (i_StabilizerMeasureZ_l3 a1 a2 v10 n4) = some r) ?_ ?_
              · refine AW_block ?_
                refine AW_rs (BR := BR) FM (by rw [hN]; kernel_rfl) (by kernel_rfl) ?_
                intro K hK
                simp only [AE, TY, EN, seval]
                refine hK _ _ _ ?_
                clear hK K
                refine AW_cutK (fun S => ∃ (v89 : Int) (v90 : Int) (v91 : Int) (v92 : Int), S = ⟨mkT [(2, .ptr 32 0), (6, .ptr 33 0), (9, .int .i64 v66), (10, .ptr 34 0)], mkR [(32, .box 33 [.int .i64 a1, .sl (encL EIIII a2) a2.length]), (33, .box 28 [.int .i64 a1, .int .i64 0, .int .i64 v10, .int .i64 0]), (34, .box 28 [.int .i64 v89, .int .i64 v90, .int .i64 v91, .int .i64 v92])], 64⟩ ∧ i_StabilizerMeasureZ_j17 v10 v66 (i_StabilizerMeasureZ_l3 a1 a2 v10 n4) v89 v90 v91 v92 = some r) ?_ ?_
                · refine AW_rs (BR := BR) FM (by rw [hN]; kernel_rfl) (by kernel_rfl) ?_
                  intro K hK
                  simp only [AE, TY, EN, seval]
                  refine hK _ _ _ ?_
                  clear hK K
                  refine AW_block ?_
                  refine AW_loopF (fun n S => ∃ (v80 : Int) (v81 : Int) (v82 : Int) (v83 : Int) (v84 : Int), S = ⟨mkT [(2, .ptr 32 0), (6, .ptr 33 0), (9, .int .i64 v66), (10, .ptr 34 0), (11, .int .i64 v80)], mkR [(32, .box 33 [.int .i64 a1, .sl (encL EIIII a2) a2.length]), (33, .box 28 [.int .i64 a1, .int .i64 0, .int .i64 v10, .int .i64 0]), (34, .box 28 [.int .i64 v81, .int .i64 v82, .int .i64 v83, .int .i64 v84])], 64⟩ ∧ i_StabilizerMeasureZ_l6 a1 a2 v10 v66 (i_StabilizerMeasureZ_l3 a1 a2 v10 n4) n v80 v81 v82 v83 v84 = some r) FU ?_ ?_ ?_
                  · refine cutL ⟨_, _, _, _, _, rfl, h⟩ (Le_can [(32, some 32), (33, some 33), (34, some 1136)] [] hρ (by kernel_rfl) ?_ ?_)
                    · simp only [AL, AE, TY, EN, seval]
                    · simp only [AL, AE, TY, EN, seval]
                  · rintro S ⟨_, _, _, _, _, _, h⟩; rw [i_StabilizerMeasureZ_l6] at h; cases h
                  · rintro n5 S ⟨v80, v81, v82, v83, v84, rfl, h⟩
                    rw [i_StabilizerMeasureZ_l6] at h
                    refine AW_seq ?_
                    refine AW_rs (BR := BR) FM (by rw [hN]; kernel_rfl) (by kernel_rfl) ?_
                    intro K hK
                    simp only [AE, TY, EN, seval]
                    refine hK _ _ _ ?_
                    clear hK K
                    refine AW_condK (a := .bool (decide (v80 < a1))) (by simp only [AE, TY, EN, seval]) (brK h (fun hc32 h => ?_) (fun hc32 h => ?_))
                    · refine AW_skip (show AW _ _ _ _ _ from ?_)
                      refine AW_cutK (fun S => ∃ (v85 : Int) (v86 : Int) (v87 : Int) (v88 : Int), S = ⟨mkT [(2, .ptr 32 0), (6, .ptr 33 0), (9, .int .i64 v66), (10, .ptr 34 0), (11, .int .i64 v80)], mkR [(32, .box 33 [.int .i64 a1, .sl (encL EIIII a2) a2.length]), (33, .box 28 [.int .i64 a1, .int .i64 0, .int .i64 v10, .int .i64 0]), (34, .box 28 [.int .i64 v85, .int .i64 v86, .int .i64 v87, .int .i64 v88])], 64⟩ ∧ i_StabilizerMeasureZ_j20 v80 (i_StabilizerMeasureZ_l6 a1 a2 v10 v66 (i_StabilizerMeasureZ_l3 a1 a2 v10 n4) n5) v85 v86 v87 v88 = some r) ?_ ?_
                      · refine AW_block ?_
                        refine AW_rs (BR := BR) FM (by rw [hN]; kernel_rfl) (by kernel_rfl) ?_
                        intro K hK
                        obtain ⟨h48, h⟩ := gd_inv h
                        replace h48 := of_decide_eq_true h48
                        simp only [AE, TY, EN, seval, h48]
                        refine hK _ _ _ ?_
                        clear hK K
                        refine AW_condK (a := .bool ((bits .and .i64 (Int.fdiv v66 (2 ^ min (Int.toNat v80) (IntKind.bits .i64))) 1) == 1)) (by simp only [AE, TY, EN, seval, h48]) (brK h (fun hc33 h => ?_) (fun hc33 h => ?_))
                        · refine AW_re (BR := BR) FM (by rw [hN]; kernel_rfl) (by kernel_rfl) ?_
                          intro K hK
                          obtain ⟨q12, h49, h⟩ := bO_inv h
                          obtain ⟨⟨h50a, h50b⟩, h50c⟩ := geti_E EIIIIl h49
                          try simp only [AE, TY, EN, seval] at h50c
                          obtain ⟨x18, h51, h⟩ := bO_inv h
                          simp only [AE, TY, EN, seval, h50a, h50b, h50c]
                          refine rC_p (i_MulPauli_ok h51) (by simp only [AL, AE, TY, EN, seval, h50a, h50b, h50c]) (by simp only [List.length_cons, List.length_nil, Nat.zero_add, Nat.reduceAdd, Nat.reduceLeDiff, Nat.zero_le]) (by intro j hj; exact absurd hj (Nat.not_lt_zero _)) ?_
                          simp only [AE, TY, EN, seval, h50a, h50b, h50c]
                          refine hK _ _ _ (show cutK _ _ _ from cutL ⟨_, _, _, _, rfl, h⟩ (Le_can [(32, some 32), (33, some 33), (34, some 34)] [] hρ (by kernel_rfl) ?_ ?_))
                          · simp only [AL, AE, TY, EN, seval, h50a, h50b, h50c]
                          · simp only [AL, AE, TY, EN, seval, h50a, h50b, h50c]
                        · refine AW_skip (show cutK _ _ _ from cutL ⟨_, _, _, _, rfl, h⟩ (Le_can [(32, some 32), (33, some 33), (34, some 34)] [] hρ (by kernel_rfl) ?_ ?_))
                          · simp only [AL, AE, TY, EN, seval, h48]
                          · simp only [AL, AE, TY, EN, seval, h48]
                      · rintro S ⟨v85, v86, v87, v88, rfl, h⟩
                        unfold i_StabilizerMeasureZ_j20 at h
                        refine AW_re (BR := BR) FM (by rw [hN]; kernel_rfl) (by kernel_rfl) ?_
                        intro K hK
                        simp only [AE, TY, EN, seval]
                        refine hK _ _ _ (show cutK _ _ _ from cutL ⟨_, _, _, _, _, rfl, h⟩ (Le_can [(32, some 32), (33, some 33), (34, some 34)] [] hρ (by kernel_rfl) ?_ ?_))
                        · simp only [AL, AE, TY, EN, seval]
                        · simp only [AL, AE, TY, EN, seval]
                    · refine AW_exit (show cutK _ _ _ from cutL ⟨_, _, _, _, rfl, h⟩ (Le_can [(32, some 32), (33, some 33), (34, some 34)] [] hρ (by kernel_rfl) ?_ ?_))
                      · simp only [AL, AE, TY, EN, seval]
                      · simp only [AL, AE, TY, EN, seval]
                · rintro S ⟨v89, v90, v91, v92, rfl, h⟩
                  unfold i_StabilizerMeasureZ_j17 at h
                  refine AW_rsJ (BR := BR) (fun S => ∃ (v93 : Bool), S = ⟨mkT [(2, .ptr 32 0), (6, .ptr 33 0), (9, .int .i64 v66), (10, .ptr 34 0), (86, .bool v93)], mkR [(32, .box 33 [.int .i64 a1, .sl (encL EIIII a2) a2.length]), (33, .box 28 [.int .i64 a1, .int .i64 0, .int .i64 v10, .int .i64 0]), (34, .box 28 [.int .i64 v89, .int .i64 v90, .int .i64 v91, .int .i64 v92])], 64⟩ ∧ i_StabilizerMeasureZ_j21 v66 (i_StabilizerMeasureZ_l3 a1 a2 v10 n4) v92 v93 = some r) FM (by rw [hN]; kernel_rfl) (by kernel_rfl) ?_ ?_
                  · intro K hK
                    obtain ⟨x19, hv4, h⟩ := bO_inv h
                    rcases br_inv hv4 with ⟨hc34, hv4⟩ | ⟨hc34, hv4⟩
                    · cases hv4
                      simp only [AE, TY, EN, seval, hc34]
                      refine hK _ _ _ (show cutK _ _ _ from cutL ⟨_, rfl, h⟩ (Le_can [(32, some 32), (33, some 33), (34, some 34)] [] hρ (by kernel_rfl) ?_ ?_))
                      · simp only [AL, AE, TY, EN, seval, hc34]
                      · simp only [AL, AE, TY, EN, seval, hc34]
                    · cases hv4
                      simp only [AE, TY, EN, seval, hc34]
                      refine hK _ _ _ (show cutK _ _ _ from cutL ⟨_, rfl, h⟩ (Le_can [(32, some 32), (33, some 33), (34, some 34)] [] hρ (by kernel_rfl) ?_ ?_))
                      · simp only [AL, AE, TY, EN, seval, hc34]
                      · simp only [AL, AE, TY, EN, seval, hc34]
                  · rintro S ⟨v93, rfl, h⟩
                    unfold i_StabilizerMeasureZ_j21 at h
                    refine AW_condK (a := .bool v93) (by simp only [AE, TY, EN, seval]) (brK h (fun hc35 h => ?_) (fun hc35 h => ?_))
                    · refine AW_rs (BR := BR) FM (by rw [hN]; kernel_rfl) (by kernel_rfl) ?_
                      intro K hK
                      simp only [AE, TY, EN, seval]
                      refine hK _ _ _ ?_
                      clear hK K
                      injection h with h
                      subst h
                      refine AW_le (Le_can (lt := [(4, .int .i64 (IntKind.wrap .i64 (Int.tdiv v92 2))), (5, .bool true)]) (lr := []) (b' := 64) [] [] hρ (by kernel_rfl) ?_ ?_) (AW_ret (end_q [] (.inr rfl) (by kernel_rfl) (by kernel_rfl) ?_))
                      · simp only [AL, AE, TY, EN, seval]
                      · simp only [AL, AE, TY, EN, seval]
                      · simp only [AE, TY, EN, Try.results25, seval]
                    · refine AW_skip (show cutK _ _ _ from cutL ⟨rfl, h⟩ (Le_can [(32, some 32), (33, some 33)] [] hρ (by kernel_rfl) ?_ ?_))
                      · simp only [AL, AE, TY, EN, seval]
                      · simp only [AL, AE, TY, EN, seval]
              · rintro S ⟨rfl, h⟩
                unfold i_StabilizerMeasureZ_j16 at h
                refine AW_re (BR := BR) FM (by rw [hN]; kernel_rfl) (by kernel_rfl) ?_
                intro K hK
                simp only [AE, TY, EN, seval]
                refine hK _ _ _ (show cutK _ _ _ from cutL ⟨_, rfl, h⟩ (Le_can [(32, some 32), (33, some 33)] [] hρ (by kernel_rfl) ?_ ?_))
                · simp only [AL, AE, TY, EN, seval]
                · simp only [AL, AE, TY, EN, seval]
            · refine AW_exit (show cutK _ _ _ from cutL ⟨rfl, h⟩ (Le_can [] [] hρ (by kernel_rfl) ?_ ?_))
              · simp only [AL, AE, TY, EN, seval, h40]
              · simp only [AL, AE, TY, EN, seval, h40]
        · rintro S ⟨rfl, h⟩
          unfold i_StabilizerMeasureZ_j3 at h
          refine AW_rs (BR := BR) FM (by rw [hN]; kernel_rfl) (by kernel_rfl) ?_
          intro K hK
          simp only [AE, TY, EN, seval]
          refine hK _ _ _ ?_
          clear hK K
          injection h with h
          subst h
          refine AW_le (Le_can (lt := [(4, .int .i64 0), (5, .bool false)]) (lr := []) (b' := 64) [] [] hρ (by kernel_rfl) ?_ ?_) (AW_ret (end_q [] (.inr rfl) (by kernel_rfl) (by kernel_rfl) ?_))
          · simp only [AL, AE, TY, EN, seval]
          · simp only [AL, AE, TY, EN, seval]
          · simp only [AE, TY, EN, Try.results25, seval]
/- spec.StabilizerMeasureZ -/
def s_StabilizerMeasureZ_j19 (v71 : Int) (kl4 : Int → Int → Int → Int → Int → Option (Int × Bool)) (v76 : Int) (v77 : Int) (v78 : Int) (v79 : Int) : Option (Int × Bool) :=
  kl4 (IntKind.wrap .i64 (v71 + 1)) v76 v77 v78 v79
def s_StabilizerMeasureZ_j15 (v57 : Int) (kl3 : Int → Option (Int × Bool)) : Option (Int × Bool) :=
  kl3 (IntKind.wrap .i64 (v57 + 1))
def s_StabilizerMeasureZ_j20 (v57 : Int) (kl3 : Int → Option (Int × Bool)) (v83 : Int) (v84 : Bool) : Option (Int × Bool) :=
  br v84 (some (IntKind.wrap .i64 (Int.tdiv v83 2), true)) (s_StabilizerMeasureZ_j15 v57 kl3)
def s_StabilizerMeasureZ_j16 (x5 : Int × Int × Int × Int) (v57 : Int) (kl3 : Int → Option (Int × Bool)) (v80 : Int) (v81 : Int) (v82 : Int) (v83 : Int) : Option (Int × Bool) :=
  bO (br (v81 == x5.2.1) (some (v82 == x5.2.2.1)) (some false)) fun x17 => s_StabilizerMeasureZ_j20 v57 kl3 v83 x17
def s_StabilizerMeasureZ_l4 (a1 : Int) (a2 : List (Int × Int × Int × Int)) (x5 : Int × Int × Int × Int) (v57 : Int) (kl3 : Int → Option (Int × Bool)) : Nat → Int → Int → Int → Int → Int → Option (Int × Bool)
  | 0, _, _, _, _, _ => none
  | n4 + 1, v71, v72, v73, v74, v75 =>
  br (decide (v71 < a1)) (gd (decide (¬ (IntKind.wrap .u64 v71) < 0)) (br ((bits .and .i64 (Int.fdiv v57 (2 ^ min (Int.toNat (IntKind.wrap .u64 v71)) (IntKind.bits .i64))) 1) == 1) (bO (geti a2 (IntKind.wrap .i64 (a1 + v71))) fun q9 => bO (s_MulPauli v72 v73 v74 v75 q9.1 q9.2.1 q9.2.2.1 q9.2.2.2) fun x16 => s_StabilizerMeasureZ_j19 v71 (s_StabilizerMeasureZ_l4 a1 a2 x5 v57 kl3 n4) x16.1 x16.2.1 x16.2.2.1 x16.2.2.2.1) (s_StabilizerMeasureZ_j19 v71 (s_StabilizerMeasureZ_l4 a1 a2 x5 v57 kl3 n4) v72 v73 v74 v75))) (s_StabilizerMeasureZ_j16 x5 v57 kl3 v72 v73 v74 v75)
def s_StabilizerMeasureZ_j2 : Option (Int × Bool) :=
  some (0, false)
def s_StabilizerMeasureZ_l1 (a1 : Int) (a2 : List (Int × Int × Int × Int)) (x5 : Int × Int × Int × Int) : Nat → Int → Option (Int × Bool)
  | 0, _ => none
  | n3 + 1, v57 =>
  gd (decide (¬ (IntKind.wrap .u64 a1) < 0)) (br (decide (v57 < (IntKind.wrap .i64 (1 * 2 ^ min (Int.toNat (IntKind.wrap .u64 a1)) (IntKind.bits .i64))))) (s_StabilizerMeasureZ_l4 a1 a2 x5 v57 (s_StabilizerMeasureZ_l1 a1 a2 x5 n3) FU 0 a1 0 0 0) (s_StabilizerMeasureZ_j2))
def s_StabilizerMeasureZ_j1 (a1 : Int) (a2 : List (Int × Int × Int × Int)) (a3 : Int) (v1 : Bool) : Option (Int × Bool) :=
  br v1 (some (0, false)) (bO (s_l25Single a1 a3 true) fun x5 => s_StabilizerMeasureZ_l1 a1 a2 x5 FU 0)
def s_StabilizerMeasureZ (a1 : Int) (a2 : List (Int × Int × Int × Int)) (a3 : Int) : Option (Int × Bool) :=
  bO (s_IsValidTableau a1 a2) fun x1 => bO (br (!x1) (some true) (bO (s_l1In a3 0 (IntKind.wrap .i64 (a1 - 1))) fun x2 => some (!x2))) fun x3 => s_StabilizerMeasureZ_j1 a1 a2 a3 x3
set_option maxHeartbeats 4000000 in
theorem s_StabilizerMeasureZ_ok {a1 : Int} {a2 : List (Int × Int × Int × Int)} {a3 : Int} {r : Int × Bool} (h : s_StabilizerMeasureZ a1 a2 a3 = some r) :
    Spec Try.prog 24 [.agg [.int .i64 a1, .sl (encL EIIII a2) a2.length], .int .i64 a3] [] (.tup [.int .i64 r.1, .bool r.2]) [] := by
  unfold s_StabilizerMeasureZ at h
  refine spec_of Try.func24 rfl (by kernel_rfl) (by simp only [Try.ntmps24, List.length_cons, List.length_nil, Nat.reduceAdd, Nat.reduceLeDiff]) ?_
  intro C hN hρ
  rw [Try.ntmps24] at hN
  unfold st0
  simp only [tmps0, Nat.zero_add, Nat.reduceAdd]
  refine AW_rs (BR := BR) FM (by rw [hN]; kernel_rfl) (by kernel_rfl) ?_
  intro K hK
  simp only [AE, TY, EN, seval]
  refine hK _ _ _ ?_
  clear hK K
  refine AW_seq ?_
  refine AW_rsJ (BR := BR) (fun S => ∃ (v1 : Bool), S = ⟨mkT [(1, .int .i64 a3), (2, .ptr 32 0), (20, .bool v1)], mkR [(32, .box 33 [.int .i64 a1, .sl (encL EIIII a2) a2.length])], 64⟩ ∧ s_StabilizerMeasureZ_j1 a1 a2 a3 v1 = some r) FM (by rw [hN]; kernel_rfl) (by kernel_rfl) ?_ ?_
  · intro K hK
    obtain ⟨x1, h1, h⟩ := bO_inv h
    simp only [AE, TY, EN, seval]
    refine rC_p (s_IsValidTableau_ok h1) (by simp only [AL, AE, TY, EN, seval]) (by simp only [List.length_cons, List.length_nil, Nat.zero_add, Nat.reduceAdd, Nat.reduceLeDiff, Nat.zero_le]) (by intro j hj; exact absurd hj (Nat.not_lt_zero _)) ?_
    obtain ⟨x3, hv1, h⟩ := bO_inv h
    rcases br_inv hv1 with ⟨hc1, hv1⟩ | ⟨hc1, hv1⟩
    · cases hv1
      simp only [AE, TY, EN, seval, hc1]
      refine hK _ _ _ (show cutK _ _ _ from cutL ⟨_, rfl, h⟩ (Le_can [(32, some 64)] [] hρ (by kernel_rfl) ?_ ?_))
      · simp only [AL, AE, TY, EN, seval, hc1]
      · simp only [AL, AE, TY, EN, seval, hc1]
    · obtain ⟨x4, h3, hv1⟩ := bO_inv hv1
      simp only [AE, TY, EN, seval, hc1]
      refine rC_p (s_l1In_ok h3) (by simp only [AL, AE, TY, EN, seval, hc1]) (by simp only [List.length_cons, List.length_nil, Nat.zero_add, Nat.reduceAdd, Nat.reduceLeDiff, Nat.zero_le]) (by intro j hj; exact absurd hj (Nat.not_lt_zero _)) ?_
      cases hv1
      simp only [AE, TY, EN, seval, hc1]
      refine hK _ _ _ (show cutK _ _ _ from cutL ⟨_, rfl, h⟩ (Le_can [(32, some 64)] [] hρ (by kernel_rfl) ?_ ?_))
      · simp only [AL, AE, TY, EN, seval, hc1]
      · simp only [AL, AE, TY, EN, seval, hc1]
  · rintro S ⟨v1, rfl, h⟩
    unfold s_StabilizerMeasureZ_j1 at h
    refine AW_condK (a := .bool v1) (by simp only [AE, TY, EN, seval]) (brK h (fun hc2 h => ?_) (fun hc2 h => ?_))
    · refine AW_rs (BR := BR) FM (by rw [hN]; kernel_rfl) (by kernel_rfl) ?_
      intro K hK
      simp only [AE, TY, EN, seval]
      refine hK _ _ _ ?_
      clear hK K
      injection h with h
      subst h
      refine AW_le (Le_can (lt := [(4, .int .i64 0), (5, .bool false)]) (lr := []) (b' := 64) [] [] hρ (by kernel_rfl) ?_ ?_) (AW_ret (end_q [] (.inr rfl) (by kernel_rfl) (by kernel_rfl) ?_))
      · simp only [AL, AE, TY, EN, seval]
      · simp only [AL, AE, TY, EN, seval]
      · simp only [AE, TY, EN, Try.results24, seval]
    · refine AW_skip (show AW _ _ _ _ _ from ?_)
      refine AW_rs (BR := BR) FM (by rw [hN]; kernel_rfl) (by kernel_rfl) ?_
      intro K hK
      obtain ⟨x5, h4, h⟩ := bO_inv h
      simp only [AE, TY, EN, seval]
      refine rC_p (s_l25Single_ok h4) (by simp only [AL, AE, TY, EN, seval]) (by simp only [List.length_cons, List.length_nil, Nat.zero_add, Nat.reduceAdd, Nat.reduceLeDiff, Nat.zero_le]) (by intro j hj; exact absurd hj (Nat.not_lt_zero _)) ?_
      simp only [AE, TY, EN, seval]
      refine hK _ _ _ ?_
      clear hK K
      refine AW_cutK (fun S => S = ⟨mkT [], mkR [], 64⟩ ∧ s_StabilizerMeasureZ_j2 = some r) ?_ ?_
      · refine AW_rs (BR := BR) FM (by rw [hN]; kernel_rfl) (by kernel_rfl) ?_
        intro K hK
        simp only [AE, TY, EN, seval]
        refine hK _ _ _ ?_
        clear hK K
        refine AW_block ?_
        refine AW_loopF (fun n S => ∃ (v57 : Int), S = ⟨mkT [(2, .ptr 32 0), (6, .ptr 33 0), (7, .int .i64 v57)], mkR [(32, .box 33 [.int .i64 a1, .sl (encL EIIII a2) a2.length]), (33, .box 28 [.int .i64 x5.1, .int .i64 x5.2.1, .int .i64 x5.2.2.1, .int .i64 x5.2.2.2])], 64⟩ ∧ s_StabilizerMeasureZ_l1 a1 a2 x5 n v57 = some r) FU ?_ ?_ ?_
        · refine cutL ⟨_, rfl, h⟩ (Le_can [(32, some 32), (33, some 128)] [] hρ (by kernel_rfl) ?_ ?_)
          · simp only [AL, AE, TY, EN, seval]
          · simp only [AL, AE, TY, EN, seval]
        · rintro S ⟨_, _, h⟩; rw [s_StabilizerMeasureZ_l1] at h; cases h
        · rintro n3 S ⟨v57, rfl, h⟩
          rw [s_StabilizerMeasureZ_l1] at h
          refine AW_seq ?_
          refine AW_rs (BR := BR) FM (by rw [hN]; kernel_rfl) (by kernel_rfl) ?_
          intro K hK
          obtain ⟨h31, h⟩ := gd_inv h
          replace h31 := of_decide_eq_true h31
          simp only [AE, TY, EN, seval, h31]
          refine hK _ _ _ ?_
          clear hK K
          refine AW_condK (a := .bool (decide (v57 < (IntKind.wrap .i64 (1 * 2 ^ min (Int.toNat (IntKind.wrap .u64 a1)) (IntKind.bits .i64)))))) (by simp only [AE, TY, EN, seval, h31]) (brK h (fun hc21 h => ?_) (fun hc21 h => ?_))
          · refine AW_skip (show AW _ _ _ _ _ from ?_)
            refine AW_cutK (fun S => S = ⟨mkT [(2, .ptr 32 0), (6, .ptr 33 0), (7, .int .i64 v57)], mkR [(32, .box 33 [.int .i64 a1, .sl (encL EIIII a2) a2.length]), (33, .box 28 [.int .i64 x5.1, .int .i64 x5.2.1, .int .i64 x5.2.2.1, .int .i64 x5.2.2.2])], 64⟩ ∧ s_StabilizerMeasureZ_j15 v57 (s_StabilizerMeasureZ_l1 a1 a2 x5 n3) = some r) ?_ ?_
            · refine AW_block ?_
              refine AW_rs (BR := BR) FM (by rw [hN]; kernel_rfl) (by kernel_rfl) ?_
              intro K hK
              simp only [AE, TY, EN, seval]
              refine hK _ _ _ ?_
              clear hK K
              refine AW_cutK (fun S => ∃ (v80 : Int) (v81 : Int) (v82 : Int) (v83 : Int), S = ⟨mkT [(2, .ptr 32 0), (6, .ptr 33 0), (7, .int .i64 v57), (8, .ptr 34 0)], mkR [(32, .box 33 [.int .i64 a1, .sl (encL EIIII a2) a2.length]), (33, .box 28 [.int .i64 x5.1, .int .i64 x5.2.1, .int .i64 x5.2.2.1, .int .i64 x5.2.2.2]), (34, .box 28 [.int .i64 v80, .int .i64 v81, .int .i64 v82, .int .i64 v83])], 64⟩ ∧ s_StabilizerMeasureZ_j16 x5 v57 (s_StabilizerMeasureZ_l1 a1 a2 x5 n3) v80 v81 v82 v83 = some r) ?_ ?_
              · refine AW_rs (BR := BR) FM (by rw [hN]; kernel_rfl) (by kernel_rfl) ?_
                intro K hK
                simp only [AE, TY, EN, seval]
                refine hK _ _ _ ?_
                clear hK K
                refine AW_block ?_
                refine AW_loopF (fun n S => ∃ (v71 : Int) (v72 : Int) (v73 : Int) (v74 : Int) (v75 : Int), S = ⟨mkT [(2, .ptr 32 0), (6, .ptr 33 0), (7, .int .i64 v57), (8, .ptr 34 0), (9, .int .i64 v71)], mkR [(32, .box 33 [.int .i64 a1, .sl (encL EIIII a2) a2.length]), (33, .box 28 [.int .i64 x5.1, .int .i64 x5.2.1, .int .i64 x5.2.2.1, .int .i64 x5.2.2.2]), (34, .box 28 [.int .i64 v72, .int .i64 v73, .int .i64 v74, .int .i64 v75])], 64⟩ ∧ s_StabilizerMeasureZ_l4 a1 a2 x5 v57 (s_StabilizerMeasureZ_l1 a1 a2 x5 n3) n v71 v72 v73 v74 v75 = some r) FU ?_ ?_ ?_
                · refine cutL ⟨_, _, _, _, _, rfl, h⟩ (Le_can [(32, some 32), (33, some 33), (34, some 1136)] [] hρ (by kernel_rfl) ?_ ?_)
                  · simp only [AL, AE, TY, EN, seval]
                  · simp only [AL, AE, TY, EN, seval]
                · rintro S ⟨_, _, _, _, _, _, h⟩; rw [s_StabilizerMeasureZ_l4] at h; cases h
                · rintro n4 S ⟨v71, v72, v73, v74, v75, rfl, h⟩
                  rw [s_StabilizerMeasureZ_l4] at h
                  refine AW_seq ?_
                  refine AW_rs (BR := BR) FM (by rw [hN]; kernel_rfl) (by kernel_rfl) ?_
                  intro K hK
                  simp only [AE, TY, EN, seval]
                  refine hK _ _ _ ?_
                  clear hK K
                  refine AW_condK (a := .bool (decide (v71 < a1))) (by simp only [AE, TY, EN, seval]) (brK h (fun hc26 h => ?_) (fun hc26 h => ?_))
                  · refine AW_skip (show AW _ _ _ _ _ from ?_)
                    refine AW_cutK (fun S => ∃ (v76 : Int) (v77 : Int) (v78 : Int) (v79 : Int), S = ⟨mkT [(2, .ptr 32 0), (6, .ptr 33 0), (7, .int .i64 v57), (8, .ptr 34 0), (9, .int .i64 v71)], mkR [(32, .box 33 [.int .i64 a1, .sl (encL EIIII a2) a2.length]), (33, .box 28 [.int .i64 x5.1, .int .i64 x5.2.1, .int .i64 x5.2.2.1, .int .i64 x5.2.2.2]), (34, .box 28 [.int .i64 v76, .int .i64 v77, .int .i64 v78, .int .i64 v79])], 64⟩ ∧ s_StabilizerMeasureZ_j19 v71 (s_StabilizerMeasureZ_l4 a1 a2 x5 v57 (s_StabilizerMeasureZ_l1 a1 a2 x5 n3) n4) v76 v77 v78 v79 = some r) ?_ ?_
                    · refine AW_block ?_
                      refine AW_rs (BR := BR) FM (by rw [hN]; kernel_rfl) (by kernel_rfl) ?_
                      intro K hK
                      obtain ⟨h40, h⟩ := gd_inv h
                      replace h40 := of_decide_eq_true h40
                      simp only [AE, TY, EN, seval, h40]
                      refine hK _ _ _ ?_
                      clear hK K
                      refine AW_condK (a := .bool ((bits .and .i64 (Int.fdiv v57 (2 ^ min (Int.toNat (IntKind.wrap .u64 v71)) (IntKind.bits .i64))) 1) == 1)) (by simp only [AE, TY, EN, seval, h40]) (brK h (fun hc27 h => ?_) (fun hc27 h => ?_))
                      · refine AW_re (BR := BR) FM (by rw [hN]; kernel_rfl) (by kernel_rfl) ?_
                        intro K hK
                        obtain ⟨q9, h41, h⟩ := bO_inv h
                        obtain ⟨⟨h42a, h42b⟩, h42c⟩ := geti_E EIIIIl h41
                        try simp only [AE, TY, EN, seval] at h42c
                        obtain ⟨x16, h43, h⟩ := bO_inv h
                        simp only [AE, TY, EN, seval, h42a, h42b, h42c]
                        refine rC_p (s_MulPauli_ok h43) (by simp only [AL, AE, TY, EN, seval, h42a, h42b, h42c]) (by simp only [List.length_cons, List.length_nil, Nat.zero_add, Nat.reduceAdd, Nat.reduceLeDiff, Nat.zero_le]) (by intro j hj; exact absurd hj (Nat.not_lt_zero _)) ?_
                        simp only [AE, TY, EN, seval, h42a, h42b, h42c]
                        refine hK _ _ _ (show cutK _ _ _ from cutL ⟨_, _, _, _, rfl, h⟩ (Le_can [(32, some 32), (33, some 33), (34, some 34)] [] hρ (by kernel_rfl) ?_ ?_))
                        · simp only [AL, AE, TY, EN, seval, h42a, h42b, h42c]
                        · simp only [AL, AE, TY, EN, seval, h42a, h42b, h42c]
                      · refine AW_skip (show cutK _ _ _ from cutL ⟨_, _, _, _, rfl, h⟩ (Le_can [(32, some 32), (33, some 33), (34, some 34)] [] hρ (by kernel_rfl) ?_ ?_))
                        · simp only [AL, AE, TY, EN, seval, h40]
                        · simp only [AL, AE, TY, EN, seval, h40]
                    · rintro S ⟨v76, v77, v78, v79, rfl, h⟩
                      unfold s_StabilizerMeasureZ_j19 at h
                      refine AW_re (BR := BR) FM (by rw [hN]; kernel_rfl) (by kernel_rfl) ?_
                      intro K hK
                      simp only [AE, TY, EN, seval]
                      refine hK _ _ _ (show cutK _ _ _ from cutL ⟨_, _, _, _, _, rfl, h⟩ (Le_can [(32, some 32), (33, some 33), (34, some 34)] [] hρ (by kernel_rfl) ?_ ?_))
                      · simp only [AL, AE, TY, EN, seval]
                      · simp only [AL, AE, TY, EN, seval]
                  · refine AW_exit (show cutK _ _ _ from cutL ⟨_, _, _, _, rfl, h⟩ (Le_can [(32, some 32), (33, some 33), (34, some 34)] [] hρ (by kernel_rfl) ?_ ?_))
                    · simp only [AL, AE, TY, EN, seval]
                    · simp only [AL, AE, TY, EN, seval]
              · rintro S ⟨v80, v81, v82, v83, rfl, h⟩
                unfold s_StabilizerMeasureZ_j16 at h
                refine AW_rsJ (BR := BR) (fun S => ∃ (v84 : Bool), S = ⟨mkT [(2, .ptr 32 0), (6, .ptr 33 0), (7, .int .i64 v57), (8, .ptr 34 0), (72, .bool v84)], mkR [(32, .box 33 [.int .i64 a1, .sl (encL EIIII a2) a2.length]), (33, .box 28 [.int .i64 x5.1, .int .i64 x5.2.1, .int .i64 x5.2.2.1, .int .i64 x5.2.2.2]), (34, .box 28 [.int .i64 v80, .int .i64 v81, .int .i64 v82, .int .i64 v83])], 64⟩ ∧ s_StabilizerMeasureZ_j20 v57 (s_StabilizerMeasureZ_l1 a1 a2 x5 n3) v83 v84 = some r) FM (by rw [hN]; kernel_rfl) (by kernel_rfl) ?_ ?_
                · intro K hK
                  obtain ⟨x17, hv4, h⟩ := bO_inv h
                  rcases br_inv hv4 with ⟨hc28, hv4⟩ | ⟨hc28, hv4⟩
                  · cases hv4
                    simp only [AE, TY, EN, seval, hc28]
                    refine hK _ _ _ (show cutK _ _ _ from cutL ⟨_, rfl, h⟩ (Le_can [(32, some 32), (33, some 33), (34, some 34)] [] hρ (by kernel_rfl) ?_ ?_))
                    · simp only [AL, AE, TY, EN, seval, hc28]
                    · simp only [AL, AE, TY, EN, seval, hc28]
                  · cases hv4
                    simp only [AE, TY, EN, seval, hc28]
                    refine hK _ _ _ (show cutK _ _ _ from cutL ⟨_, rfl, h⟩ (Le_can [(32, some 32), (33, some 33), (34, some 34)] [] hρ (by kernel_rfl) ?_ ?_))
                    · simp only [AL, AE, TY, EN, seval, hc28]
                    · simp only [AL, AE, TY, EN, seval, hc28]
                · rintro S ⟨v84, rfl, h⟩
                  unfold s_StabilizerMeasureZ_j20 at h
                  refine AW_condK (a := .bool v84) (by simp only [AE, TY, EN, seval]) (brK h (fun hc29 h => ?_) (fun hc29 h => ?_))
                  · refine AW_rs (BR := BR) FM (by rw [hN]; kernel_rfl) (by kernel_rfl) ?_
                    intro K hK
                    simp only [AE, TY, EN, seval]
                    refine hK _ _ _ ?_
                    clear hK K
                    injection h with h
                    subst h
                    refine AW_le (Le_can (lt := [(4, .int .i64 (IntKind.wrap .i64 (Int.tdiv v83 2))), (5, .bool true)]) (lr := []) (b' := 64) [] [] hρ (by kernel_rfl) ?_ ?_) (AW_ret (end_q [] (.inr rfl) (by kernel_rfl) (by kernel_rfl) ?_))
                    · simp only [AL, AE, TY, EN, seval]
                    · simp only [AL, AE, TY, EN, seval]
                    · simp only [AE, TY, EN, Try.results24, seval]
                  · refine AW_skip (show cutK _ _ _ from cutL ⟨rfl, h⟩ (Le_can [(32, some 32), (33, some 33)] [] hρ (by kernel_rfl) ?_ ?_))
                    · simp only [AL, AE, TY, EN, seval]
                    · simp only [AL, AE, TY, EN, seval]
            · rintro S ⟨rfl, h⟩
              unfold s_StabilizerMeasureZ_j15 at h
              refine AW_re (BR := BR) FM (by rw [hN]; kernel_rfl) (by kernel_rfl) ?_
              intro K hK
              simp only [AE, TY, EN, seval]
              refine hK _ _ _ (show cutK _ _ _ from cutL ⟨_, rfl, h⟩ (Le_can [(32, some 32), (33, some 33)] [] hρ (by kernel_rfl) ?_ ?_))
              · simp only [AL, AE, TY, EN, seval]
              · simp only [AL, AE, TY, EN, seval]
          · refine AW_exit (show cutK _ _ _ from cutL ⟨rfl, h⟩ (Le_can [] [] hρ (by kernel_rfl) ?_ ?_))
            · simp only [AL, AE, TY, EN, seval, h31]
            · simp only [AL, AE, TY, EN, seval, h31]
      · rintro S ⟨rfl, h⟩
        unfold s_StabilizerMeasureZ_j2 at h
        refine AW_rs (BR := BR) FM (by rw [hN]; kernel_rfl) (by kernel_rfl) ?_
        intro K hK
        simp only [AE, TY, EN, seval]
        refine hK _ _ _ ?_
        clear hK K
        injection h with h
        subst h
        refine AW_le (Le_can (lt := [(4, .int .i64 0), (5, .bool false)]) (lr := []) (b' := 64) [] [] hρ (by kernel_rfl) ?_ ?_) (AW_ret (end_q [] (.inr rfl) (by kernel_rfl) (by kernel_rfl) ?_))
        · simp only [AL, AE, TY, EN, seval]
        · simp only [AL, AE, TY, EN, seval]
        · simp only [AE, TY, EN, Try.results24, seval]
/- impl.IsValidNormalForm -/
def i_IsValidNormalForm_j4 (v6 : Int) (v7 : Int) (kl1 : Int → Int → Option Bool) (v8 : Bool) : Option Bool :=
  br v8 (some false) (kl1 v6 (IntKind.wrap .i64 (v7 + 1)))
def i_IsValidNormalForm_j5 (v9 : Bool) : Option Bool :=
  some v9
def i_IsValidNormalForm_j1 (a2 : Int) (a3 : List (Int × Int × Int × Int)) : Option Bool :=
  bO (br (a2 == 1) (bO (i_IsValidTableau a2 a3) fun x11 => some x11) (some false)) fun x12 => i_IsValidNormalForm_j5 x12
def i_IsValidNormalForm_l1 (a1 : List Int) (a2 : Int) (a3 : List (Int × Int × Int × Int)) : Nat → Int → Int → Option Bool
  | 0, _, _ => none
  | n1 + 1, v6, v7 =>
  br (decide (v7 < v6)) (bO (geti a1 v7) fun q3 => bO (i_in q3 0 2) fun x7 => bO (br (!x7) (some true) (bO (br (decide (0 < v7)) (some (q3 == 0)) (some false)) fun x8 => some x8)) fun x9 => i_IsValidNormalForm_j4 v6 v7 (i_IsValidNormalForm_l1 a1 a2 a3 n1) x9) (i_IsValidNormalForm_j1 a2 a3)
def i_IsValidNormalForm (a1 : List Int) (a2 : Int) (a3 : List (Int × Int × Int × Int)) : Option Bool :=
  i_IsValidNormalForm_l1 a1 a2 a3 FU ((a1.length : Int)) 0
set_option maxHeartbeats 4000000 in
theorem i_IsValidNormalForm_ok {a1 : List Int} {a2 : Int} {a3 : List (Int × Int × Int × Int)} {r : Bool} (h : i_IsValidNormalForm a1 a2 a3 = some r) :
    Spec Try.prog 29 [.agg [.sl (encL EI a1) a1.length, .int .i64 a2, .sl (encL EIIII a3) a3.length]] [] (.bool r) [] := by
  unfold i_IsValidNormalForm at h
  refine spec_of Try.func29 rfl (by kernel_rfl) (by simp only [Try.ntmps29, List.length_cons, List.length_nil, Nat.reduceAdd, Nat.reduceLeDiff]) ?_
  intro C hN hρ
  rw [Try.ntmps29] at hN
  unfold st0
  simp only [tmps0, Nat.zero_add, Nat.reduceAdd]
  refine AW_rs (BR := BR) FM (by rw [hN]; kernel_rfl) (by kernel_rfl) ?_
  intro K hK
  simp only [AE, TY, EN, seval]
  refine hK _ _ _ ?_
  clear hK K
  refine AW_cutK (fun S => S = ⟨mkT [(1, .ptr 32 0)], mkR [(32, .box 50 [.sl (encL EI a1) a1.length, .int .i64 a2, .sl (encL EIIII a3) a3.length])], 64⟩ ∧ i_IsValidNormalForm_j1 a2 a3 = some r) ?_ ?_
  · refine AW_rs (BR := BR) FM (by rw [hN]; kernel_rfl) (by kernel_rfl) ?_
    intro K hK
    simp only [AE, TY, EN, seval]
    refine hK _ _ _ ?_
    clear hK K
    refine AW_block ?_
    refine AW_loopF (fun n S => ∃ (v6 : Int) (v7 : Int), S = ⟨mkT [(1, .ptr 32 0), (6, .sl (encL EI a1) a1.length), (7, .int .i64 v6), (8, .int .i64 v7)], mkR [(32, .box 50 [.sl (encL EI a1) a1.length, .int .i64 a2, .sl (encL EIIII a3) a3.length])], 64⟩ ∧ i_IsValidNormalForm_l1 a1 a2 a3 n v6 v7 = some r) FU ?_ ?_ ?_
    · refine cutL ⟨_, _, rfl, h⟩ (Le_can [(32, some 64)] [] hρ (by kernel_rfl) ?_ ?_)
      · simp only [AL, AE, TY, EN, seval]
      · simp only [AL, AE, TY, EN, seval]
    · rintro S ⟨_, _, _, h⟩; rw [i_IsValidNormalForm_l1] at h; cases h
    · rintro n1 S ⟨v6, v7, rfl, h⟩
      rw [i_IsValidNormalForm_l1] at h
      refine AW_rs (BR := BR) FM (by rw [hN]; kernel_rfl) (by kernel_rfl) ?_
      intro K hK
      simp only [AE, TY, EN, seval]
      refine hK _ _ _ ?_
      clear hK K
      refine AW_seq ?_
      refine AW_condK (a := .bool (decide (v7 < v6))) (by simp only [AE, TY, EN, seval]) (brK h (fun hc9 h => ?_) (fun hc9 h => ?_))
      · refine AW_skip (show AW _ _ _ _ _ from ?_)
        refine AW_seq ?_
        refine AW_block ?_
        refine AW_rs (BR := BR) FM (by rw [hN]; kernel_rfl) (by kernel_rfl) ?_
        intro K hK
        obtain ⟨q3, h7, h⟩ := bO_inv h
        obtain ⟨⟨h8a, h8b⟩, h8c⟩ := geti_E EIl h7
        try simp only [AE, TY, EN, seval] at h8c
        simp only [AE, TY, EN, seval, h8a, h8b, h8c]
        refine hK _ _ _ ?_
        clear hK K
        refine AW_rsJ (BR := BR) (fun S => ∃ (v8 : Bool), S = ⟨mkT [(1, .ptr 32 0), (6, .sl (encL EI a1) a1.length), (7, .int .i64 v6), (8, .int .i64 v7), (23, .bool v8)], mkR [(32, .box 50 [.sl (encL EI a1) a1.length, .int .i64 a2, .sl (encL EIIII a3) a3.length])], 64⟩ ∧ i_IsValidNormalForm_j4 v6 v7 (i_IsValidNormalForm_l1 a1 a2 a3 n1) v8 = some r) FM (by rw [hN]; kernel_rfl) (by kernel_rfl) ?_ ?_
        · intro K hK
          obtain ⟨x7, h9, h⟩ := bO_inv h
          simp only [AE, TY, EN, seval]
          refine rC_p (i_in_ok h9) (by simp only [AL, AE, TY, EN, seval]) (by simp only [List.length_cons, List.length_nil, Nat.zero_add, Nat.reduceAdd, Nat.reduceLeDiff, Nat.zero_le]) (by intro j hj; exact absurd hj (Nat.not_lt_zero _)) ?_
          obtain ⟨x9, hv5, h⟩ := bO_inv h
          rcases br_inv hv5 with ⟨hc10, hv5⟩ | ⟨hc10, hv5⟩
          · cases hv5
            simp only [AE, TY, EN, seval, hc10]
            refine hK _ _ _ (show cutK _ _ _ from cutL ⟨_, rfl, h⟩ (Le_can [(32, some 32)] [] hρ (by kernel_rfl) ?_ ?_))
            · simp only [AL, AE, TY, EN, seval, hc10]
            · simp only [AL, AE, TY, EN, seval, hc10]
          · obtain ⟨x10, hv7, hv5⟩ := bO_inv hv5
            rcases br_inv hv7 with ⟨hc12, hv7⟩ | ⟨hc12, hv7⟩
            · cases hv7
              cases hv5
              simp only [AE, TY, EN, seval, hc10, hc12]
              refine hK _ _ _ (show cutK _ _ _ from cutL ⟨_, rfl, h⟩ (Le_can [(32, some 32)] [] hρ (by kernel_rfl) ?_ ?_))
              · simp only [AL, AE, TY, EN, seval, hc10, hc12]
              · simp only [AL, AE, TY, EN, seval, hc10, hc12]
            · cases hv7
              cases hv5
              simp only [AE, TY, EN, seval, hc10, hc12]
              refine hK _ _ _ (show cutK _ _ _ from cutL ⟨_, rfl, h⟩ (Le_can [(32, some 32)] [] hρ (by kernel_rfl) ?_ ?_))
              · simp only [AL, AE, TY, EN, seval, hc10, hc12]
              · simp only [AL, AE, TY, EN, seval, hc10, hc12]
        · rintro S ⟨v8, rfl, h⟩
          unfold i_IsValidNormalForm_j4 at h
          refine AW_condK (a := .bool v8) (by simp only [AE, TY, EN, seval, h8a, h8b, h8c]) (brK h (fun hc13 h => ?_) (fun hc13 h => ?_))
          · refine AW_rs (BR := BR) FM (by rw [hN]; kernel_rfl) (by kernel_rfl) ?_
            intro K hK
            simp only [AE, TY, EN, seval]
            refine hK _ _ _ ?_
            clear hK K
            injection h with h
            subst h
            refine AW_le (Le_can (lt := [(2, .bool false)]) (lr := []) (b' := 64) [] [] hρ (by kernel_rfl) ?_ ?_) (AW_ret (end_q [] (.inr rfl) (by kernel_rfl) (by kernel_rfl) ?_))
            · simp only [AL, AE, TY, EN, seval]
            · simp only [AL, AE, TY, EN, seval]
            · simp only [AE, TY, EN, Try.results29, seval]
          · refine AW_skip (show AW _ _ _ _ _ from ?_)
            refine AW_re (BR := BR) FM (by rw [hN]; kernel_rfl) (by kernel_rfl) ?_
            intro K hK
            simp only [AE, TY, EN, seval]
            refine hK _ _ _ (show cutK _ _ _ from cutL ⟨_, _, rfl, h⟩ (Le_can [(32, some 32)] [] hρ (by kernel_rfl) ?_ ?_))
            · simp only [AL, AE, TY, EN, seval]
            · simp only [AL, AE, TY, EN, seval]
      · refine AW_exit (show cutK _ _ _ from cutL ⟨rfl, h⟩ (Le_can [(32, some 32)] [] hρ (by kernel_rfl) ?_ ?_))
        · simp only [AL, AE, TY, EN, seval]
        · simp only [AL, AE, TY, EN, seval]
  · rintro S ⟨rfl, h⟩
    unfold i_IsValidNormalForm_j1 at h
    refine AW_rsJ (BR := BR) (fun S => ∃ (v9 : Bool), S = ⟨mkT [(2, .bool v9)], mkR [], 64⟩ ∧ i_IsValidNormalForm_j5 v9 = some r) FM (by rw [hN]; kernel_rfl) (by kernel_rfl) ?_ ?_
    · intro K hK
      obtain ⟨x12, hv8, h⟩ := bO_inv h
      rcases br_inv hv8 with ⟨hc14, hv8⟩ | ⟨hc14, hv8⟩
      · obtain ⟨x13, h11, hv8⟩ := bO_inv hv8
        simp only [AE, TY, EN, seval, hc14]
        refine rC_p (i_IsValidTableau_ok h11) (by simp only [AL, AE, TY, EN, seval, hc14]) (by simp only [List.length_cons, List.length_nil, Nat.zero_add, Nat.reduceAdd, Nat.reduceLeDiff, Nat.zero_le]) (by intro j hj; exact absurd hj (Nat.not_lt_zero _)) ?_
        cases hv8
        simp only [AE, TY, EN, seval, hc14]
        refine hK _ _ _ (show cutK _ _ _ from cutL ⟨_, rfl, h⟩ (Le_can [] [] hρ (by kernel_rfl) ?_ ?_))
        · simp only [AL, AE, TY, EN, seval, hc14]
        · simp only [AL, AE, TY, EN, seval, hc14]
      · cases hv8
        simp only [AE, TY, EN, seval, hc14]
        refine hK _ _ _ (show cutK _ _ _ from cutL ⟨_, rfl, h⟩ (Le_can [] [] hρ (by kernel_rfl) ?_ ?_))
        · simp only [AL, AE, TY, EN, seval, hc14]
        · simp only [AL, AE, TY, EN, seval, hc14]
    · rintro S ⟨v9, rfl, h⟩
      unfold i_IsValidNormalForm_j5 at h
      injection h with h
      subst h
      refine AW_le (Le_can (lt := [(2, .bool v9)]) (lr := []) (b' := 64) [] [] hρ (by kernel_rfl) ?_ ?_) (AW_ret (end_q [] (.inr rfl) (by kernel_rfl) (by kernel_rfl) ?_))
      · simp only [AL, AE, TY, EN, seval]
      · simp only [AL, AE, TY, EN, seval]
      · simp only [AE, TY, EN, Try.results29, seval]
/- spec.IsValidNormalForm -/
def s_IsValidNormalForm_j4 (v4 : Int) (kl1 : Int → Option Bool) (v5 : Bool) : Option Bool :=
  br v5 (some false) (kl1 (IntKind.wrap .i64 (v4 + 1)))
def s_IsValidNormalForm_j5 (v6 : Bool) : Option Bool :=
  some v6
def s_IsValidNormalForm_j1 (a2 : Int) (a3 : List (Int × Int × Int × Int)) : Option Bool :=
  bO (s_IsValidTableau a2 a3) fun x11 => bO (br x11 (some (a2 == 1)) (some false)) fun x12 => s_IsValidNormalForm_j5 x12
def s_IsValidNormalForm_l1 (a1 : List Int) (a2 : Int) (a3 : List (Int × Int × Int × Int)) : Nat → Int → Option Bool
  | 0, _ => none
  | n1 + 1, v4 =>
  br (decide (v4 < ((a1.length : Int)))) (bO (geti a1 v4) fun q3 => bO (s_l1In q3 0 2) fun x7 => bO (br (!x7) (some true) (bO (br (decide (0 < v4)) (some (q3 == 0)) (some false)) fun x8 => some x8)) fun x9 => s_IsValidNormalForm_j4 v4 (s_IsValidNormalForm_l1 a1 a2 a3 n1) x9) (s_IsValidNormalForm_j1 a2 a3)
def s_IsValidNormalForm (a1 : List Int) (a2 : Int) (a3 : List (Int × Int × Int × Int)) : Option Bool :=
  s_IsValidNormalForm_l1 a1 a2 a3 FU 0
set_option maxHeartbeats 4000000 in
theorem s_IsValidNormalForm_ok {a1 : List Int} {a2 : Int} {a3 : List (Int × Int × Int × Int)} {r : Bool} (h : s_IsValidNormalForm a1 a2 a3 = some r) :
    Spec Try.prog 27 [.agg [.sl (encL EI a1) a1.length, .int .i64 a2, .sl (encL EIIII a3) a3.length]] [] (.bool r) [] := by
  unfold s_IsValidNormalForm at h
  refine spec_of Try.func27 rfl (by kernel_rfl) (by simp only [Try.ntmps27, List.length_cons, List.length_nil, Nat.reduceAdd, Nat.reduceLeDiff]) ?_
  intro C hN hρ
  rw [Try.ntmps27] at hN
  unfold st0
  simp only [tmps0, Nat.zero_add, Nat.reduceAdd]
  refine AW_rs (BR := BR) FM (by rw [hN]; kernel_rfl) (by kernel_rfl) ?_
  intro K hK
  simp only [AE, TY, EN, seval]
  refine hK _ _ _ ?_
  clear hK K
  refine AW_cutK (fun S => S = ⟨mkT [(1, .ptr 32 0)], mkR [(32, .box 50 [.sl (encL EI a1) a1.length, .int .i64 a2, .sl (encL EIIII a3) a3.length])], 64⟩ ∧ s_IsValidNormalForm_j1 a2 a3 = some r) ?_ ?_
  · refine AW_rs (BR := BR) FM (by rw [hN]; kernel_rfl) (by kernel_rfl) ?_
    intro K hK
    simp only [AE, TY, EN, seval]
    refine hK _ _ _ ?_
    clear hK K
    refine AW_block ?_
    refine AW_loopF (fun n S => ∃ (v4 : Int), S = ⟨mkT [(1, .ptr 32 0), (3, .int .i64 v4)], mkR [(32, .box 50 [.sl (encL EI a1) a1.length, .int .i64 a2, .sl (encL EIIII a3) a3.length])], 64⟩ ∧ s_IsValidNormalForm_l1 a1 a2 a3 n v4 = some r) FU ?_ ?_ ?_
    · refine cutL ⟨_, rfl, h⟩ (Le_can [(32, some 64)] [] hρ (by kernel_rfl) ?_ ?_)
      · simp only [AL, AE, TY, EN, seval]
      · simp only [AL, AE, TY, EN, seval]
    · rintro S ⟨_, _, h⟩; rw [s_IsValidNormalForm_l1] at h; cases h
    · rintro n1 S ⟨v4, rfl, h⟩
      rw [s_IsValidNormalForm_l1] at h
      refine AW_seq ?_
      refine AW_rs (BR := BR) FM (by rw [hN]; kernel_rfl) (by kernel_rfl) ?_
      intro K hK
      simp only [AE, TY, EN, seval]
      refine hK _ _ _ ?_
      clear hK K
      refine AW_condK (a := .bool (decide (v4 < ((a1.length : Int))))) (by simp only [AE, TY, EN, seval]) (brK h (fun hc9 h => ?_) (fun hc9 h => ?_))
      · refine AW_skip (show AW _ _ _ _ _ from ?_)
        refine AW_seq ?_
        refine AW_block ?_
        refine AW_rsJ (BR := BR) (fun S => ∃ (v5 : Bool), S = ⟨mkT [(1, .ptr 32 0), (3, .int .i64 v4), (29, .bool v5)], mkR [(32, .box 50 [.sl (encL EI a1) a1.length, .int .i64 a2, .sl (encL EIIII a3) a3.length])], 64⟩ ∧ s_IsValidNormalForm_j4 v4 (s_IsValidNormalForm_l1 a1 a2 a3 n1) v5 = some r) FM (by rw [hN]; kernel_rfl) (by kernel_rfl) ?_ ?_
        · intro K hK
          obtain ⟨q3, h7, h⟩ := bO_inv h
          obtain ⟨⟨h8a, h8b⟩, h8c⟩ := geti_E EIl h7
          try simp only [AE, TY, EN, seval] at h8c
          obtain ⟨x7, h9, h⟩ := bO_inv h
          simp only [AE, TY, EN, seval, h8a, h8b, h8c]
          refine rC_p (s_l1In_ok h9) (by simp only [AL, AE, TY, EN, seval, h8a, h8b, h8c]) (by simp only [List.length_cons, List.length_nil, Nat.zero_add, Nat.reduceAdd, Nat.reduceLeDiff, Nat.zero_le]) (by intro j hj; exact absurd hj (Nat.not_lt_zero _)) ?_
          obtain ⟨x9, hv5, h⟩ := bO_inv h
          rcases br_inv hv5 with ⟨hc10, hv5⟩ | ⟨hc10, hv5⟩
          · cases hv5
            simp only [AE, TY, EN, seval, h8a, h8b, h8c, hc10]
            refine hK _ _ _ (show cutK _ _ _ from cutL ⟨_, rfl, h⟩ (Le_can [(32, some 32)] [] hρ (by kernel_rfl) ?_ ?_))
            · simp only [AL, AE, TY, EN, seval, h8a, h8b, h8c, hc10]
            · simp only [AL, AE, TY, EN, seval, h8a, h8b, h8c, hc10]
          · obtain ⟨x10, hv7, hv5⟩ := bO_inv hv5
            rcases br_inv hv7 with ⟨hc12, hv7⟩ | ⟨hc12, hv7⟩
            · cases hv7
              cases hv5
              simp only [AE, TY, EN, seval, h8a, h8b, h8c, hc10, hc12]
              refine hK _ _ _ (show cutK _ _ _ from cutL ⟨_, rfl, h⟩ (Le_can [(32, some 32)] [] hρ (by kernel_rfl) ?_ ?_))
              · simp only [AL, AE, TY, EN, seval, h8a, h8b, h8c, hc10, hc12]
              · simp only [AL, AE, TY, EN, seval, h8a, h8b, h8c, hc10, hc12]
            · cases hv7
              cases hv5
              simp only [AE, TY, EN, seval, h8a, h8b, h8c, hc10, hc12]
              refine hK _ _ _ (show cutK _ _ _ from cutL ⟨_, rfl, h⟩ (Le_can [(32, some 32)] [] hρ (by kernel_rfl) ?_ ?_))
              · simp only [AL, AE, TY, EN, seval, h8a, h8b, h8c, hc10, hc12]
              · simp only [AL, AE, TY, EN, seval, h8a, h8b, h8c, hc10, hc12]
        · rintro S ⟨v5, rfl, h⟩
          unfold s_IsValidNormalForm_j4 at h
          refine AW_condK (a := .bool v5) (by simp only [AE, TY, EN, seval]) (brK h (fun hc13 h => ?_) (fun hc13 h => ?_))
          · refine AW_rs (BR := BR) FM (by rw [hN]; kernel_rfl) (by kernel_rfl) ?_
            intro K hK
            simp only [AE, TY, EN, seval]
            refine hK _ _ _ ?_
            clear hK K
            injection h with h
            subst h
            refine AW_le (Le_can (lt := [(2, .bool false)]) (lr := []) (b' := 64) [] [] hρ (by kernel_rfl) ?_ ?_) (AW_ret (end_q [] (.inr rfl) (by kernel_rfl) (by kernel_rfl) ?_))
            · simp only [AL, AE, TY, EN, seval]
            · simp only [AL, AE, TY, EN, seval]
            · simp only [AE, TY, EN, Try.results27, seval]
          · refine AW_skip (show AW _ _ _ _ _ from ?_)
            refine AW_re (BR := BR) FM (by rw [hN]; kernel_rfl) (by kernel_rfl) ?_
            intro K hK
            simp only [AE, TY, EN, seval]
            refine hK _ _ _ (show cutK _ _ _ from cutL ⟨_, rfl, h⟩ (Le_can [(32, some 32)] [] hρ (by kernel_rfl) ?_ ?_))
            · simp only [AL, AE, TY, EN, seval]
            · simp only [AL, AE, TY, EN, seval]
      · refine AW_exit (show cutK _ _ _ from cutL ⟨rfl, h⟩ (Le_can [(32, some 32)] [] hρ (by kernel_rfl) ?_ ?_))
        · simp only [AL, AE, TY, EN, seval]
        · simp only [AL, AE, TY, EN, seval]
  · rintro S ⟨rfl, h⟩
    unfold s_IsValidNormalForm_j1 at h
    refine AW_rsJ (BR := BR) (fun S => ∃ (v6 : Bool), S = ⟨mkT [(2, .bool v6)], mkR [], 64⟩ ∧ s_IsValidNormalForm_j5 v6 = some r) FM (by rw [hN]; kernel_rfl) (by kernel_rfl) ?_ ?_
    · intro K hK
      obtain ⟨x11, h10, h⟩ := bO_inv h
      simp only [AE, TY, EN, seval]
      refine rC_p (s_IsValidTableau_ok h10) (by simp only [AL, AE, TY, EN, seval]) (by simp only [List.length_cons, List.length_nil, Nat.zero_add, Nat.reduceAdd, Nat.reduceLeDiff, Nat.zero_le]) (by intro j hj; exact absurd hj (Nat.not_lt_zero _)) ?_
      obtain ⟨x12, hv8, h⟩ := bO_inv h
      rcases br_inv hv8 with ⟨hc14, hv8⟩ | ⟨hc14, hv8⟩
      · cases hv8
        simp only [AE, TY, EN, seval, hc14]
        refine hK _ _ _ (show cutK _ _ _ from cutL ⟨_, rfl, h⟩ (Le_can [] [] hρ (by kernel_rfl) ?_ ?_))
        · simp only [AL, AE, TY, EN, seval, hc14]
        · simp only [AL, AE, TY, EN, seval, hc14]
      · cases hv8
        simp only [AE, TY, EN, seval, hc14]
        refine hK _ _ _ (show cutK _ _ _ from cutL ⟨_, rfl, h⟩ (Le_can [] [] hρ (by kernel_rfl) ?_ ?_))
        · simp only [AL, AE, TY, EN, seval, hc14]
        · simp only [AL, AE, TY, EN, seval, hc14]
    · rintro S ⟨v6, rfl, h⟩
      unfold s_IsValidNormalForm_j5 at h
      injection h with h
      subst h
      refine AW_le (Le_can (lt := [(2, .bool v6)]) (lr := []) (b' := 64) [] [] hρ (by kernel_rfl) ?_ ?_) (AW_ret (end_q [] (.inr rfl) (by kernel_rfl) (by kernel_rfl) ?_))
      · simp only [AL, AE, TY, EN, seval]
      · simp only [AL, AE, TY, EN, seval]
      · simp only [AE, TY, EN, Try.results27, seval]
end Go.Proofs.Ytfpfalknddfejaa
