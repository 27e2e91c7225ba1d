/- Models of functions, and that the functions do what the models say; printed by a program. -/
import Derived.Test.YtcclapenpaediaaGn
import Derived.Test.YtcclapenpaediaaMd
import Derived.Test.YtcclapenpaediaaMp
import Derived.Test.YtcclapenpaediaaMq
namespace Go.Proofs.Ytcclapenpaediaa
open Go.RowKit
set_option maxRecDepth 100000
set_option linter.unusedVariables false
set_option linter.unusedSimpArgs false
set_option linter.defProp false
/- laws.FnExactNormalFormApplyGate -/
def l_FnExactNormalFormApplyGate_j3 (x7 : Int × List Int × LQ × Bool) (x19 : Int × List Int × LQ) (v3 : Bool) : Option Bool :=
  br v3 (some false) (bO (l_heldNormalForm x19.2.1 x7.1 x19.2.2 1) fun x26 => br (decide (x26 < 0)) (some false) (br (x26 != x19.1) (some false) (some true)))
def l_FnExactNormalFormApplyGate_j2 (a1 : List Int) (a2 : Int) (a3 : LQ) (a4 : Int) (a5 : Int) (a6 : Int) (a7 : Int) (x4 : Int × List Int × LQ × Bool) (x7 : Int × List Int × LQ × Bool) (v2 : Bool) : Option Bool :=
  br v2 (some false) (bO (l_markNormalForm x7.2.1 x7.1 x7.2.2.1 1) fun x19 => gd (decide (x19.2.1.length = x7.2.1.length)) (gd (decide (x19.2.2.length = x7.2.2.1.length)) (bO (l_heldNormalForm x19.2.1 x7.1 x19.2.2 1) fun x20 => br (decide (x20 < 0)) (some false) (br (x20 != x19.1) (some false) (bO (l_toNormalForm a1 a2 a3) fun x21 => bO (l_toGate a4 a5 a6 a7) fun x22 => bO (i_NormalFormApplyGate x21.2.1 x21.1 x21.2.2 x22.1 x22.2.1 x22.2.2.1 x22.2.2.2) fun x23 => bO (l_eqNormalForm x23.2.1 x23.1 x23.2.2.1 x4.2.1 x4.1 x4.2.2.1) fun x24 => bO (br (!x24) (some true) (some (x23.2.2.2 != x4.2.2.2))) fun x25 => l_FnExactNormalFormApplyGate_j3 x7 x19 x25)))))
def l_FnExactNormalFormApplyGate_j1 (a1 : List Int) (a2 : Int) (a3 : LQ) (a4 : Int) (a5 : Int) (a6 : Int) (a7 : Int) (x4 : Int × List Int × LQ × Bool) (x5 : Int × List Int × LQ) (x7 : Int × List Int × LQ × Bool) (v1 : Bool) : Option Bool :=
  br v1 (some false) (bO (l_toNormalForm a1 a2 a3) fun x10 => bO (l_eqNormalForm x5.2.1 x5.1 x5.2.2 x10.2.1 x10.1 x10.2.2) fun x11 => br (!x11) (some false) (bO (l_markNormalForm x5.2.1 x5.1 x5.2.2 1) fun x12 => gd (decide (x12.2.1.length = x5.2.1.length)) (gd (decide (x12.2.2.length = x5.2.2.length)) (bO (br (decide (x12.1 < 0)) (some true) (bO (l_eqNormalForm x7.2.1 x7.1 x7.2.2.1 x4.2.1 x4.1 x4.2.2.1) fun x13 => some (!x13))) fun x14 => bO (br x14 (some true) (some (x7.2.2.2 != x4.2.2.2))) fun x15 => l_FnExactNormalFormApplyGate_j2 a1 a2 a3 a4 a5 a6 a7 x4 x7 x15))))
def l_FnExactNormalFormApplyGate (a1 : List Int) (a2 : Int) (a3 : LQ) (a4 : Int) (a5 : Int) (a6 : Int) (a7 : Int) : Option Bool :=
  bO (l_szNormalForm a1 a2 a3 1048576) fun x1 => br (decide (x1 < 0)) (some true) (bO (l_toNormalForm a1 a2 a3) fun x2 => bO (l_toGate a4 a5 a6 a7) fun x3 => bO (s_NormalFormApplyGate x2.2.1 x2.1 x2.2.2 x3.1 x3.2.1 x3.2.2.1 x3.2.2.2) fun x4 => bO (l_toNormalForm a1 a2 a3) fun x5 => bO (l_toGate a4 a5 a6 a7) fun x6 => bO (i_NormalFormApplyGate x5.2.1 x5.1 x5.2.2 x6.1 x6.2.1 x6.2.2.1 x6.2.2.2) fun x7 => bO (l_eqNormalForm x7.2.1 x7.1 x7.2.2.1 x4.2.1 x4.1 x4.2.2.1) fun x8 => bO (br (!x8) (some true) (some (x7.2.2.2 != x4.2.2.2))) fun x9 => l_FnExactNormalFormApplyGate_j1 a1 a2 a3 a4 a5 a6 a7 x4 x5 x7 x9)
set_option maxHeartbeats 4000000 in
theorem l_FnExactNormalFormApplyGate_ok {a1 : List Int} {a2 : Int} {a3 : LQ} {a4 : Int} {a5 : Int} {a6 : Int} {a7 : Int} {r : Bool} (h : l_FnExactNormalFormApplyGate a1 a2 a3 a4 a5 a6 a7 = some r) :
    Spec Try.prog 12 [.agg [.sl (encL EI a1) a1.length, .int .i64 a2, .sl (encL EIIII a3) a3.length], .agg [.int .i64 a4, .int .i64 a5, .int .i64 a6, .int .i64 a7]] [] (.bool r) [] := by
  unfold l_FnExactNormalFormApplyGate at h
  refine spec_of Try.func12 rfl (by kernel_rfl) (by simp only [Try.ntmps12, List.length_cons, List.length_nil, Nat.reduceAdd, Nat.reduceLeDiff]) ?_
  intro C hN hρ
  rw [Try.ntmps12] at hN
  unfold st0
  simp only [tmps0, Nat.zero_add, Nat.reduceAdd]
  refine AW_rs (BR := BR) FM (by rw [hN]; kernel_rfl) (by kernel_rfl) ?_
  intro K hK
  simp only [EV, seval]
  refine hK _ _ _ ?_
  clear hK K
  refine AW_rs (BR := BR) FM (by rw [hN]; kernel_rfl) (by kernel_rfl) ?_
  intro K hK
  simp only [EV, seval]
  refine hK _ _ _ ?_
  clear hK K
  refine AW_rs (BR := BR) FM (by rw [hN]; kernel_rfl) (by kernel_rfl) ?_
  intro K hK
  obtain ⟨x1, h1, h⟩ := bO_inv h
  simp only [EV, seval]
  refine rC_p (l_szNormalForm_ok h1) (by simp only [AL, EV, seval]) (le_d rfl) (no_j rfl) ?_
  simp only [EV, seval]
  refine hK _ _ _ ?_
  clear hK K
  refine AW_seq ?_
  refine AW_rs (BR := BR) FM (by rw [hN]; kernel_rfl) (by kernel_rfl) ?_
  intro K hK
  simp only [EV, seval]
  refine hK _ _ _ ?_
  clear hK K
  refine AW_condK (a := .bool (decide (x1 < 0))) (by simp only [EV, seval]) (brK h (fun hc1 h => ?_) (fun hc1 h => ?_))
  · refine AW_rs (BR := BR) FM (by rw [hN]; kernel_rfl) (by kernel_rfl) ?_
    intro K hK
    simp only [EV, seval]
    refine hK _ _ _ ?_
    clear hK K
    injection h with h
    subst h
    refine AW_le (Le_can (lt := [(4, .bool true)]) (lr := []) (b' := 64) [] [] hρ (by kernel_rfl) ?_ ?_) (AW_ret (end_q [] (.inr rfl) (by kernel_rfl) (by kernel_rfl) ?_))
    · simp only [AL, EV, seval]
    · simp only [AL, EV, seval]
    · simp only [EV, Try.results12, seval]
  · refine AW_skip (show AW _ _ _ _ _ from ?_)
    refine AW_rs (BR := BR) FM (by rw [hN]; kernel_rfl) (by kernel_rfl) ?_
    intro K hK
    obtain ⟨x2, h2, h⟩ := bO_inv h
    simp only [EV, seval]
    refine rC_p (l_toNormalForm_ok h2) (by simp only [AL, EV, seval]) (le_d rfl) (site_2 (by simp only [EV, seval])) ?_
    obtain ⟨x3, h3, h⟩ := bO_inv h
    simp only [EV, seval]
    refine rC_p (l_toGate_ok h3) (by simp only [AL, EV, seval]) (le_d rfl) (no_j rfl) ?_
    obtain ⟨x4, h4, h⟩ := bO_inv h
    simp only [EV, seval]
    refine rC_l (s_NormalFormApplyGate_ok h4) (by simp only [AL, EV, seval]) (by simp only [AL, EF, and_self]) (le_d rfl) (site_2 (by simp only [EV, seval])) ?_
    simp only [EV, seval]
    refine hK _ _ _ ?_
    clear hK K
    refine AW_rs (BR := BR) FM (by rw [hN]; kernel_rfl) (by kernel_rfl) ?_
    intro K hK
    obtain ⟨x5, h5, h⟩ := bO_inv h
    simp only [EV, seval]
    refine rC_p (l_toNormalForm_ok h5) (by simp only [AL, EV, seval]) (le_d rfl) (site_2 (by simp only [EV, seval])) ?_
    simp only [EV, seval]
    refine hK _ _ _ ?_
    clear hK K
    refine AW_rs (BR := BR) FM (by rw [hN]; kernel_rfl) (by kernel_rfl) ?_
    intro K hK
    obtain ⟨x6, h6, h⟩ := bO_inv h
    simp only [EV, seval]
    refine rC_p (l_toGate_ok h6) (by simp only [AL, EV, seval]) (le_d rfl) (no_j rfl) ?_
    obtain ⟨x7, h7, h⟩ := bO_inv h
    simp only [EV, seval]
    refine rC_l (i_NormalFormApplyGate_ok h7) (by simp only [AL, EV, seval]) (by simp only [AL, EF, and_self]) (le_d rfl) (site_2 (by simp only [EV, seval])) ?_
    simp only [EV, seval]
    refine hK _ _ _ ?_
    clear hK K
    refine AW_seq ?_
    refine AW_rsJ (BR := BR) (fun S => ∃ (v1 : Bool), S = ⟨mkT [(2, .ptr 32 0), (3, .ptr 33 0), (6, .ptr 34 0), (7, .bool x4.2.2.2), (8, .ptr 35 0), (9, .ptr 36 0), (10, .bool x7.2.2.2), (46, .bool v1)], mkR [(32, .box 68 [.sl (encL EI a1) a1.length, .int .i64 a2, .sl (encL EIIII a3) a3.length]), (33, .box 77 [.int .i64 a4, .int .i64 a5, .int .i64 a6, .int .i64 a7]), (34, .box 72 [.own 37 x4.2.1.length, .int .i64 x4.1, .own 38 x4.2.2.1.length]), (35, .box 72 [.own 39 x5.2.1.length, .int .i64 x5.1, .own 40 x5.2.2.length]), (36, .box 72 [.own 41 x7.2.1.length, .int .i64 x7.1, .own 42 x7.2.2.1.length]), (37, .row 3 1 (encL EI x4.2.1)), (38, .row 113 4 (encL EIIII x4.2.2.1)), (39, .row 3 1 (encL EI x5.2.1)), (40, .row 113 4 (encL EIIII x5.2.2)), (41, .row 3 1 (encL EI x7.2.1)), (42, .row 113 4 (encL EIIII x7.2.2.1))], 64⟩ ∧ l_FnExactNormalFormApplyGate_j1 a1 a2 a3 a4 a5 a6 a7 x4 x5 x7 v1 = some r) FM (by rw [hN]; kernel_rfl) (by kernel_rfl) ?_ ?_
    · intro K hK
      obtain ⟨x8, h8, h⟩ := bO_inv h
      simp only [EV, seval]
      refine rC_l (l_eqNormalForm_ok h8) (by simp only [AL, EV, seval]) (by simp only [AL, EF, and_self]) (le_d rfl) (no_j rfl) ?_
      obtain ⟨x9, hv1, h⟩ := bO_inv h
      rcases br_inv hv1 with ⟨hc2, hv1⟩ | ⟨hc2, hv1⟩
      · cases hv1
        simp only [EV, seval, hc2]
        refine hK _ _ _ (show cutK _ _ _ from cutL ⟨_, rfl, h⟩ (Le_can [(32, some 64), (33, some 80), (34, some 4288), (35, some 5216), (36, some 6320), (37, some 4224), (38, some 4225), (39, some 5200), (40, some 5201), (41, some 6256), (42, some 6257)] [] hρ (by kernel_rfl) ?_ ?_))
        · simp only [AL, EV, seval, hc2]
        · simp only [AL, EV, seval, hc2]
      · cases hv1
        simp only [EV, seval, hc2]
        refine hK _ _ _ (show cutK _ _ _ from cutL ⟨_, rfl, h⟩ (Le_can [(32, some 64), (33, some 80), (34, some 4288), (35, some 5216), (36, some 6320), (37, some 4224), (38, some 4225), (39, some 5200), (40, some 5201), (41, some 6256), (42, some 6257)] [] hρ (by kernel_rfl) ?_ ?_))
        · simp only [AL, EV, seval, hc2]
        · simp only [AL, EV, seval, hc2]
    · rintro S ⟨v1, rfl, h⟩
      unfold l_FnExactNormalFormApplyGate_j1 at h
      refine AW_condK (a := .bool v1) (by simp only [EV, seval]) (brK h (fun hc3 h => ?_) (fun hc3 h => ?_))
      · refine AW_rs (BR := BR) FM (by rw [hN]; kernel_rfl) (by kernel_rfl) ?_
        intro K hK
        simp only [EV, seval]
        refine hK _ _ _ ?_
        clear hK K
        injection h with h
        subst h
        refine AW_le (Le_can (lt := [(4, .bool false)]) (lr := []) (b' := 64) [] [] hρ (by kernel_rfl) ?_ ?_) (AW_ret (end_q [] (.inr rfl) (by kernel_rfl) (by kernel_rfl) ?_))
        · simp only [AL, EV, seval]
        · simp only [AL, EV, seval]
        · simp only [EV, Try.results12, seval]
      · refine AW_skip (show AW _ _ _ _ _ from ?_)
        refine AW_seq ?_
        refine AW_rs (BR := BR) FM (by rw [hN]; kernel_rfl) (by kernel_rfl) ?_
        intro K hK
        obtain ⟨x10, h9, h⟩ := bO_inv h
        simp only [EV, seval]
        refine rC_p (l_toNormalForm_ok h9) (by simp only [AL, EV, seval]) (le_d rfl) (site_2 (by simp only [EV, seval])) ?_
        obtain ⟨x11, h10, h⟩ := bO_inv h
        simp only [EV, seval]
        refine rC_l (l_eqNormalForm_ok h10) (by simp only [AL, EV, seval]) (by simp only [AL, EF, and_self]) (le_d rfl) (no_j rfl) ?_
        simp only [EV, seval]
        refine hK _ _ _ ?_
        clear hK K
        refine AW_condK (a := .bool (!x11)) (by simp only [EV, seval]) (brK h (fun hc4 h => ?_) (fun hc4 h => ?_))
        · refine AW_rs (BR := BR) FM (by rw [hN]; kernel_rfl) (by kernel_rfl) ?_
          intro K hK
          simp only [EV, seval]
          refine hK _ _ _ ?_
          clear hK K
          injection h with h
          subst h
          refine AW_le (Le_can (lt := [(4, .bool false)]) (lr := []) (b' := 64) [] [] hρ (by kernel_rfl) ?_ ?_) (AW_ret (end_q [] (.inr rfl) (by kernel_rfl) (by kernel_rfl) ?_))
          · simp only [AL, EV, seval]
          · simp only [AL, EV, seval]
          · simp only [EV, Try.results12, seval]
        · refine AW_skip (show AW _ _ _ _ _ from ?_)
          refine AW_rs (BR := BR) FM (by rw [hN]; kernel_rfl) (by kernel_rfl) ?_
          intro K hK
          simp only [EV, seval]
          refine hK _ _ _ ?_
          clear hK K
          refine AW_rs (BR := BR) FM (by rw [hN]; kernel_rfl) (by kernel_rfl) ?_
          intro K hK
          obtain ⟨x12, h11, h⟩ := bO_inv h
          simp only [EV, seval]
          obtain ⟨h12, h⟩ := gd_inv h
          replace h12 := of_decide_eq_true h12
          obtain ⟨h13, h⟩ := gd_inv h
          replace h13 := of_decide_eq_true h13
          refine rR_p [39, 40] (l_markNormalForm_ok h11) (by simp only [AL, EV, seval, h12, h13]) (by simp only [AL, EV, seval, h12, h13]) (by kernel_rfl) (by simp only [EV, solidO, List.mem_cons, List.not_mem_nil, or_false, forall_eq_or_imp, forall_eq, seval]) (le_d rfl) (le_d rfl) (no_j rfl) ?_
          simp only [EV, seval, h12, h13]
          refine hK _ _ _ ?_
          clear hK K
          refine AW_seq ?_
          refine AW_rsJ (BR := BR) (fun S => ∃ (v2 : Bool), S = ⟨mkT [(2, .ptr 32 0), (3, .ptr 33 0), (6, .ptr 34 0), (7, .bool x4.2.2.2), (9, .ptr 35 0), (67, .bool v2)], mkR [(32, .box 68 [.sl (encL EI a1) a1.length, .int .i64 a2, .sl (encL EIIII a3) a3.length]), (33, .box 77 [.int .i64 a4, .int .i64 a5, .int .i64 a6, .int .i64 a7]), (34, .box 72 [.own 36 x4.2.1.length, .int .i64 x4.1, .own 37 x4.2.2.1.length]), (35, .box 72 [.own 38 x7.2.1.length, .int .i64 x7.1, .own 39 x7.2.2.1.length]), (36, .row 3 1 (encL EI x4.2.1)), (37, .row 113 4 (encL EIIII x4.2.2.1)), (38, .row 3 1 (encL EI x7.2.1)), (39, .row 113 4 (encL EIIII x7.2.2.1))], 64⟩ ∧ l_FnExactNormalFormApplyGate_j2 a1 a2 a3 a4 a5 a6 a7 x4 x7 v2 = some r) FM (by rw [hN]; kernel_rfl) (by kernel_rfl) ?_ ?_
          · intro K hK
            obtain ⟨x14, hv2, h⟩ := bO_inv h
            rcases br_inv hv2 with ⟨hc5, hv2⟩ | ⟨hc5, hv2⟩
            · cases hv2
              obtain ⟨x16, hv4, h⟩ := bO_inv h
              replace hv4 := br_t hv4
              cases hv4
              try dsimp only at h
              simp only [EV, seval, hc5, h12, h13]
              refine hK _ _ _ (show cutK _ _ _ from cutL ⟨_, rfl, h⟩ (Le_can [(32, some 32), (33, some 33), (34, some 34), (35, some 36), (36, some 37), (37, some 38), (38, some 41), (39, some 42)] [] hρ (by kernel_rfl) ?_ ?_))
              · simp only [AL, EV, seval, hc5, h12, h13]
              · simp only [AL, EV, seval, hc5, h12, h13]
            · obtain ⟨x17, h15, hv2⟩ := bO_inv hv2
              simp only [EV, seval, hc5, h12, h13]
              refine rC_l (l_eqNormalForm_ok h15) (by simp only [AL, EV, seval, hc5, h12, h13]) (by simp only [AL, EF, and_self]) (le_d rfl) (no_j rfl) ?_
              cases hv2
              obtain ⟨x18, hv5, h⟩ := bO_inv h
              rcases br_inv hv5 with ⟨hc7, hv5⟩ | ⟨hc7, hv5⟩
              · cases hv5
                simp only [EV, seval, hc5, hc7, h12, h13]
                refine hK _ _ _ (show cutK _ _ _ from cutL ⟨_, rfl, h⟩ (Le_can [(32, some 32), (33, some 33), (34, some 34), (35, some 36), (36, some 37), (37, some 38), (38, some 41), (39, some 42)] [] hρ (by kernel_rfl) ?_ ?_))
                · simp only [AL, EV, seval, hc5, hc7, h12, h13]
                · simp only [AL, EV, seval, hc5, hc7, h12, h13]
              · cases hv5
                simp only [EV, seval, hc5, hc7, h12, h13]
                refine hK _ _ _ (show cutK _ _ _ from cutL ⟨_, rfl, h⟩ (Le_can [(32, some 32), (33, some 33), (34, some 34), (35, some 36), (36, some 37), (37, some 38), (38, some 41), (39, some 42)] [] hρ (by kernel_rfl) ?_ ?_))
                · simp only [AL, EV, seval, hc5, hc7, h12, h13]
                · simp only [AL, EV, seval, hc5, hc7, h12, h13]
          · rintro S ⟨v2, rfl, h⟩
            unfold l_FnExactNormalFormApplyGate_j2 at h
            refine AW_condK (a := .bool v2) (by simp only [EV, seval, h12, h13]) (brK h (fun hc8 h => ?_) (fun hc8 h => ?_))
            · refine AW_rs (BR := BR) FM (by rw [hN]; kernel_rfl) (by kernel_rfl) ?_
              intro K hK
              simp only [EV, seval, h12, h13]
              refine hK _ _ _ ?_
              clear hK K
              injection h with h
              subst h
              refine AW_le (Le_can (lt := [(4, .bool false)]) (lr := []) (b' := 64) [] [] hρ (by kernel_rfl) ?_ ?_) (AW_ret (end_q [] (.inr rfl) (by kernel_rfl) (by kernel_rfl) ?_))
              · simp only [AL, EV, seval, h12, h13]
              · simp only [AL, EV, seval, h12, h13]
              · simp only [EV, Try.results12, seval]
            · refine AW_skip (show AW _ _ _ _ _ from ?_)
              refine AW_rs (BR := BR) FM (by rw [hN]; kernel_rfl) (by kernel_rfl) ?_
              intro K hK
              simp only [EV, seval, h12, h13]
              refine hK _ _ _ ?_
              clear hK K
              refine AW_rs (BR := BR) FM (by rw [hN]; kernel_rfl) (by kernel_rfl) ?_
              intro K hK
              obtain ⟨x19, h16, h⟩ := bO_inv h
              simp only [EV, seval, h12, h13]
              obtain ⟨h17, h⟩ := gd_inv h
              replace h17 := of_decide_eq_true h17
              obtain ⟨h18, h⟩ := gd_inv h
              replace h18 := of_decide_eq_true h18
              refine rR_p [38, 39] (l_markNormalForm_ok h16) (by simp only [AL, EV, seval, h12, h13, h17, h18]) (by simp only [AL, EV, seval, h12, h13, h17, h18]) (by kernel_rfl) (by simp only [EV, solidO, List.mem_cons, List.not_mem_nil, or_false, forall_eq_or_imp, forall_eq, seval]) (le_d rfl) (le_d rfl) (no_j rfl) ?_
              simp only [EV, seval, h12, h13, h17, h18]
              refine hK _ _ _ ?_
              clear hK K
              refine AW_rs (BR := BR) FM (by rw [hN]; kernel_rfl) (by kernel_rfl) ?_
              intro K hK
              simp only [EV, seval, h12, h13, h17, h18]
              refine hK _ _ _ ?_
              clear hK K
              refine AW_rs (BR := BR) FM (by rw [hN]; kernel_rfl) (by kernel_rfl) ?_
              intro K hK
              obtain ⟨x20, h19, h⟩ := bO_inv h
              simp only [EV, seval, h12, h13, h17, h18]
              refine rC_l (l_heldNormalForm_ok h19) (by simp only [AL, EV, seval, h12, h13, h17, h18]) (by simp only [AL, EF, and_self]) (le_d rfl) (no_j rfl) ?_
              simp only [EV, seval, h12, h13, h17, h18]
              refine hK _ _ _ ?_
              clear hK K
              refine AW_seq ?_
              refine AW_rs (BR := BR) FM (by rw [hN]; kernel_rfl) (by kernel_rfl) ?_
              intro K hK
              simp only [EV, seval, h12, h13, h17, h18]
              refine hK _ _ _ ?_
              clear hK K
              refine AW_condK (a := .bool (decide (x20 < 0))) (by simp only [EV, seval, h12, h13, h17, h18]) (brK h (fun hc9 h => ?_) (fun hc9 h => ?_))
              · refine AW_rs (BR := BR) FM (by rw [hN]; kernel_rfl) (by kernel_rfl) ?_
                intro K hK
                simp only [EV, seval, h12, h13, h17, h18]
                refine hK _ _ _ ?_
                clear hK K
                injection h with h
                subst h
                refine AW_le (Le_can (lt := [(4, .bool false)]) (lr := []) (b' := 64) [] [] hρ (by kernel_rfl) ?_ ?_) (AW_ret (end_q [] (.inr rfl) (by kernel_rfl) (by kernel_rfl) ?_))
                · simp only [AL, EV, seval, h12, h13, h17, h18]
                · simp only [AL, EV, seval, h12, h13, h17, h18]
                · simp only [EV, Try.results12, seval]
              · refine AW_skip (show AW _ _ _ _ _ from ?_)
                refine AW_seq ?_
                refine AW_rs (BR := BR) FM (by rw [hN]; kernel_rfl) (by kernel_rfl) ?_
                intro K hK
                simp only [EV, seval, h12, h13, h17, h18]
                refine hK _ _ _ ?_
                clear hK K
                refine AW_condK (a := .bool (x20 != x19.1)) (by simp only [EV, seval, h12, h13, h17, h18]) (brK h (fun hc10 h => ?_) (fun hc10 h => ?_))
                · refine AW_rs (BR := BR) FM (by rw [hN]; kernel_rfl) (by kernel_rfl) ?_
                  intro K hK
                  simp only [EV, seval, h12, h13, h17, h18]
                  refine hK _ _ _ ?_
                  clear hK K
                  injection h with h
                  subst h
                  refine AW_le (Le_can (lt := [(4, .bool false)]) (lr := []) (b' := 64) [] [] hρ (by kernel_rfl) ?_ ?_) (AW_ret (end_q [] (.inr rfl) (by kernel_rfl) (by kernel_rfl) ?_))
                  · simp only [AL, EV, seval, h12, h13, h17, h18]
                  · simp only [AL, EV, seval, h12, h13, h17, h18]
                  · simp only [EV, Try.results12, seval]
                · refine AW_skip (show AW _ _ _ _ _ from ?_)
                  refine AW_rs (BR := BR) FM (by rw [hN]; kernel_rfl) (by kernel_rfl) ?_
                  intro K hK
                  obtain ⟨x21, h20, h⟩ := bO_inv h
                  simp only [EV, seval, h12, h13, h17, h18]
                  refine rC_p (l_toNormalForm_ok h20) (by simp only [AL, EV, seval, h12, h13, h17, h18]) (le_d rfl) (site_2 (by simp only [EV, seval])) ?_
                  obtain ⟨x22, h21, h⟩ := bO_inv h
                  simp only [EV, seval, h12, h13, h17, h18]
                  refine rC_p (l_toGate_ok h21) (by simp only [AL, EV, seval, h12, h13, h17, h18]) (le_d rfl) (no_j rfl) ?_
                  obtain ⟨x23, h22, h⟩ := bO_inv h
                  simp only [EV, seval, h12, h13, h17, h18]
                  refine rC_l (i_NormalFormApplyGate_ok h22) (by simp only [AL, EV, seval, h12, h13, h17, h18]) (by simp only [AL, EF, and_self]) (le_d rfl) (site_2 (by simp only [EV, seval])) ?_
                  simp only [EV, seval, h12, h13, h17, h18]
                  refine hK _ _ _ ?_
                  clear hK K
                  refine AW_seq ?_
                  refine AW_rsJ (BR := BR) (fun S => ∃ (v3 : Bool), S = ⟨mkT [(9, .ptr 32 0), (12, .int .i64 x19.1), (95, .bool v3)], mkR [(32, .box 72 [.own 33 x19.2.1.length, .int .i64 x7.1, .own 34 x19.2.2.length]), (33, .row 3 1 (encL EI x19.2.1)), (34, .row 113 4 (encL EIIII x19.2.2))], 64⟩ ∧ l_FnExactNormalFormApplyGate_j3 x7 x19 v3 = some r) FM (by rw [hN]; kernel_rfl) (by kernel_rfl) ?_ ?_
                  · intro K hK
                    obtain ⟨x24, h23, h⟩ := bO_inv h
                    simp only [EV, seval, h12, h13, h17, h18]
                    refine rC_l (l_eqNormalForm_ok h23) (by simp only [AL, EV, seval, h12, h13, h17, h18]) (by simp only [AL, EF, and_self]) (le_d rfl) (no_j rfl) ?_
                    obtain ⟨x25, hv6, h⟩ := bO_inv h
                    rcases br_inv hv6 with ⟨hc11, hv6⟩ | ⟨hc11, hv6⟩
                    · cases hv6
                      simp only [EV, seval, hc11, h12, h13, h17, h18]
                      refine hK _ _ _ (show cutK _ _ _ from cutL ⟨_, rfl, h⟩ (Le_can [(32, some 35), (33, some 38), (34, some 39)] [] hρ (by kernel_rfl) ?_ ?_))
                      · simp only [AL, EV, seval, hc11, h12, h13, h17, h18]
                      · simp only [AL, EV, seval, hc11, h12, h13, h17, h18]
                    · cases hv6
                      simp only [EV, seval, hc11, h12, h13, h17, h18]
                      refine hK _ _ _ (show cutK _ _ _ from cutL ⟨_, rfl, h⟩ (Le_can [(32, some 35), (33, some 38), (34, some 39)] [] hρ (by kernel_rfl) ?_ ?_))
                      · simp only [AL, EV, seval, hc11, h12, h13, h17, h18]
                      · simp only [AL, EV, seval, hc11, h12, h13, h17, h18]
                  · rintro S ⟨v3, rfl, h⟩
                    unfold l_FnExactNormalFormApplyGate_j3 at h
                    refine AW_condK (a := .bool v3) (by simp only [EV, seval, h12, h13, h17, h18]) (brK h (fun hc12 h => ?_) (fun hc12 h => ?_))
                    · refine AW_rs (BR := BR) FM (by rw [hN]; kernel_rfl) (by kernel_rfl) ?_
                      intro K hK
                      simp only [EV, seval, h12, h13, h17, h18]
                      refine hK _ _ _ ?_
                      clear hK K
                      injection h with h
                      subst h
                      refine AW_le (Le_can (lt := [(4, .bool false)]) (lr := []) (b' := 64) [] [] hρ (by kernel_rfl) ?_ ?_) (AW_ret (end_q [] (.inr rfl) (by kernel_rfl) (by kernel_rfl) ?_))
                      · simp only [AL, EV, seval, h12, h13, h17, h18]
                      · simp only [AL, EV, seval, h12, h13, h17, h18]
                      · simp only [EV, Try.results12, seval]
                    · refine AW_skip (show AW _ _ _ _ _ from ?_)
                      refine AW_rs (BR := BR) FM (by rw [hN]; kernel_rfl) (by kernel_rfl) ?_
                      intro K hK
                      simp only [EV, seval, h12, h13, h17, h18]
                      refine hK _ _ _ ?_
                      clear hK K
                      refine AW_rs (BR := BR) FM (by rw [hN]; kernel_rfl) (by kernel_rfl) ?_
                      intro K hK
                      obtain ⟨x26, h24, h⟩ := bO_inv h
                      simp only [EV, seval, h12, h13, h17, h18]
                      refine rC_l (l_heldNormalForm_ok h24) (by simp only [AL, EV, seval, h12, h13, h17, h18]) (by simp only [AL, EF, and_self]) (le_d rfl) (no_j rfl) ?_
                      simp only [EV, seval, h12, h13, h17, h18]
                      refine hK _ _ _ ?_
                      clear hK K
                      refine AW_seq ?_
                      refine AW_rs (BR := BR) FM (by rw [hN]; kernel_rfl) (by kernel_rfl) ?_
                      intro K hK
                      simp only [EV, seval, h12, h13, h17, h18]
                      refine hK _ _ _ ?_
                      clear hK K
                      refine AW_condK (a := .bool (decide (x26 < 0))) (by simp only [EV, seval, h12, h13, h17, h18]) (brK h (fun hc13 h => ?_) (fun hc13 h => ?_))
                      · refine AW_rs (BR := BR) FM (by rw [hN]; kernel_rfl) (by kernel_rfl) ?_
                        intro K hK
                        simp only [EV, seval, h12, h13, h17, h18]
                        refine hK _ _ _ ?_
                        clear hK K
                        injection h with h
                        subst h
                        refine AW_le (Le_can (lt := [(4, .bool false)]) (lr := []) (b' := 64) [] [] hρ (by kernel_rfl) ?_ ?_) (AW_ret (end_q [] (.inr rfl) (by kernel_rfl) (by kernel_rfl) ?_))
                        · simp only [AL, EV, seval, h12, h13, h17, h18]
                        · simp only [AL, EV, seval, h12, h13, h17, h18]
                        · simp only [EV, Try.results12, seval]
                      · refine AW_skip (show AW _ _ _ _ _ from ?_)
                        refine AW_seq ?_
                        refine AW_rs (BR := BR) FM (by rw [hN]; kernel_rfl) (by kernel_rfl) ?_
                        intro K hK
                        simp only [EV, seval, h12, h13, h17, h18]
                        refine hK _ _ _ ?_
                        clear hK K
                        refine AW_condK (a := .bool (x26 != x19.1)) (by simp only [EV, seval, h12, h13, h17, h18]) (brK h (fun hc14 h => ?_) (fun hc14 h => ?_))
                        · refine AW_rs (BR := BR) FM (by rw [hN]; kernel_rfl) (by kernel_rfl) ?_
                          intro K hK
                          simp only [EV, seval, h12, h13, h17, h18]
                          refine hK _ _ _ ?_
                          clear hK K
                          injection h with h
                          subst h
                          refine AW_le (Le_can (lt := [(4, .bool false)]) (lr := []) (b' := 64) [] [] hρ (by kernel_rfl) ?_ ?_) (AW_ret (end_q [] (.inr rfl) (by kernel_rfl) (by kernel_rfl) ?_))
                          · simp only [AL, EV, seval, h12, h13, h17, h18]
                          · simp only [AL, EV, seval, h12, h13, h17, h18]
                          · simp only [EV, Try.results12, seval]
                        · refine AW_skip (show AW _ _ _ _ _ from ?_)
                          refine AW_rs (BR := BR) FM (by rw [hN]; kernel_rfl) (by kernel_rfl) ?_
                          intro K hK
                          simp only [EV, seval, h12, h13, h17, h18]
                          refine hK _ _ _ ?_
                          clear hK K
                          injection h with h
                          subst h
                          refine AW_le (Le_can (lt := [(4, .bool true)]) (lr := []) (b' := 64) [] [] hρ (by kernel_rfl) ?_ ?_) (AW_ret (end_q [] (.inr rfl) (by kernel_rfl) (by kernel_rfl) ?_))
                          · simp only [AL, EV, seval, h12, h13, h17, h18]
                          · simp only [AL, EV, seval, h12, h13, h17, h18]
                          · simp only [EV, Try.results12, seval]
end Go.Proofs.Ytcclapenpaediaa
