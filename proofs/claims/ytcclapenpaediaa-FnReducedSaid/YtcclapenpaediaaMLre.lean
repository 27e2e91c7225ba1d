/- Models of functions, and that the functions do what the models say; printed by a program. -/
import Derived.Test.YtcclapenpaediaaGn
import Derived.Test.YtcclapenpaediaaMk
import Derived.Test.YtcclapenpaediaaMkt
import Derived.Test.YtcclapenpaediaaMu
import Derived.Test.YtcclapenpaediaaMr
import Derived.Test.YtcclapenpaediaaMsg
import Derived.Test.YtcclapenpaediaaMh
import Derived.Test.YtcclapenpaediaaMi
namespace Go.Proofs.Ytcclapenpaediaa
open Go.RowKit
set_option maxRecDepth 100000
set_option linter.unusedVariables false
set_option linter.unusedSimpArgs false
set_option linter.defProp false
/- spec.DrawReduceTableau -/
def s_DrawReduceTableau (a1 : List Int) : Option (Int × LQ) :=
  bO (s_l1New a1) fun x1 => bO (s_l26Bent x1.1 x1.2.1 x1.2.2) fun x2 => some (x2.1, x2.2.1)
set_option maxHeartbeats 4000000 in
theorem s_DrawReduceTableau_ok {a1 : List Int} {r : Int × LQ} (h : s_DrawReduceTableau a1 = some r) :
    Spec Try.prog 38 [.sl (encL EB a1) a1.length] [] (.agg [.int .i64 r.1, .sl (encL EIIII r.2) r.2.length]) [] := by
  unfold s_DrawReduceTableau at h
  refine spec_of Try.func38 rfl (by kernel_rfl) (by simp only [Try.ntmps38, List.length_cons, List.length_nil, Nat.reduceAdd, Nat.reduceLeDiff]) ?_
  intro C hN hρ
  rw [Try.ntmps38] at hN
  unfold st0
  simp only [tmps0, Nat.zero_add, Nat.reduceAdd]
  refine AW_rs (BR := BR) FM (by rw [hN]; kernel_rfl) (by kernel_rfl) ?_
  intro K hK
  simp only [EV, seval]
  refine hK _ _ _ ?_
  clear hK K
  refine AW_rs (BR := BR) FM (by rw [hN]; kernel_rfl) (by kernel_rfl) ?_
  intro K hK
  obtain ⟨x1, h1, h⟩ := bO_inv h
  simp only [EV, seval]
  refine rC_p (s_l1New_ok h1) (by simp only [AL, EV, seval]) (le_d rfl) (site_1 (by simp only [EV, seval])) ?_
  obtain ⟨x2, h2, h⟩ := bO_inv h
  simp only [EV, seval]
  refine rR_p [1104] (s_l26Bent_ok h2) (by simp only [AL, EV, seval]) (by simp only [AL, EV, seval]) (by kernel_rfl) (by simp only [EV, solidO, List.mem_cons, List.not_mem_nil, or_false, forall_eq_or_imp, forall_eq, seval]) (le_d rfl) (le_d rfl) (no_j rfl) ?_
  simp only [EV, seval]
  refine hK _ _ _ ?_
  clear hK K
  injection h with h
  subst h
  refine AW_le (Le_can (lt := [(2, .ptr 32 0)]) (lr := [(32, .box 31 [.int .i64 x2.1, .sl (encL EIIII x2.2.1) x2.2.1.length])]) (b' := 64) [(32, some 64)] [] hρ (by kernel_rfl) ?_ ?_) (AW_ret (end_q [] (.inr rfl) (by kernel_rfl) (by kernel_rfl) ?_))
  · simp only [AL, EV, seval]
  · simp only [AL, EV, seval]
  · simp only [EV, Try.results38, seval]
/- laws.FnReduced -/
def l_FnReduced_j2 (v2 : Bool) : Option Bool :=
  some v2
def l_FnReduced_j3 (v13 : Int) (v14 : LQ) : Option Bool :=
  bO (i_IdentityTableau v13) fun x17 => bO (s_EqualTableau v13 v14 x17.1 x17.2) fun x18 => some x18
def l_FnReduced_l1 (x3 : LQ × Bool) : Nat → Int → Int → (LQ) → Option Bool
  | 0, _, _, _ => none
  | n1 + 1, v10, v11, v12 =>
  br (decide (v10 < ((x3.1.length : Int)))) (bO (geti x3.1 v10) fun q3 => bO (s_TableauApplyGate v11 v12 q3.1 q3.2.1 q3.2.2.1 q3.2.2.2) fun x16 => br (!x16.2.2) (some false) ((l_FnReduced_l1 x3 n1) (IntKind.wrap .i64 (v10 + 1)) x16.1 x16.2.1)) (l_FnReduced_j3 v11 v12)
def l_FnReduced_j1 (x2 : Int × LQ) (x3 : LQ × Bool) (x4 : LQ × Bool) (v1 : Bool) : Option Bool :=
  br v1 (bO (br (x3.2 == x4.2) (bO (l_sameGates x3.1 x4.1) fun x11 => some x11) (some false)) fun x12 => l_FnReduced_j2 x12) (l_FnReduced_l1 x3 FU 0 x2.1 x2.2)
def l_FnReduced (a1 : List Int) : Option Bool :=
  bO (l_big a1) fun x1 => br x1 (some true) (bO (s_DrawReduceTableau a1) fun x2 => bO (i_ReduceTableau x2.1 x2.2) fun x3 => bO (s_ReduceTableau x2.1 x2.2) fun x4 => bO (br (x3.2 != x4.2) (some true) (bO (l_sameGates x3.1 x4.1) fun x5 => some (!x5))) fun x6 => bO (br x6 (some true) (some (!x3.2))) fun x7 => l_FnReduced_j1 x2 x3 x4 x7)
set_option maxHeartbeats 4000000 in
theorem l_FnReduced_ok {a1 : List Int} {r : Bool} (h : l_FnReduced a1 = some r) :
    Spec Try.prog 7 [.sl (encL EB a1) a1.length] [] (.bool r) [] := by
  unfold l_FnReduced at h
  refine spec_of Try.func7 rfl (by kernel_rfl) (by simp only [Try.ntmps7, List.length_cons, List.length_nil, Nat.reduceAdd, Nat.reduceLeDiff]) ?_
  intro C hN hρ
  rw [Try.ntmps7] at hN
  unfold st0
  simp only [tmps0, Nat.zero_add, Nat.reduceAdd]
  refine AW_rs (BR := BR) FM (by rw [hN]; kernel_rfl) (by kernel_rfl) ?_
  intro K hK
  simp only [EV, seval]
  refine hK _ _ _ ?_
  clear hK K
  refine AW_seq ?_
  refine AW_rs (BR := BR) FM (by rw [hN]; kernel_rfl) (by kernel_rfl) ?_
  intro K hK
  obtain ⟨x1, h1, h⟩ := bO_inv h
  simp only [EV, seval]
  refine rC_p (l_big_ok h1) (by simp only [AL, EV, seval]) (le_d rfl) (no_j rfl) ?_
  simp only [EV, seval]
  refine hK _ _ _ ?_
  clear hK K
  refine AW_condK (a := .bool x1) (by simp only [EV, seval]) (brK h (fun hc1 h => ?_) (fun hc1 h => ?_))
  · refine AW_rs (BR := BR) FM (by rw [hN]; kernel_rfl) (by kernel_rfl) ?_
    intro K hK
    simp only [EV, seval]
    refine hK _ _ _ ?_
    clear hK K
    injection h with h
    subst h
    refine AW_le (Le_can (lt := [(2, .bool true)]) (lr := []) (b' := 64) [] [] hρ (by kernel_rfl) ?_ ?_) (AW_ret (end_q [] (.inr rfl) (by kernel_rfl) (by kernel_rfl) ?_))
    · simp only [AL, EV, seval]
    · simp only [AL, EV, seval]
    · simp only [EV, Try.results7, seval]
  · refine AW_skip (show AW _ _ _ _ _ from ?_)
    refine AW_rs (BR := BR) FM (by rw [hN]; kernel_rfl) (by kernel_rfl) ?_
    intro K hK
    obtain ⟨x2, h2, h⟩ := bO_inv h
    simp only [EV, seval]
    refine rC_p (s_DrawReduceTableau_ok h2) (by simp only [AL, EV, seval]) (le_d rfl) (no_j rfl) ?_
    simp only [EV, seval]
    refine hK _ _ _ ?_
    clear hK K
    refine AW_rs (BR := BR) FM (by rw [hN]; kernel_rfl) (by kernel_rfl) ?_
    intro K hK
    obtain ⟨x3, h3, h⟩ := bO_inv h
    simp only [EV, seval]
    refine rC_p (i_ReduceTableau_ok h3) (by simp only [AL, EV, seval]) (le_d rfl) (site_1 (by simp only [EV, seval])) ?_
    simp only [EV, seval]
    refine hK _ _ _ ?_
    clear hK K
    refine AW_rs (BR := BR) FM (by rw [hN]; kernel_rfl) (by kernel_rfl) ?_
    intro K hK
    obtain ⟨x4, h4, h⟩ := bO_inv h
    simp only [EV, seval]
    refine rC_p (s_ReduceTableau_ok h4) (by simp only [AL, EV, seval]) (le_d rfl) (site_1 (by simp only [EV, seval])) ?_
    simp only [EV, seval]
    refine hK _ _ _ ?_
    clear hK K
    refine AW_seq ?_
    refine AW_rsJ (BR := BR) (fun S => ∃ (v1 : Bool), S = ⟨mkT [(3, .ptr 32 0), (4, .own 33 x3.1.length), (5, .bool x3.2), (6, .own 34 x4.1.length), (7, .bool x4.2), (37, .bool v1)], mkR [(32, .box 31 [.int .i64 x2.1, .sl (encL EIIII x2.2) x2.2.length]), (33, .row 49 4 (encL EIIII x3.1)), (34, .row 49 4 (encL EIIII x4.1))], 64⟩ ∧ l_FnReduced_j1 x2 x3 x4 v1 = some r) FM (by rw [hN]; kernel_rfl) (by kernel_rfl) ?_ ?_
    · intro K hK
      obtain ⟨x6, hv1, h⟩ := bO_inv h
      rcases br_inv hv1 with ⟨hc2, hv1⟩ | ⟨hc2, hv1⟩
      · cases hv1
        obtain ⟨x8, hv3, h⟩ := bO_inv h
        replace hv3 := br_t hv3
        cases hv3
        try dsimp only at h
        simp only [EV, seval, hc2]
        refine hK _ _ _ (show cutK _ _ _ from cutL ⟨_, rfl, h⟩ (Le_can [(32, some 2144), (33, some 3152), (34, some 4176)] [] hρ (by kernel_rfl) ?_ ?_))
        · simp only [AL, EV, seval, hc2]
        · simp only [AL, EV, seval, hc2]
      · obtain ⟨x9, h6, hv1⟩ := bO_inv hv1
        simp only [EV, seval, hc2]
        refine rC_l (l_sameGates_ok h6) (by simp only [AL, EV, seval, hc2]) (by simp only [AL, EF, and_self]) (le_d rfl) (no_j rfl) ?_
        cases hv1
        obtain ⟨x10, hv4, h⟩ := bO_inv h
        rcases br_inv hv4 with ⟨hc4, hv4⟩ | ⟨hc4, hv4⟩
        · cases hv4
          simp only [EV, seval, hc2, hc4]
          refine hK _ _ _ (show cutK _ _ _ from cutL ⟨_, rfl, h⟩ (Le_can [(32, some 2144), (33, some 3152), (34, some 4176)] [] hρ (by kernel_rfl) ?_ ?_))
          · simp only [AL, EV, seval, hc2, hc4]
          · simp only [AL, EV, seval, hc2, hc4]
        · cases hv4
          simp only [EV, seval, hc2, hc4]
          refine hK _ _ _ (show cutK _ _ _ from cutL ⟨_, rfl, h⟩ (Le_can [(32, some 2144), (33, some 3152), (34, some 4176)] [] hρ (by kernel_rfl) ?_ ?_))
          · simp only [AL, EV, seval, hc2, hc4]
          · simp only [AL, EV, seval, hc2, hc4]
    · rintro S ⟨v1, rfl, h⟩
      unfold l_FnReduced_j1 at h
      refine AW_condK (a := .bool v1) (by simp only [EV, seval]) (brK h (fun hc5 h => ?_) (fun hc5 h => ?_))
      · refine AW_rsJ (BR := BR) (fun S => ∃ (v2 : Bool), S = ⟨mkT [(2, .bool v2)], mkR [], 64⟩ ∧ l_FnReduced_j2 v2 = some r) FM (by rw [hN]; kernel_rfl) (by kernel_rfl) ?_ ?_
        · intro K hK
          obtain ⟨x12, hv5, h⟩ := bO_inv h
          rcases br_inv hv5 with ⟨hc6, hv5⟩ | ⟨hc6, hv5⟩
          · obtain ⟨x13, h8, hv5⟩ := bO_inv hv5
            simp only [EV, seval, hc6]
            refine rC_l (l_sameGates_ok h8) (by simp only [AL, EV, seval, hc6]) (by simp only [AL, EF, and_self]) (le_d rfl) (no_j rfl) ?_
            cases hv5
            simp only [EV, seval, hc6]
            refine hK _ _ _ (show cutK _ _ _ from cutL ⟨_, rfl, h⟩ (Le_can [] [] hρ (by kernel_rfl) ?_ ?_))
            · simp only [AL, EV, seval, hc6]
            · simp only [AL, EV, seval, hc6]
          · cases hv5
            simp only [EV, seval, hc6]
            refine hK _ _ _ (show cutK _ _ _ from cutL ⟨_, rfl, h⟩ (Le_can [] [] hρ (by kernel_rfl) ?_ ?_))
            · simp only [AL, EV, seval, hc6]
            · simp only [AL, EV, seval, hc6]
        · rintro S ⟨v2, rfl, h⟩
          unfold l_FnReduced_j2 at h
          injection h with h
          subst h
          refine AW_le (Le_can (lt := [(2, .bool v2)]) (lr := []) (b' := 64) [] [] hρ (by kernel_rfl) ?_ ?_) (AW_ret (end_q [] (.inr rfl) (by kernel_rfl) (by kernel_rfl) ?_))
          · simp only [AL, EV, seval]
          · simp only [AL, EV, seval]
          · simp only [EV, Try.results7, seval]
      · refine AW_skip (show AW _ _ _ _ _ from ?_)
        refine AW_cutK (fun S => ∃ (v13 : Int) (v14 : LQ), S = ⟨mkT [(3, .ptr 32 0)], mkR [(32, .box 31 [.int .i64 v13, .sl (encL EIIII v14) v14.length])], 64⟩ ∧ l_FnReduced_j3 v13 v14 = some r) ?_ ?_
        · refine AW_rs (BR := BR) FM (by rw [hN]; kernel_rfl) (by kernel_rfl) ?_
          intro K hK
          simp only [EV, seval]
          refine hK _ _ _ ?_
          clear hK K
          refine AW_block ?_
          refine AW_loopF (fun n S => ∃ (v10 : Int) (v11 : Int) (v12 : LQ), S = ⟨mkT [(3, .ptr 32 0), (4, .own 33 x3.1.length), (8, .int .i64 v10)], mkR [(32, .box 31 [.int .i64 v11, .sl (encL EIIII v12) v12.length]), (33, .row 49 4 (encL EIIII x3.1))], 64⟩ ∧ l_FnReduced_l1 x3 n v10 v11 v12 = some r) FU ?_ ?_ ?_
          · refine cutL ⟨_, _, _, rfl, h⟩ (Le_can [(32, some 32), (33, some 33)] [] hρ (by kernel_rfl) ?_ ?_)
            · simp only [AL, EV, seval]
            · simp only [AL, EV, seval]
          · rintro S ⟨_, _, _, _, h⟩; rw [l_FnReduced_l1] at h; cases h
          · rintro n1 S ⟨v10, v11, v12, rfl, h⟩
            rw [l_FnReduced_l1] at h
            refine AW_seq ?_
            refine AW_rs (BR := BR) FM (by rw [hN]; kernel_rfl) (by kernel_rfl) ?_
            intro K hK
            simp only [EV, seval]
            refine hK _ _ _ ?_
            clear hK K
            refine AW_condK (a := .bool (decide (v10 < ((x3.1.length : Int))))) (by simp only [EV, seval]) (brK h (fun hc11 h => ?_) (fun hc11 h => ?_))
            · refine AW_skip (show AW _ _ _ _ _ from ?_)
              refine AW_seq ?_
              refine AW_block ?_
              refine AW_rs (BR := BR) FM (by rw [hN]; kernel_rfl) (by kernel_rfl) ?_
              intro K hK
              obtain ⟨q3, h15, h⟩ := bO_inv h
              obtain ⟨⟨h16a, h16b⟩, h16c⟩ := geti_E EIIIIl h15
              try simp only [EV, seval] at h16c
              obtain ⟨x16, h17, h⟩ := bO_inv h
              simp only [EV, seval, h16a, h16b, h16c]
              refine rC_p (s_TableauApplyGate_ok h17) (by simp only [AL, EV, seval, h16a, h16b, h16c]) (le_d rfl) (site_1 (by simp only [EV, seval])) ?_
              simp only [EV, seval, h16a, h16b, h16c]
              refine hK _ _ _ ?_
              clear hK K
              refine AW_seq ?_
              refine AW_rs (BR := BR) FM (by rw [hN]; kernel_rfl) (by kernel_rfl) ?_
              intro K hK
              simp only [EV, seval]
              refine hK _ _ _ ?_
              clear hK K
              refine AW_condK (a := .bool (!x16.2.2)) (by simp only [EV, seval]) (brK h (fun hc12 h => ?_) (fun hc12 h => ?_))
              · refine AW_rs (BR := BR) FM (by rw [hN]; kernel_rfl) (by kernel_rfl) ?_
                intro K hK
                simp only [EV, seval]
                refine hK _ _ _ ?_
                clear hK K
                injection h with h
                subst h
                refine AW_le (Le_can (lt := [(2, .bool false)]) (lr := []) (b' := 64) [] [] hρ (by kernel_rfl) ?_ ?_) (AW_ret (end_q [] (.inr rfl) (by kernel_rfl) (by kernel_rfl) ?_))
                · simp only [AL, EV, seval]
                · simp only [AL, EV, seval]
                · simp only [EV, Try.results7, seval]
              · refine AW_skip (show AW _ _ _ _ _ from ?_)
                refine AW_re (BR := BR) FM (by rw [hN]; kernel_rfl) (by kernel_rfl) ?_
                intro K hK
                simp only [EV, seval]
                refine hK _ _ _ (show AW _ _ _ _ _ from ?_)
                refine AW_re (BR := BR) FM (by rw [hN]; kernel_rfl) (by kernel_rfl) ?_
                intro K hK
                simp only [EV, seval]
                refine hK _ _ _ (show cutK _ _ _ from cutL ⟨_, _, _, rfl, h⟩ (Le_can [(32, some 32), (33, some 33)] [1168] hρ (by kernel_rfl) ?_ ?_))
                · simp only [AL, EV, seval]
                · simp only [AL, EV, seval]
            · refine AW_exit (show cutK _ _ _ from cutL ⟨_, _, rfl, h⟩ (Le_can [(32, some 32)] [] hρ (by kernel_rfl) ?_ ?_))
              · simp only [AL, EV, seval]
              · simp only [AL, EV, seval]
        · rintro S ⟨v13, v14, rfl, h⟩
          unfold l_FnReduced_j3 at h
          refine AW_rs (BR := BR) FM (by rw [hN]; kernel_rfl) (by kernel_rfl) ?_
          intro K hK
          obtain ⟨x17, h18, h⟩ := bO_inv h
          simp only [EV, seval]
          refine rC_p (i_IdentityTableau_ok h18) (by simp only [AL, EV, seval]) (le_d rfl) (site_1 (by simp only [EV, seval])) ?_
          obtain ⟨x18, h19, h⟩ := bO_inv h
          simp only [EV, seval]
          refine rC_l (s_EqualTableau_ok h19) (by simp only [AL, EV, seval]) (by simp only [AL, EF, and_self]) (le_d rfl) (no_j rfl) ?_
          simp only [EV, seval]
          refine hK _ _ _ ?_
          clear hK K
          injection h with h
          subst h
          refine AW_le (Le_can (lt := [(2, .bool x18)]) (lr := []) (b' := 64) [] [] hρ (by kernel_rfl) ?_ ?_) (AW_ret (end_q [] (.inr rfl) (by kernel_rfl) (by kernel_rfl) ?_))
          · simp only [AL, EV, seval]
          · simp only [AL, EV, seval]
          · simp only [EV, Try.results7, seval]
end Go.Proofs.Ytcclapenpaediaa
