/- Models of functions, and that the functions do what the models say; printed by a program. -/
import Derived.Test.YtcclapenpaediaaGn
import Derived.Test.YtcclapenpaediaaMkt
import Derived.Test.YtcclapenpaediaaMk
import Derived.Test.YtcclapenpaediaaMj
import Derived.Test.YtcclapenpaediaaMu
import Derived.Test.YtcclapenpaediaaMnw
import Derived.Test.YtcclapenpaediaaMsg
import Derived.Test.YtcclapenpaediaaMb
import Derived.Test.YtcclapenpaediaaMn
namespace Go.Proofs.Ytcclapenpaediaa
open Go.RowKit
set_option maxRecDepth 100000
set_option linter.unusedVariables false
set_option linter.unusedSimpArgs false
set_option linter.defProp false
/- spec.l29Cliff -/
def s_l29Cliff (a1 : List Int) (a2 : Int) (a3 : Int) (a4 : Int) : Option (LQ × List Int × Int × Int) :=
  bO (s_l26Circ a1 a2 a3 1 a4) fun x1 => some (x1.2.1, x1.2.2.1, x1.2.2.2.1, x1.2.2.2.2)
set_option maxHeartbeats 4000000 in
theorem s_l29Cliff_ok {a1 : List Int} {a2 : Int} {a3 : Int} {a4 : Int} {r : LQ × List Int × Int × Int} (h : s_l29Cliff a1 a2 a3 a4 = some r) :
    Spec Try.prog 85 [.ptr 0 0, .int .i64 a4] [.box 139 [.sl (encL EB a1) a1.length, .int .i64 a2, .int .i64 a3]] (.own 1 r.1.length) [.box 139 [.sl (encL EB r.2.1) r.2.1.length, .int .i64 r.2.2.1, .int .i64 r.2.2.2], .row 49 4 (encL EIIII r.1)] := by
  unfold s_l29Cliff at h
  refine spec_of Try.func85 rfl (by kernel_rfl) (by simp only [Try.ntmps85, List.length_cons, List.length_nil, Nat.reduceAdd, Nat.reduceLeDiff]) ?_
  intro C hN hρ
  rw [Try.ntmps85] at hN
  unfold st0
  simp only [tmps0, Nat.zero_add, Nat.reduceAdd]
  refine AW_rs (BR := BR) FM (by rw [hN]; kernel_rfl) (by kernel_rfl) ?_
  intro K hK
  simp only [EV, seval]
  refine hK _ _ _ ?_
  clear hK K
  refine AW_rs (BR := BR) FM (by rw [hN]; kernel_rfl) (by kernel_rfl) ?_
  intro K hK
  obtain ⟨x1, h1, h⟩ := bO_inv h
  simp only [EV, seval]
  refine rR_p [0] (s_l26Circ_ok h1) (by simp only [AL, EV, seval]) (by simp only [AL, EV, seval]) (by kernel_rfl) (by simp only [EV, solidO, List.mem_cons, List.not_mem_nil, or_false, forall_eq_or_imp, forall_eq, seval]) (le_d rfl) (le_d rfl) (site_1 (by simp only [EV, seval])) ?_
  simp only [EV, seval]
  refine hK _ _ _ ?_
  clear hK K
  injection h with h
  subst h
  refine AW_le (Le_can (lt := [(4, .own 32 x1.2.1.length)]) (lr := [(0, .box 139 [.sl (encL EB x1.2.2.1) x1.2.2.1.length, .int .i64 x1.2.2.2.1, .int .i64 x1.2.2.2.2]), (32, .row 49 4 (encL EIIII x1.2.1))]) (b' := 64) [(0, some 0), (32, some 1120)] [] hρ (by kernel_rfl) ?_ ?_) (AW_ret (end_q [0, 32] (.inr rfl) (by kernel_rfl) (by kernel_rfl) ?_))
  · simp only [AL, EV, seval]
  · simp only [AL, EV, seval]
  · simp only [EV, Try.results85, seval]
/- spec.DrawCliffordWord -/
def s_DrawCliffordWord (a1 : List Int) : Option (Int × LQ) :=
  bO (s_l1New a1) fun x1 => bO (s_l1Once x1.1 x1.2.1 x1.2.2 8) fun x2 => br x2.1 (bO (s_l26Bent x2.2.1 x2.2.2.1 x2.2.2.2) fun x3 => some (x3.1, x3.2.1)) (bO (s_l29Cliff x2.2.1 x2.2.2.1 x2.2.2.2 8) fun x4 => bO (s_WordTableau x4.1) fun x5 => some (x5.1, x5.2.1))
set_option maxHeartbeats 4000000 in
theorem s_DrawCliffordWord_ok {a1 : List Int} {r : Int × LQ} (h : s_DrawCliffordWord a1 = some r) :
    Spec Try.prog 27 [.sl (encL EB a1) a1.length] [] (.agg [.int .i64 r.1, .sl (encL EIIII r.2) r.2.length]) [] := by
  unfold s_DrawCliffordWord at h
  refine spec_of Try.func27 rfl (by kernel_rfl) (by simp only [Try.ntmps27, List.length_cons, List.length_nil, Nat.reduceAdd, Nat.reduceLeDiff]) ?_
  intro C hN hρ
  rw [Try.ntmps27] at hN
  unfold st0
  simp only [tmps0, Nat.zero_add, Nat.reduceAdd]
  refine AW_rs (BR := BR) FM (by rw [hN]; kernel_rfl) (by kernel_rfl) ?_
  intro K hK
  simp only [EV, seval]
  refine hK _ _ _ ?_
  clear hK K
  refine AW_rs (BR := BR) FM (by rw [hN]; kernel_rfl) (by kernel_rfl) ?_
  intro K hK
  obtain ⟨x1, h1, h⟩ := bO_inv h
  simp only [EV, seval]
  refine rC_p (s_l1New_ok h1) (by simp only [AL, EV, seval]) (le_d rfl) (site_1 (by simp only [EV, seval])) ?_
  simp only [EV, seval]
  refine hK _ _ _ ?_
  clear hK K
  refine AW_seq ?_
  refine AW_rs (BR := BR) FM (by rw [hN]; kernel_rfl) (by kernel_rfl) ?_
  intro K hK
  obtain ⟨x2, h2, h⟩ := bO_inv h
  simp only [EV, seval]
  refine rR_p [1104] (s_l1Once_ok h2) (by simp only [AL, EV, seval]) (by simp only [AL, EV, seval]) (by kernel_rfl) (by simp only [EV, solidO, List.mem_cons, List.not_mem_nil, or_false, forall_eq_or_imp, forall_eq, seval]) (le_d rfl) (le_d rfl) (no_j rfl) ?_
  simp only [EV, seval]
  refine hK _ _ _ ?_
  clear hK K
  refine AW_condK (a := .bool x2.1) (by simp only [EV, seval]) (brK h (fun hc1 h => ?_) (fun hc1 h => ?_))
  · refine AW_rs (BR := BR) FM (by rw [hN]; kernel_rfl) (by kernel_rfl) ?_
    intro K hK
    obtain ⟨x3, h3, h⟩ := bO_inv h
    simp only [EV, seval]
    refine rR_p [1104] (s_l26Bent_ok h3) (by simp only [AL, EV, seval]) (by simp only [AL, EV, seval]) (by kernel_rfl) (by simp only [EV, solidO, List.mem_cons, List.not_mem_nil, or_false, forall_eq_or_imp, forall_eq, seval]) (le_d rfl) (le_d rfl) (no_j rfl) ?_
    simp only [EV, seval]
    refine hK _ _ _ ?_
    clear hK K
    injection h with h
    subst h
    refine AW_le (Le_can (lt := [(2, .ptr 32 0)]) (lr := [(32, .box 31 [.int .i64 x3.1, .sl (encL EIIII x3.2.1) x3.2.1.length])]) (b' := 64) [(32, some 64)] [] hρ (by kernel_rfl) ?_ ?_) (AW_ret (end_q [] (.inr rfl) (by kernel_rfl) (by kernel_rfl) ?_))
    · simp only [AL, EV, seval]
    · simp only [AL, EV, seval]
    · simp only [EV, Try.results27, seval]
  · refine AW_skip (show AW _ _ _ _ _ from ?_)
    refine AW_rs (BR := BR) FM (by rw [hN]; kernel_rfl) (by kernel_rfl) ?_
    intro K hK
    obtain ⟨x4, h4, h⟩ := bO_inv h
    simp only [EV, seval]
    refine rR_p [1104] (s_l29Cliff_ok h4) (by simp only [AL, EV, seval]) (by simp only [AL, EV, seval]) (by kernel_rfl) (by simp only [EV, solidO, List.mem_cons, List.not_mem_nil, or_false, forall_eq_or_imp, forall_eq, seval]) (le_d rfl) (le_d rfl) (site_1 (by simp only [EV, seval])) ?_
    obtain ⟨x5, h5, h⟩ := bO_inv h
    simp only [EV, seval]
    refine rC_l (s_WordTableau_ok h5) (by simp only [AL, EV, seval]) (by simp only [AL, EF, and_self]) (le_d rfl) (site_1 (by simp only [EV, seval])) ?_
    simp only [EV, seval]
    refine hK _ _ _ ?_
    clear hK K
    refine AW_rs (BR := BR) FM (by rw [hN]; kernel_rfl) (by kernel_rfl) ?_
    intro K hK
    simp only [EV, seval]
    refine hK _ _ _ ?_
    clear hK K
    injection h with h
    subst h
    refine AW_le (Le_can (lt := [(2, .ptr 32 0)]) (lr := [(32, .box 31 [.int .i64 x5.1, .sl (encL EIIII x5.2.1) x5.2.1.length])]) (b' := 64) [(32, some 64)] [3168] hρ (by kernel_rfl) ?_ ?_) (AW_ret (end_q [] (.inr rfl) (by kernel_rfl) (by kernel_rfl) ?_))
    · simp only [AL, EV, seval]
    · simp only [AL, EV, seval]
    · simp only [EV, Try.results27, seval]
/- laws.FnWords -/
def l_FnWords_j2 (v2 : Bool) : Option Bool :=
  some v2
def l_FnWords_j3 (v3 : Bool) : Option Bool :=
  some v3
def l_FnWords_j1 (x2 : Int × LQ) (x3 : LQ × Bool) (v1 : Bool) : Option Bool :=
  br v1 (some false) (br (!x3.2) (bO (s_IsValidTableau x2.1 x2.2) fun x8 => bO (br (!x8) (some true) (some (x2.1 != 1))) fun x9 => l_FnWords_j2 x9) (bO (i_WordTableau x3.1) fun x10 => bO (br x10.2.2 (bO (s_EqualTableau x10.1 x10.2.1 x2.1 x2.2) fun x11 => some x11) (some false)) fun x12 => bO (br x12 (some (decide (((x3.1.length : Int)) ≤ 3))) (some false)) fun x13 => bO (br x13 (bO (i_AllCliffordWords) fun x14 => some (((x14.length : Int)) == 24)) (some false)) fun x15 => l_FnWords_j3 x15))
def l_FnWords (a1 : List Int) : Option Bool :=
  bO (l_big a1) fun x1 => br x1 (some true) (bO (s_DrawCliffordWord a1) fun x2 => bO (i_CliffordWord x2.1 x2.2) fun x3 => bO (s_CliffordWord x2.1 x2.2) fun x4 => bO (br (x3.2 != x4.2) (some true) (bO (l_sameGates x3.1 x4.1) fun x5 => some (!x5))) fun x6 => l_FnWords_j1 x2 x3 x6)
set_option maxHeartbeats 4000000 in
theorem l_FnWords_ok {a1 : List Int} {r : Bool} (h : l_FnWords a1 = some r) :
    Spec Try.prog 5 [.sl (encL EB a1) a1.length] [] (.bool r) [] := by
  unfold l_FnWords at h
  refine spec_of Try.func5 rfl (by kernel_rfl) (by simp only [Try.ntmps5, List.length_cons, List.length_nil, Nat.reduceAdd, Nat.reduceLeDiff]) ?_
  intro C hN hρ
  rw [Try.ntmps5] at hN
  unfold st0
  simp only [tmps0, Nat.zero_add, Nat.reduceAdd]
  refine AW_rs (BR := BR) FM (by rw [hN]; kernel_rfl) (by kernel_rfl) ?_
  intro K hK
  simp only [EV, seval]
  refine hK _ _ _ ?_
  clear hK K
  refine AW_seq ?_
  refine AW_rs (BR := BR) FM (by rw [hN]; kernel_rfl) (by kernel_rfl) ?_
  intro K hK
  obtain ⟨x1, h1, h⟩ := bO_inv h
  simp only [EV, seval]
  refine rC_p (l_big_ok h1) (by simp only [AL, EV, seval]) (le_d rfl) (no_j rfl) ?_
  simp only [EV, seval]
  refine hK _ _ _ ?_
  clear hK K
  refine AW_condK (a := .bool x1) (by simp only [EV, seval]) (brK h (fun hc1 h => ?_) (fun hc1 h => ?_))
  · refine AW_rs (BR := BR) FM (by rw [hN]; kernel_rfl) (by kernel_rfl) ?_
    intro K hK
    simp only [EV, seval]
    refine hK _ _ _ ?_
    clear hK K
    injection h with h
    subst h
    refine AW_le (Le_can (lt := [(2, .bool true)]) (lr := []) (b' := 64) [] [] hρ (by kernel_rfl) ?_ ?_) (AW_ret (end_q [] (.inr rfl) (by kernel_rfl) (by kernel_rfl) ?_))
    · simp only [AL, EV, seval]
    · simp only [AL, EV, seval]
    · simp only [EV, Try.results5, seval]
  · refine AW_skip (show AW _ _ _ _ _ from ?_)
    refine AW_rs (BR := BR) FM (by rw [hN]; kernel_rfl) (by kernel_rfl) ?_
    intro K hK
    obtain ⟨x2, h2, h⟩ := bO_inv h
    simp only [EV, seval]
    refine rC_p (s_DrawCliffordWord_ok h2) (by simp only [AL, EV, seval]) (le_d rfl) (no_j rfl) ?_
    simp only [EV, seval]
    refine hK _ _ _ ?_
    clear hK K
    refine AW_rs (BR := BR) FM (by rw [hN]; kernel_rfl) (by kernel_rfl) ?_
    intro K hK
    obtain ⟨x3, h3, h⟩ := bO_inv h
    simp only [EV, seval]
    refine rC_p (i_CliffordWord_ok h3) (by simp only [AL, EV, seval]) (le_d rfl) (no_j rfl) ?_
    simp only [EV, seval]
    refine hK _ _ _ ?_
    clear hK K
    refine AW_rs (BR := BR) FM (by rw [hN]; kernel_rfl) (by kernel_rfl) ?_
    intro K hK
    obtain ⟨x4, h4, h⟩ := bO_inv h
    simp only [EV, seval]
    refine rC_p (s_CliffordWord_ok h4) (by simp only [AL, EV, seval]) (le_d rfl) (site_1 (by simp only [EV, seval])) ?_
    simp only [EV, seval]
    refine hK _ _ _ ?_
    clear hK K
    refine AW_seq ?_
    refine AW_rsJ (BR := BR) (fun S => ∃ (v1 : Bool), S = ⟨mkT [(3, .ptr 32 0), (4, .sl (encL EIIII x3.1) x3.1.length), (5, .bool x3.2), (32, .bool v1)], mkR [(32, .box 31 [.int .i64 x2.1, .sl (encL EIIII x2.2) x2.2.length])], 64⟩ ∧ l_FnWords_j1 x2 x3 v1 = some r) FM (by rw [hN]; kernel_rfl) (by kernel_rfl) ?_ ?_
    · intro K hK
      obtain ⟨x6, hv1, h⟩ := bO_inv h
      rcases br_inv hv1 with ⟨hc2, hv1⟩ | ⟨hc2, hv1⟩
      · cases hv1
        simp only [EV, seval, hc2]
        refine hK _ _ _ (show cutK _ _ _ from cutL ⟨_, rfl, h⟩ (Le_can [(32, some 2144)] [] hρ (by kernel_rfl) ?_ ?_))
        · simp only [AL, EV, seval, hc2]
        · simp only [AL, EV, seval, hc2]
      · obtain ⟨x7, h6, hv1⟩ := bO_inv hv1
        simp only [EV, seval, hc2]
        refine rC_l (l_sameGates_ok h6) (by simp only [AL, EV, seval, hc2]) (by simp only [AL, EF, and_self]) (le_d rfl) (no_j rfl) ?_
        cases hv1
        simp only [EV, seval, hc2]
        refine hK _ _ _ (show cutK _ _ _ from cutL ⟨_, rfl, h⟩ (Le_can [(32, some 2144)] [] hρ (by kernel_rfl) ?_ ?_))
        · simp only [AL, EV, seval, hc2]
        · simp only [AL, EV, seval, hc2]
    · rintro S ⟨v1, rfl, h⟩
      unfold l_FnWords_j1 at h
      refine AW_condK (a := .bool v1) (by simp only [EV, seval]) (brK h (fun hc3 h => ?_) (fun hc3 h => ?_))
      · refine AW_rs (BR := BR) FM (by rw [hN]; kernel_rfl) (by kernel_rfl) ?_
        intro K hK
        simp only [EV, seval]
        refine hK _ _ _ ?_
        clear hK K
        injection h with h
        subst h
        refine AW_le (Le_can (lt := [(2, .bool false)]) (lr := []) (b' := 64) [] [] hρ (by kernel_rfl) ?_ ?_) (AW_ret (end_q [] (.inr rfl) (by kernel_rfl) (by kernel_rfl) ?_))
        · simp only [AL, EV, seval]
        · simp only [AL, EV, seval]
        · simp only [EV, Try.results5, seval]
      · refine AW_skip (show AW _ _ _ _ _ from ?_)
        refine AW_seq ?_
        refine AW_rs (BR := BR) FM (by rw [hN]; kernel_rfl) (by kernel_rfl) ?_
        intro K hK
        simp only [EV, seval]
        refine hK _ _ _ ?_
        clear hK K
        refine AW_condK (a := .bool (!x3.2)) (by simp only [EV, seval]) (brK h (fun hc4 h => ?_) (fun hc4 h => ?_))
        · refine AW_rsJ (BR := BR) (fun S => ∃ (v2 : Bool), S = ⟨mkT [(2, .bool v2)], mkR [], 64⟩ ∧ l_FnWords_j2 v2 = some r) FM (by rw [hN]; kernel_rfl) (by kernel_rfl) ?_ ?_
          · intro K hK
            obtain ⟨x8, h7, h⟩ := bO_inv h
            simp only [EV, seval]
            refine rC_p (s_IsValidTableau_ok h7) (by simp only [AL, EV, seval]) (le_d rfl) (no_j rfl) ?_
            obtain ⟨x9, hv2, h⟩ := bO_inv h
            rcases br_inv hv2 with ⟨hc5, hv2⟩ | ⟨hc5, hv2⟩
            · cases hv2
              simp only [EV, seval, hc5]
              refine hK _ _ _ (show cutK _ _ _ from cutL ⟨_, rfl, h⟩ (Le_can [] [] hρ (by kernel_rfl) ?_ ?_))
              · simp only [AL, EV, seval, hc5]
              · simp only [AL, EV, seval, hc5]
            · cases hv2
              simp only [EV, seval, hc5]
              refine hK _ _ _ (show cutK _ _ _ from cutL ⟨_, rfl, h⟩ (Le_can [] [] hρ (by kernel_rfl) ?_ ?_))
              · simp only [AL, EV, seval, hc5]
              · simp only [AL, EV, seval, hc5]
          · rintro S ⟨v2, rfl, h⟩
            unfold l_FnWords_j2 at h
            injection h with h
            subst h
            refine AW_le (Le_can (lt := [(2, .bool v2)]) (lr := []) (b' := 64) [] [] hρ (by kernel_rfl) ?_ ?_) (AW_ret (end_q [] (.inr rfl) (by kernel_rfl) (by kernel_rfl) ?_))
            · simp only [AL, EV, seval]
            · simp only [AL, EV, seval]
            · simp only [EV, Try.results5, seval]
        · refine AW_skip (show AW _ _ _ _ _ from ?_)
          refine AW_rs (BR := BR) FM (by rw [hN]; kernel_rfl) (by kernel_rfl) ?_
          intro K hK
          obtain ⟨x10, h8, h⟩ := bO_inv h
          simp only [EV, seval]
          refine rC_p (i_WordTableau_ok h8) (by simp only [AL, EV, seval]) (le_d rfl) (site_1 (by simp only [EV, seval])) ?_
          simp only [EV, seval]
          refine hK _ _ _ ?_
          clear hK K
          refine AW_rsJ (BR := BR) (fun S => ∃ (v3 : Bool), S = ⟨mkT [(2, .bool v3)], mkR [], 64⟩ ∧ l_FnWords_j3 v3 = some r) FM (by rw [hN]; kernel_rfl) (by kernel_rfl) ?_ ?_
          · intro K hK
            obtain ⟨x12, hv3, h⟩ := bO_inv h
            rcases br_inv hv3 with ⟨hc6, hv3⟩ | ⟨hc6, hv3⟩
            · obtain ⟨x16, h11, hv3⟩ := bO_inv hv3
              simp only [EV, seval, hc6]
              refine rC_l (s_EqualTableau_ok h11) (by simp only [AL, EV, seval, hc6]) (by simp only [AL, EF, and_self]) (le_d rfl) (no_j rfl) ?_
              cases hv3
              obtain ⟨x17, hv6, h⟩ := bO_inv h
              rcases br_inv hv6 with ⟨hc9, hv6⟩ | ⟨hc9, hv6⟩
              · cases hv6
                obtain ⟨x21, hv8, h⟩ := bO_inv h
                rcases br_inv hv8 with ⟨hc11, hv8⟩ | ⟨hc11, hv8⟩
                · obtain ⟨x22, h14, hv8⟩ := bO_inv hv8
                  simp only [EV, seval, hc6, hc9, hc11]
                  refine rC_p (i_AllCliffordWords_ok h14) (by simp only [AL, EV, seval, hc6, hc9, hc11]) (le_d rfl) (site_1 (by simp only [EV, seval])) ?_
                  cases hv8
                  simp only [EV, seval, hc6, hc9, hc11]
                  refine hK _ _ _ (show cutK _ _ _ from cutL ⟨_, rfl, h⟩ (Le_can [] [] hρ (by kernel_rfl) ?_ ?_))
                  · simp only [AL, EV, seval, hc6, hc9, hc11]
                  · simp only [AL, EV, seval, hc6, hc9, hc11]
                · cases hv8
                  simp only [EV, seval, hc6, hc9, hc11]
                  refine hK _ _ _ (show cutK _ _ _ from cutL ⟨_, rfl, h⟩ (Le_can [] [] hρ (by kernel_rfl) ?_ ?_))
                  · simp only [AL, EV, seval, hc6, hc9, hc11]
                  · simp only [AL, EV, seval, hc6, hc9, hc11]
              · cases hv6
                obtain ⟨x23, hv9, h⟩ := bO_inv h
                replace hv9 := br_f hv9
                cases hv9
                try dsimp only at h
                simp only [EV, seval, hc6, hc9]
                refine hK _ _ _ (show cutK _ _ _ from cutL ⟨_, rfl, h⟩ (Le_can [] [] hρ (by kernel_rfl) ?_ ?_))
                · simp only [AL, EV, seval, hc6, hc9]
                · simp only [AL, EV, seval, hc6, hc9]
            · cases hv3
              obtain ⟨x24, hv10, h⟩ := bO_inv h
              replace hv10 := br_f hv10
              cases hv10
              try dsimp only at h
              obtain ⟨x25, hv11, h⟩ := bO_inv h
              replace hv11 := br_f hv11
              cases hv11
              try dsimp only at h
              simp only [EV, seval, hc6]
              refine hK _ _ _ (show cutK _ _ _ from cutL ⟨_, rfl, h⟩ (Le_can [] [] hρ (by kernel_rfl) ?_ ?_))
              · simp only [AL, EV, seval, hc6]
              · simp only [AL, EV, seval, hc6]
          · rintro S ⟨v3, rfl, h⟩
            unfold l_FnWords_j3 at h
            injection h with h
            subst h
            refine AW_le (Le_can (lt := [(2, .bool v3)]) (lr := []) (b' := 64) [] [] hρ (by kernel_rfl) ?_ ?_) (AW_ret (end_q [] (.inr rfl) (by kernel_rfl) (by kernel_rfl) ?_))
            · simp only [AL, EV, seval]
            · simp only [AL, EV, seval]
            · simp only [EV, Try.results5, seval]
end Go.Proofs.Ytcclapenpaediaa
