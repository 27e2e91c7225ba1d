/- Models of functions, and that the functions do what the models say; printed by a program. -/
import Derived.Test.YtcclapenpaediaaGn
import Derived.Test.YtcclapenpaediaaMk
import Derived.Test.YtcclapenpaediaaMkt
import Derived.Test.YtcclapenpaediaaMu
import Derived.Test.YtcclapenpaediaaMrs
import Derived.Test.YtcclapenpaediaaMsg
import Derived.Test.YtcclapenpaediaaMi
namespace Go.Proofs.Ytcclapenpaediaa
open Go.RowKit
set_option maxRecDepth 100000
set_option linter.unusedVariables false
set_option linter.unusedSimpArgs false
set_option linter.defProp false
/- spec.DrawSynthesizeTableau -/
def s_DrawSynthesizeTableau (a1 : List Int) : Option (Int × LQ) :=
  bO (s_l1New a1) fun x1 => bO (s_l26Bent x1.1 x1.2.1 x1.2.2) fun x2 => some (x2.1, x2.2.1)
set_option maxHeartbeats 4000000 in
theorem s_DrawSynthesizeTableau_ok {a1 : List Int} {r : Int × LQ} (h : s_DrawSynthesizeTableau a1 = some r) :
    Spec Try.prog 43 [.sl (encL EB a1) a1.length] [] (.agg [.int .i64 r.1, .sl (encL EIIII r.2) r.2.length]) [] := by
  unfold s_DrawSynthesizeTableau at h
  refine spec_of Try.func43 rfl (by kernel_rfl) (by simp only [Try.ntmps43, List.length_cons, List.length_nil, Nat.reduceAdd, Nat.reduceLeDiff]) ?_
  intro C hN hρ
  rw [Try.ntmps43] at hN
  unfold st0
  simp only [tmps0, Nat.zero_add, Nat.reduceAdd]
  refine AW_rs (BR := BR) FM (by rw [hN]; kernel_rfl) (by kernel_rfl) ?_
  intro K hK
  simp only [EV, seval]
  refine hK _ _ _ ?_
  clear hK K
  refine AW_rs (BR := BR) FM (by rw [hN]; kernel_rfl) (by kernel_rfl) ?_
  intro K hK
  obtain ⟨x1, h1, h⟩ := bO_inv h
  simp only [EV, seval]
  refine rC_p (s_l1New_ok h1) (by simp only [AL, EV, seval]) (le_d rfl) (site_1 (by simp only [EV, seval])) ?_
  obtain ⟨x2, h2, h⟩ := bO_inv h
  simp only [EV, seval]
  refine rR_p [1104] (s_l26Bent_ok h2) (by simp only [AL, EV, seval]) (by simp only [AL, EV, seval]) (by kernel_rfl) (by simp only [EV, solidO, List.mem_cons, List.not_mem_nil, or_false, forall_eq_or_imp, forall_eq, seval]) (le_d rfl) (le_d rfl) (no_j rfl) ?_
  simp only [EV, seval]
  refine hK _ _ _ ?_
  clear hK K
  injection h with h
  subst h
  refine AW_le (Le_can (lt := [(2, .ptr 32 0)]) (lr := [(32, .box 31 [.int .i64 x2.1, .sl (encL EIIII x2.2.1) x2.2.1.length])]) (b' := 64) [(32, some 64)] [] hρ (by kernel_rfl) ?_ ?_) (AW_ret (end_q [] (.inr rfl) (by kernel_rfl) (by kernel_rfl) ?_))
  · simp only [AL, EV, seval]
  · simp only [AL, EV, seval]
  · simp only [EV, Try.results43, seval]
/- laws.FnSynth -/
def l_FnSynth_j2 (v2 : Bool) : Option Bool :=
  some v2
def l_FnSynth_j1 (x2 : Int × LQ) (x3 : LQ × Bool) (v1 : Bool) : Option Bool :=
  br v1 (some false) (br (!x3.2) (some (((x3.1.length : Int)) == 0)) (bO (i_CircuitTableau x2.1 x3.1) fun x8 => bO (br x8.2.2 (bO (s_EqualTableau x8.1 x8.2.1 x2.1 x2.2) fun x9 => some x9) (some false)) fun x10 => l_FnSynth_j2 x10))
def l_FnSynth (a1 : List Int) : Option Bool :=
  bO (l_big a1) fun x1 => br x1 (some true) (bO (s_DrawSynthesizeTableau a1) fun x2 => bO (i_SynthesizeTableau x2.1 x2.2) fun x3 => bO (s_SynthesizeTableau x2.1 x2.2) fun x4 => bO (br (x3.2 != x4.2) (some true) (bO (l_sameGates x3.1 x4.1) fun x5 => some (!x5))) fun x6 => l_FnSynth_j1 x2 x3 x6)
set_option maxHeartbeats 4000000 in
theorem l_FnSynth_ok {a1 : List Int} {r : Bool} (h : l_FnSynth a1 = some r) :
    Spec Try.prog 9 [.sl (encL EB a1) a1.length] [] (.bool r) [] := by
  unfold l_FnSynth at h
  refine spec_of Try.func9 rfl (by kernel_rfl) (by simp only [Try.ntmps9, List.length_cons, List.length_nil, Nat.reduceAdd, Nat.reduceLeDiff]) ?_
  intro C hN hρ
  rw [Try.ntmps9] at hN
  unfold st0
  simp only [tmps0, Nat.zero_add, Nat.reduceAdd]
  refine AW_rs (BR := BR) FM (by rw [hN]; kernel_rfl) (by kernel_rfl) ?_
  intro K hK
  simp only [EV, seval]
  refine hK _ _ _ ?_
  clear hK K
  refine AW_seq ?_
  refine AW_rs (BR := BR) FM (by rw [hN]; kernel_rfl) (by kernel_rfl) ?_
  intro K hK
  obtain ⟨x1, h1, h⟩ := bO_inv h
  simp only [EV, seval]
  refine rC_p (l_big_ok h1) (by simp only [AL, EV, seval]) (le_d rfl) (no_j rfl) ?_
  simp only [EV, seval]
  refine hK _ _ _ ?_
  clear hK K
  refine AW_condK (a := .bool x1) (by simp only [EV, seval]) (brK h (fun hc1 h => ?_) (fun hc1 h => ?_))
  · refine AW_rs (BR := BR) FM (by rw [hN]; kernel_rfl) (by kernel_rfl) ?_
    intro K hK
    simp only [EV, seval]
    refine hK _ _ _ ?_
    clear hK K
    injection h with h
    subst h
    refine AW_le (Le_can (lt := [(2, .bool true)]) (lr := []) (b' := 64) [] [] hρ (by kernel_rfl) ?_ ?_) (AW_ret (end_q [] (.inr rfl) (by kernel_rfl) (by kernel_rfl) ?_))
    · simp only [AL, EV, seval]
    · simp only [AL, EV, seval]
    · simp only [EV, Try.results9, seval]
  · refine AW_skip (show AW _ _ _ _ _ from ?_)
    refine AW_rs (BR := BR) FM (by rw [hN]; kernel_rfl) (by kernel_rfl) ?_
    intro K hK
    obtain ⟨x2, h2, h⟩ := bO_inv h
    simp only [EV, seval]
    refine rC_p (s_DrawSynthesizeTableau_ok h2) (by simp only [AL, EV, seval]) (le_d rfl) (no_j rfl) ?_
    simp only [EV, seval]
    refine hK _ _ _ ?_
    clear hK K
    refine AW_rs (BR := BR) FM (by rw [hN]; kernel_rfl) (by kernel_rfl) ?_
    intro K hK
    obtain ⟨x3, h3, h⟩ := bO_inv h
    simp only [EV, seval]
    refine rC_p (i_SynthesizeTableau_ok h3) (by simp only [AL, EV, seval]) (le_d rfl) (site_1 (by simp only [EV, seval])) ?_
    simp only [EV, seval]
    refine hK _ _ _ ?_
    clear hK K
    refine AW_rs (BR := BR) FM (by rw [hN]; kernel_rfl) (by kernel_rfl) ?_
    intro K hK
    obtain ⟨x4, h4, h⟩ := bO_inv h
    simp only [EV, seval]
    refine rC_p (s_SynthesizeTableau_ok h4) (by simp only [AL, EV, seval]) (le_d rfl) (site_1 (by simp only [EV, seval])) ?_
    simp only [EV, seval]
    refine hK _ _ _ ?_
    clear hK K
    refine AW_seq ?_
    refine AW_rsJ (BR := BR) (fun S => ∃ (v1 : Bool), S = ⟨mkT [(3, .ptr 32 0), (4, .own 33 x3.1.length), (5, .bool x3.2), (32, .bool v1)], mkR [(32, .box 31 [.int .i64 x2.1, .sl (encL EIIII x2.2) x2.2.length]), (33, .row 49 4 (encL EIIII x3.1))], 64⟩ ∧ l_FnSynth_j1 x2 x3 v1 = some r) FM (by rw [hN]; kernel_rfl) (by kernel_rfl) ?_ ?_
    · intro K hK
      obtain ⟨x6, hv1, h⟩ := bO_inv h
      rcases br_inv hv1 with ⟨hc2, hv1⟩ | ⟨hc2, hv1⟩
      · cases hv1
        simp only [EV, seval, hc2]
        refine hK _ _ _ (show cutK _ _ _ from cutL ⟨_, rfl, h⟩ (Le_can [(32, some 2144), (33, some 3152)] [] hρ (by kernel_rfl) ?_ ?_))
        · simp only [AL, EV, seval, hc2]
        · simp only [AL, EV, seval, hc2]
      · obtain ⟨x7, h6, hv1⟩ := bO_inv hv1
        simp only [EV, seval, hc2]
        refine rC_l (l_sameGates_ok h6) (by simp only [AL, EV, seval, hc2]) (by simp only [AL, EF, and_self]) (le_d rfl) (no_j rfl) ?_
        cases hv1
        simp only [EV, seval, hc2]
        refine hK _ _ _ (show cutK _ _ _ from cutL ⟨_, rfl, h⟩ (Le_can [(32, some 2144), (33, some 3152)] [] hρ (by kernel_rfl) ?_ ?_))
        · simp only [AL, EV, seval, hc2]
        · simp only [AL, EV, seval, hc2]
    · rintro S ⟨v1, rfl, h⟩
      unfold l_FnSynth_j1 at h
      refine AW_condK (a := .bool v1) (by simp only [EV, seval]) (brK h (fun hc3 h => ?_) (fun hc3 h => ?_))
      · refine AW_rs (BR := BR) FM (by rw [hN]; kernel_rfl) (by kernel_rfl) ?_
        intro K hK
        simp only [EV, seval]
        refine hK _ _ _ ?_
        clear hK K
        injection h with h
        subst h
        refine AW_le (Le_can (lt := [(2, .bool false)]) (lr := []) (b' := 64) [] [] hρ (by kernel_rfl) ?_ ?_) (AW_ret (end_q [] (.inr rfl) (by kernel_rfl) (by kernel_rfl) ?_))
        · simp only [AL, EV, seval]
        · simp only [AL, EV, seval]
        · simp only [EV, Try.results9, seval]
      · refine AW_skip (show AW _ _ _ _ _ from ?_)
        refine AW_seq ?_
        refine AW_rs (BR := BR) FM (by rw [hN]; kernel_rfl) (by kernel_rfl) ?_
        intro K hK
        simp only [EV, seval]
        refine hK _ _ _ ?_
        clear hK K
        refine AW_condK (a := .bool (!x3.2)) (by simp only [EV, seval]) (brK h (fun hc4 h => ?_) (fun hc4 h => ?_))
        · refine AW_rs (BR := BR) FM (by rw [hN]; kernel_rfl) (by kernel_rfl) ?_
          intro K hK
          simp only [EV, seval]
          refine hK _ _ _ ?_
          clear hK K
          injection h with h
          subst h
          refine AW_le (Le_can (lt := [(2, .bool (((x3.1.length : Int)) == 0))]) (lr := []) (b' := 64) [] [] hρ (by kernel_rfl) ?_ ?_) (AW_ret (end_q [] (.inr rfl) (by kernel_rfl) (by kernel_rfl) ?_))
          · simp only [AL, EV, seval]
          · simp only [AL, EV, seval]
          · simp only [EV, Try.results9, seval]
        · refine AW_skip (show AW _ _ _ _ _ from ?_)
          refine AW_rs (BR := BR) FM (by rw [hN]; kernel_rfl) (by kernel_rfl) ?_
          intro K hK
          obtain ⟨x8, h7, h⟩ := bO_inv h
          simp only [EV, seval]
          refine rC_l (i_CircuitTableau_ok h7) (by simp only [AL, EV, seval]) (by simp only [AL, EF, and_self]) (le_d rfl) (site_1 (by simp only [EV, seval])) ?_
          simp only [EV, seval]
          refine hK _ _ _ ?_
          clear hK K
          refine AW_rsJ (BR := BR) (fun S => ∃ (v2 : Bool), S = ⟨mkT [(2, .bool v2)], mkR [], 64⟩ ∧ l_FnSynth_j2 v2 = some r) FM (by rw [hN]; kernel_rfl) (by kernel_rfl) ?_ ?_
          · intro K hK
            obtain ⟨x10, hv2, h⟩ := bO_inv h
            rcases br_inv hv2 with ⟨hc5, hv2⟩ | ⟨hc5, hv2⟩
            · obtain ⟨x11, h9, hv2⟩ := bO_inv hv2
              simp only [EV, seval, hc5]
              refine rC_l (s_EqualTableau_ok h9) (by simp only [AL, EV, seval, hc5]) (by simp only [AL, EF, and_self]) (le_d rfl) (no_j rfl) ?_
              cases hv2
              simp only [EV, seval, hc5]
              refine hK _ _ _ (show cutK _ _ _ from cutL ⟨_, rfl, h⟩ (Le_can [] [] hρ (by kernel_rfl) ?_ ?_))
              · simp only [AL, EV, seval, hc5]
              · simp only [AL, EV, seval, hc5]
            · cases hv2
              simp only [EV, seval, hc5]
              refine hK _ _ _ (show cutK _ _ _ from cutL ⟨_, rfl, h⟩ (Le_can [] [] hρ (by kernel_rfl) ?_ ?_))
              · simp only [AL, EV, seval, hc5]
              · simp only [AL, EV, seval, hc5]
          · rintro S ⟨v2, rfl, h⟩
            unfold l_FnSynth_j2 at h
            injection h with h
            subst h
            refine AW_le (Le_can (lt := [(2, .bool v2)]) (lr := []) (b' := 64) [] [] hρ (by kernel_rfl) ?_ ?_) (AW_ret (end_q [] (.inr rfl) (by kernel_rfl) (by kernel_rfl) ?_))
            · simp only [AL, EV, seval]
            · simp only [AL, EV, seval]
            · simp only [EV, Try.results9, seval]
end Go.Proofs.Ytcclapenpaediaa
