/- Models of functions, and that the functions do what the models say; printed by a program. -/
import Derived.Test.YtcclapenpaediaaGn
namespace Go.Proofs.Ytcclapenpaediaa
open Go.RowKit
set_option maxRecDepth 100000
set_option linter.unusedVariables false
set_option linter.unusedSimpArgs false
set_option linter.defProp false
/- impl.in -/
def i_in_j1 (v1 : Bool) : Option Bool :=
  some v1
def i_in (a1 : Int) (a2 : Int) (a3 : Int) : Option Bool :=
  bO (br (decide (a2 ≤ a1)) (some (decide (a1 ≤ a3))) (some false)) fun x1 => i_in_j1 x1
set_option maxHeartbeats 4000000 in
theorem i_in_ok {a1 : Int} {a2 : Int} {a3 : Int} {r : Bool} (h : i_in a1 a2 a3 = some r) :
    Spec Try.prog 94 [.int .i64 a1, .int .i64 a2, .int .i64 a3] [] (.bool r) [] := by
  unfold i_in at h
  refine spec_of Try.func94 rfl (by kernel_rfl) (by simp only [Try.ntmps94, List.length_cons, List.length_nil, Nat.reduceAdd, Nat.reduceLeDiff]) ?_
  intro C hN hρ
  rw [Try.ntmps94] at hN
  unfold st0
  simp only [tmps0, Nat.zero_add, Nat.reduceAdd]
  refine AW_rs (BR := BR) FM (by rw [hN]; kernel_rfl) (by kernel_rfl) ?_
  intro K hK
  simp only [EV, seval]
  refine hK _ _ _ ?_
  clear hK K
  refine AW_rsJ (BR := BR) (fun S => ∃ (v1 : Bool), S = ⟨mkT [(6, .bool v1)], mkR [], 64⟩ ∧ i_in_j1 v1 = some r) FM (by rw [hN]; kernel_rfl) (by kernel_rfl) ?_ ?_
  · intro K hK
    obtain ⟨x1, hv1, h⟩ := bO_inv h
    rcases br_inv hv1 with ⟨hc1, hv1⟩ | ⟨hc1, hv1⟩
    · cases hv1
      simp only [EV, seval, hc1]
      refine hK _ _ _ (show cutK _ _ _ from cutL ⟨_, rfl, h⟩ (Le_can [] [] hρ (by kernel_rfl) ?_ ?_))
      · simp only [AL, EV, seval, hc1]
      · simp only [AL, EV, seval, hc1]
    · cases hv1
      simp only [EV, seval, hc1]
      refine hK _ _ _ (show cutK _ _ _ from cutL ⟨_, rfl, h⟩ (Le_can [] [] hρ (by kernel_rfl) ?_ ?_))
      · simp only [AL, EV, seval, hc1]
      · simp only [AL, EV, seval, hc1]
  · rintro S ⟨v1, rfl, h⟩
    unfold i_in_j1 at h
    injection h with h
    subst h
    refine AW_le (Le_can (lt := [(6, .bool v1)]) (lr := []) (b' := 64) [] [] hρ (by kernel_rfl) ?_ ?_) (AW_ret (end_q [] (.inr rfl) (by kernel_rfl) (by kernel_rfl) ?_))
    · simp only [AL, EV, seval]
    · simp only [AL, EV, seval]
    · simp only [EV, Try.results94, seval]
/- spec.l1In -/
def s_l1In_j1 (v1 : Bool) : Option Bool :=
  some v1
def s_l1In (a1 : Int) (a2 : Int) (a3 : Int) : Option Bool :=
  bO (br (decide (a2 ≤ a1)) (some (decide (a1 ≤ a3))) (some false)) fun x1 => s_l1In_j1 x1
set_option maxHeartbeats 4000000 in
theorem s_l1In_ok {a1 : Int} {a2 : Int} {a3 : Int} {r : Bool} (h : s_l1In a1 a2 a3 = some r) :
    Spec Try.prog 86 [.int .i64 a1, .int .i64 a2, .int .i64 a3] [] (.bool r) [] := by
  unfold s_l1In at h
  refine spec_of Try.func86 rfl (by kernel_rfl) (by simp only [Try.ntmps86, List.length_cons, List.length_nil, Nat.reduceAdd, Nat.reduceLeDiff]) ?_
  intro C hN hρ
  rw [Try.ntmps86] at hN
  unfold st0
  simp only [tmps0, Nat.zero_add, Nat.reduceAdd]
  refine AW_rs (BR := BR) FM (by rw [hN]; kernel_rfl) (by kernel_rfl) ?_
  intro K hK
  simp only [EV, seval]
  refine hK _ _ _ ?_
  clear hK K
  refine AW_rsJ (BR := BR) (fun S => ∃ (v1 : Bool), S = ⟨mkT [(6, .bool v1)], mkR [], 64⟩ ∧ s_l1In_j1 v1 = some r) FM (by rw [hN]; kernel_rfl) (by kernel_rfl) ?_ ?_
  · intro K hK
    obtain ⟨x1, hv1, h⟩ := bO_inv h
    rcases br_inv hv1 with ⟨hc1, hv1⟩ | ⟨hc1, hv1⟩
    · cases hv1
      simp only [EV, seval, hc1]
      refine hK _ _ _ (show cutK _ _ _ from cutL ⟨_, rfl, h⟩ (Le_can [] [] hρ (by kernel_rfl) ?_ ?_))
      · simp only [AL, EV, seval, hc1]
      · simp only [AL, EV, seval, hc1]
    · cases hv1
      simp only [EV, seval, hc1]
      refine hK _ _ _ (show cutK _ _ _ from cutL ⟨_, rfl, h⟩ (Le_can [] [] hρ (by kernel_rfl) ?_ ?_))
      · simp only [AL, EV, seval, hc1]
      · simp only [AL, EV, seval, hc1]
  · rintro S ⟨v1, rfl, h⟩
    unfold s_l1In_j1 at h
    injection h with h
    subst h
    refine AW_le (Le_can (lt := [(6, .bool v1)]) (lr := []) (b' := 64) [] [] hρ (by kernel_rfl) ?_ ?_) (AW_ret (end_q [] (.inr rfl) (by kernel_rfl) (by kernel_rfl) ?_))
    · simp only [AL, EV, seval]
    · simp only [AL, EV, seval]
    · simp only [EV, Try.results86, seval]
/- impl.IsValidPauli -/
def i_IsValidPauli_j1 (v1 : Bool) : Option Bool :=
  some v1
def i_IsValidPauli (a1 : Int) (a2 : Int) (a3 : Int) (a4 : Int) : Option Bool :=
  bO (i_in a1 1 4) fun x1 => bO (br x1 (gd (decide (¬ a1 < 0)) (bO (i_in a2 0 (IntKind.wrap .i64 ((IntKind.wrap .i64 (1 * 2 ^ min (Int.toNat a1) (IntKind.bits .i64))) - 1))) fun x2 => some x2)) (some false)) fun x3 => bO (br x3 (gd (decide (¬ a1 < 0)) (bO (i_in a3 0 (IntKind.wrap .i64 ((IntKind.wrap .i64 (1 * 2 ^ min (Int.toNat a1) (IntKind.bits .i64))) - 1))) fun x4 => some x4)) (some false)) fun x5 => bO (br x5 (bO (i_in a4 0 3) fun x6 => some x6) (some false)) fun x7 => i_IsValidPauli_j1 x7
set_option maxHeartbeats 4000000 in
theorem i_IsValidPauli_ok {a1 : Int} {a2 : Int} {a3 : Int} {a4 : Int} {r : Bool} (h : i_IsValidPauli a1 a2 a3 a4 = some r) :
    Spec Try.prog 142 [.agg [.int .i64 a1, .int .i64 a2, .int .i64 a3, .int .i64 a4]] [] (.bool r) [] := by
  unfold i_IsValidPauli at h
  refine spec_of Try.func142 rfl (by kernel_rfl) (by simp only [Try.ntmps142, List.length_cons, List.length_nil, Nat.reduceAdd, Nat.reduceLeDiff]) ?_
  intro C hN hρ
  rw [Try.ntmps142] at hN
  unfold st0
  simp only [tmps0, Nat.zero_add, Nat.reduceAdd]
  refine AW_rs (BR := BR) FM (by rw [hN]; kernel_rfl) (by kernel_rfl) ?_
  intro K hK
  simp only [EV, seval]
  refine hK _ _ _ ?_
  clear hK K
  refine AW_rsJ (BR := BR) (fun S => ∃ (v1 : Bool), S = ⟨mkT [(2, .bool v1)], mkR [], 64⟩ ∧ i_IsValidPauli_j1 v1 = some r) FM (by rw [hN]; kernel_rfl) (by kernel_rfl) ?_ ?_
  · intro K hK
    obtain ⟨x1, h1, h⟩ := bO_inv h
    simp only [EV, seval]
    refine rC_p (i_in_ok h1) (by simp only [AL, EV, seval]) (le_d rfl) (no_j rfl) ?_
    obtain ⟨x3, hv1, h⟩ := bO_inv h
    rcases br_inv hv1 with ⟨hc1, hv1⟩ | ⟨hc1, hv1⟩
    · obtain ⟨h7, hv1⟩ := gd_inv hv1
      replace h7 := of_decide_eq_true h7
      obtain ⟨x8, h8, hv1⟩ := bO_inv hv1
      simp only [EV, seval, hc1, h7]
      refine rC_p (i_in_ok h8) (by simp only [AL, EV, seval, hc1, h7]) (le_d rfl) (no_j rfl) ?_
      cases hv1
      obtain ⟨x10, hv4, h⟩ := bO_inv h
      rcases br_inv hv4 with ⟨hc4, hv4⟩ | ⟨hc4, hv4⟩
      · obtain ⟨h12, hv4⟩ := gd_inv hv4
        replace h12 := of_decide_eq_true h12
        obtain ⟨x13, h13, hv4⟩ := bO_inv hv4
        simp only [EV, seval, hc1, h7, hc4, h12]
        refine rC_p (i_in_ok h13) (by simp only [AL, EV, seval, hc1, h7, hc4, h12]) (le_d rfl) (no_j rfl) ?_
        cases hv4
        obtain ⟨x15, hv6, h⟩ := bO_inv h
        rcases br_inv hv6 with ⟨hc6, hv6⟩ | ⟨hc6, hv6⟩
        · obtain ⟨x16, h15, hv6⟩ := bO_inv hv6
          simp only [EV, seval, hc1, h7, hc4, h12, hc6]
          refine rC_p (i_in_ok h15) (by simp only [AL, EV, seval, hc1, h7, hc4, h12, hc6]) (le_d rfl) (no_j rfl) ?_
          cases hv6
          simp only [EV, seval, hc1, h7, hc4, h12, hc6]
          refine hK _ _ _ (show cutK _ _ _ from cutL ⟨_, rfl, h⟩ (Le_can [] [] hρ (by kernel_rfl) ?_ ?_))
          · simp only [AL, EV, seval, hc1, h7, hc4, h12, hc6]
          · simp only [AL, EV, seval, hc1, h7, hc4, h12, hc6]
        · cases hv6
          simp only [EV, seval, hc1, h7, hc4, h12, hc6]
          refine hK _ _ _ (show cutK _ _ _ from cutL ⟨_, rfl, h⟩ (Le_can [] [] hρ (by kernel_rfl) ?_ ?_))
          · simp only [AL, EV, seval, hc1, h7, hc4, h12, hc6]
          · simp only [AL, EV, seval, hc1, h7, hc4, h12, hc6]
      · cases hv4
        obtain ⟨x17, hv7, h⟩ := bO_inv h
        replace hv7 := br_f hv7
        cases hv7
        try dsimp only at h
        simp only [EV, seval, hc1, h7, hc4]
        refine hK _ _ _ (show cutK _ _ _ from cutL ⟨_, rfl, h⟩ (Le_can [] [] hρ (by kernel_rfl) ?_ ?_))
        · simp only [AL, EV, seval, hc1, h7, hc4]
        · simp only [AL, EV, seval, hc1, h7, hc4]
    · cases hv1
      obtain ⟨x18, hv8, h⟩ := bO_inv h
      replace hv8 := br_f hv8
      cases hv8
      try dsimp only at h
      obtain ⟨x19, hv9, h⟩ := bO_inv h
      replace hv9 := br_f hv9
      cases hv9
      try dsimp only at h
      simp only [EV, seval, hc1]
      refine hK _ _ _ (show cutK _ _ _ from cutL ⟨_, rfl, h⟩ (Le_can [] [] hρ (by kernel_rfl) ?_ ?_))
      · simp only [AL, EV, seval, hc1]
      · simp only [AL, EV, seval, hc1]
  · rintro S ⟨v1, rfl, h⟩
    unfold i_IsValidPauli_j1 at h
    injection h with h
    subst h
    refine AW_le (Le_can (lt := [(2, .bool v1)]) (lr := []) (b' := 64) [] [] hρ (by kernel_rfl) ?_ ?_) (AW_ret (end_q [] (.inr rfl) (by kernel_rfl) (by kernel_rfl) ?_))
    · simp only [AL, EV, seval]
    · simp only [AL, EV, seval]
    · simp only [EV, Try.results142, seval]
/- spec.IsValidPauli -/
def s_IsValidPauli_j1 (v1 : Bool) : Option Bool :=
  some v1
def s_IsValidPauli (a1 : Int) (a2 : Int) (a3 : Int) (a4 : Int) : Option Bool :=
  bO (s_l1In a1 1 4) fun x1 => br (!x1) (some false) (gd (decide (¬ (IntKind.wrap .u64 a1) < 0)) (bO (s_l1In a2 0 (IntKind.wrap .i64 ((IntKind.wrap .i64 (1 * 2 ^ min (Int.toNat (IntKind.wrap .u64 a1)) (IntKind.bits .i64))) - 1))) fun x2 => bO (br x2 (bO (s_l1In a3 0 (IntKind.wrap .i64 ((IntKind.wrap .i64 (1 * 2 ^ min (Int.toNat (IntKind.wrap .u64 a1)) (IntKind.bits .i64))) - 1))) fun x3 => some x3) (some false)) fun x4 => bO (br x4 (bO (s_l1In a4 0 3) fun x5 => some x5) (some false)) fun x6 => s_IsValidPauli_j1 x6))
set_option maxHeartbeats 4000000 in
theorem s_IsValidPauli_ok {a1 : Int} {a2 : Int} {a3 : Int} {a4 : Int} {r : Bool} (h : s_IsValidPauli a1 a2 a3 a4 = some r) :
    Spec Try.prog 139 [.agg [.int .i64 a1, .int .i64 a2, .int .i64 a3, .int .i64 a4]] [] (.bool r) [] := by
  unfold s_IsValidPauli at h
  refine spec_of Try.func139 rfl (by kernel_rfl) (by simp only [Try.ntmps139, List.length_cons, List.length_nil, Nat.reduceAdd, Nat.reduceLeDiff]) ?_
  intro C hN hρ
  rw [Try.ntmps139] at hN
  unfold st0
  simp only [tmps0, Nat.zero_add, Nat.reduceAdd]
  refine AW_rs (BR := BR) FM (by rw [hN]; kernel_rfl) (by kernel_rfl) ?_
  intro K hK
  simp only [EV, seval]
  refine hK _ _ _ ?_
  clear hK K
  refine AW_seq ?_
  refine AW_rs (BR := BR) FM (by rw [hN]; kernel_rfl) (by kernel_rfl) ?_
  intro K hK
  obtain ⟨x1, h1, h⟩ := bO_inv h
  simp only [EV, seval]
  refine rC_p (s_l1In_ok h1) (by simp only [AL, EV, seval]) (le_d rfl) (no_j rfl) ?_
  simp only [EV, seval]
  refine hK _ _ _ ?_
  clear hK K
  refine AW_condK (a := .bool (!x1)) (by simp only [EV, seval]) (brK h (fun hc1 h => ?_) (fun hc1 h => ?_))
  · refine AW_rs (BR := BR) FM (by rw [hN]; kernel_rfl) (by kernel_rfl) ?_
    intro K hK
    simp only [EV, seval]
    refine hK _ _ _ ?_
    clear hK K
    injection h with h
    subst h
    refine AW_le (Le_can (lt := [(2, .bool false)]) (lr := []) (b' := 64) [] [] hρ (by kernel_rfl) ?_ ?_) (AW_ret (end_q [] (.inr rfl) (by kernel_rfl) (by kernel_rfl) ?_))
    · simp only [AL, EV, seval]
    · simp only [AL, EV, seval]
    · simp only [EV, Try.results139, seval]
  · refine AW_skip (show AW _ _ _ _ _ from ?_)
    refine AW_rs (BR := BR) FM (by rw [hN]; kernel_rfl) (by kernel_rfl) ?_
    intro K hK
    obtain ⟨h2, h⟩ := gd_inv h
    replace h2 := of_decide_eq_true h2
    simp only [EV, seval, h2]
    refine hK _ _ _ ?_
    clear hK K
    refine AW_rsJ (BR := BR) (fun S => ∃ (v1 : Bool), S = ⟨mkT [(2, .bool v1)], mkR [], 64⟩ ∧ s_IsValidPauli_j1 v1 = some r) FM (by rw [hN]; kernel_rfl) (by kernel_rfl) ?_ ?_
    · intro K hK
      obtain ⟨x2, h3, h⟩ := bO_inv h
      simp only [EV, seval]
      refine rC_p (s_l1In_ok h3) (by simp only [AL, EV, seval]) (le_d rfl) (no_j rfl) ?_
      obtain ⟨x4, hv1, h⟩ := bO_inv h
      rcases br_inv hv1 with ⟨hc2, hv1⟩ | ⟨hc2, hv1⟩
      · obtain ⟨x7, h6, hv1⟩ := bO_inv hv1
        simp only [EV, seval, hc2]
        refine rC_p (s_l1In_ok h6) (by simp only [AL, EV, seval, hc2]) (le_d rfl) (no_j rfl) ?_
        cases hv1
        obtain ⟨x9, hv3, h⟩ := bO_inv h
        rcases br_inv hv3 with ⟨hc4, hv3⟩ | ⟨hc4, hv3⟩
        · obtain ⟨x10, h8, hv3⟩ := bO_inv hv3
          simp only [EV, seval, hc2, hc4]
          refine rC_p (s_l1In_ok h8) (by simp only [AL, EV, seval, hc2, hc4]) (le_d rfl) (no_j rfl) ?_
          cases hv3
          simp only [EV, seval, hc2, hc4]
          refine hK _ _ _ (show cutK _ _ _ from cutL ⟨_, rfl, h⟩ (Le_can [] [] hρ (by kernel_rfl) ?_ ?_))
          · simp only [AL, EV, seval, hc2, hc4]
          · simp only [AL, EV, seval, hc2, hc4]
        · cases hv3
          simp only [EV, seval, hc2, hc4]
          refine hK _ _ _ (show cutK _ _ _ from cutL ⟨_, rfl, h⟩ (Le_can [] [] hρ (by kernel_rfl) ?_ ?_))
          · simp only [AL, EV, seval, hc2, hc4]
          · simp only [AL, EV, seval, hc2, hc4]
      · cases hv1
        obtain ⟨x11, hv4, h⟩ := bO_inv h
        replace hv4 := br_f hv4
        cases hv4
        try dsimp only at h
        simp only [EV, seval, hc2]
        refine hK _ _ _ (show cutK _ _ _ from cutL ⟨_, rfl, h⟩ (Le_can [] [] hρ (by kernel_rfl) ?_ ?_))
        · simp only [AL, EV, seval, hc2]
        · simp only [AL, EV, seval, hc2]
    · rintro S ⟨v1, rfl, h⟩
      unfold s_IsValidPauli_j1 at h
      injection h with h
      subst h
      refine AW_le (Le_can (lt := [(2, .bool v1)]) (lr := []) (b' := 64) [] [] hρ (by kernel_rfl) ?_ ?_) (AW_ret (end_q [] (.inr rfl) (by kernel_rfl) (by kernel_rfl) ?_))
      · simp only [AL, EV, seval, h2]
      · simp only [AL, EV, seval, h2]
      · simp only [EV, Try.results139, seval]
/- math/bits.OnesCount64 -/
def math_bits_OnesCount64 (a1 : Int) : Option Int :=
  some (bits .and .i64 (IntKind.wrap .i64 (IntKind.wrap .u64 ((IntKind.wrap .u64 ((IntKind.wrap .u64 ((bits .and .u64 (IntKind.wrap .u64 ((Int.fdiv (IntKind.wrap .u64 ((bits .and .u64 (Int.fdiv (IntKind.wrap .u64 ((bits .and .u64 (Int.fdiv a1 (2 ^ min (Int.toNat 1) (IntKind.bits .u64))) 6148914691236517205) + (bits .and .u64 a1 6148914691236517205))) (2 ^ min (Int.toNat 2) (IntKind.bits .u64))) 3689348814741910323) + (bits .and .u64 (IntKind.wrap .u64 ((bits .and .u64 (Int.fdiv a1 (2 ^ min (Int.toNat 1) (IntKind.bits .u64))) 6148914691236517205) + (bits .and .u64 a1 6148914691236517205))) 3689348814741910323))) (2 ^ min (Int.toNat 4) (IntKind.bits .u64))) + (IntKind.wrap .u64 ((bits .and .u64 (Int.fdiv (IntKind.wrap .u64 ((bits .and .u64 (Int.fdiv a1 (2 ^ min (Int.toNat 1) (IntKind.bits .u64))) 6148914691236517205) + (bits .and .u64 a1 6148914691236517205))) (2 ^ min (Int.toNat 2) (IntKind.bits .u64))) 3689348814741910323) + (bits .and .u64 (IntKind.wrap .u64 ((bits .and .u64 (Int.fdiv a1 (2 ^ min (Int.toNat 1) (IntKind.bits .u64))) 6148914691236517205) + (bits .and .u64 a1 6148914691236517205))) 3689348814741910323))))) 1085102592571150095) + (Int.fdiv (bits .and .u64 (IntKind.wrap .u64 ((Int.fdiv (IntKind.wrap .u64 ((bits .and .u64 (Int.fdiv (IntKind.wrap .u64 ((bits .and .u64 (Int.fdiv a1 (2 ^ min (Int.toNat 1) (IntKind.bits .u64))) 6148914691236517205) + (bits .and .u64 a1 6148914691236517205))) (2 ^ min (Int.toNat 2) (IntKind.bits .u64))) 3689348814741910323) + (bits .and .u64 (IntKind.wrap .u64 ((bits .and .u64 (Int.fdiv a1 (2 ^ min (Int.toNat 1) (IntKind.bits .u64))) 6148914691236517205) + (bits .and .u64 a1 6148914691236517205))) 3689348814741910323))) (2 ^ min (Int.toNat 4) (IntKind.bits .u64))) + (IntKind.wrap .u64 ((bits .and .u64 (Int.fdiv (IntKind.wrap .u64 ((bits .and .u64 (Int.fdiv a1 (2 ^ min (Int.toNat 1) (IntKind.bits .u64))) 6148914691236517205) + (bits .and .u64 a1 6148914691236517205))) (2 ^ min (Int.toNat 2) (IntKind.bits .u64))) 3689348814741910323) + (bits .and .u64 (IntKind.wrap .u64 ((bits .and .u64 (Int.fdiv a1 (2 ^ min (Int.toNat 1) (IntKind.bits .u64))) 6148914691236517205) + (bits .and .u64 a1 6148914691236517205))) 3689348814741910323))))) 1085102592571150095) (2 ^ min (Int.toNat 8) (IntKind.bits .u64))))) + (Int.fdiv (IntKind.wrap .u64 ((bits .and .u64 (IntKind.wrap .u64 ((Int.fdiv (IntKind.wrap .u64 ((bits .and .u64 (Int.fdiv (IntKind.wrap .u64 ((bits .and .u64 (Int.fdiv a1 (2 ^ min (Int.toNat 1) (IntKind.bits .u64))) 6148914691236517205) + (bits .and .u64 a1 6148914691236517205))) (2 ^ min (Int.toNat 2) (IntKind.bits .u64))) 3689348814741910323) + (bits .and .u64 (IntKind.wrap .u64 ((bits .and .u64 (Int.fdiv a1 (2 ^ min (Int.toNat 1) (IntKind.bits .u64))) 6148914691236517205) + (bits .and .u64 a1 6148914691236517205))) 3689348814741910323))) (2 ^ min (Int.toNat 4) (IntKind.bits .u64))) + (IntKind.wrap .u64 ((bits .and .u64 (Int.fdiv (IntKind.wrap .u64 ((bits .and .u64 (Int.fdiv a1 (2 ^ min (Int.toNat 1) (IntKind.bits .u64))) 6148914691236517205) + (bits .and .u64 a1 6148914691236517205))) (2 ^ min (Int.toNat 2) (IntKind.bits .u64))) 3689348814741910323) + (bits .and .u64 (IntKind.wrap .u64 ((bits .and .u64 (Int.fdiv a1 (2 ^ min (Int.toNat 1) (IntKind.bits .u64))) 6148914691236517205) + (bits .and .u64 a1 6148914691236517205))) 3689348814741910323))))) 1085102592571150095) + (Int.fdiv (bits .and .u64 (IntKind.wrap .u64 ((Int.fdiv (IntKind.wrap .u64 ((bits .and .u64 (Int.fdiv (IntKind.wrap .u64 ((bits .and .u64 (Int.fdiv a1 (2 ^ min (Int.toNat 1) (IntKind.bits .u64))) 6148914691236517205) + (bits .and .u64 a1 6148914691236517205))) (2 ^ min (Int.toNat 2) (IntKind.bits .u64))) 3689348814741910323) + (bits .and .u64 (IntKind.wrap .u64 ((bits .and .u64 (Int.fdiv a1 (2 ^ min (Int.toNat 1) (IntKind.bits .u64))) 6148914691236517205) + (bits .and .u64 a1 6148914691236517205))) 3689348814741910323))) (2 ^ min (Int.toNat 4) (IntKind.bits .u64))) + (IntKind.wrap .u64 ((bits .and .u64 (Int.fdiv (IntKind.wrap .u64 ((bits .and .u64 (Int.fdiv a1 (2 ^ min (Int.toNat 1) (IntKind.bits .u64))) 6148914691236517205) + (bits .and .u64 a1 6148914691236517205))) (2 ^ min (Int.toNat 2) (IntKind.bits .u64))) 3689348814741910323) + (bits .and .u64 (IntKind.wrap .u64 ((bits .and .u64 (Int.fdiv a1 (2 ^ min (Int.toNat 1) (IntKind.bits .u64))) 6148914691236517205) + (bits .and .u64 a1 6148914691236517205))) 3689348814741910323))))) 1085102592571150095) (2 ^ min (Int.toNat 8) (IntKind.bits .u64))))) (2 ^ min (Int.toNat 16) (IntKind.bits .u64))))) + (Int.fdiv (IntKind.wrap .u64 ((IntKind.wrap .u64 ((bits .and .u64 (IntKind.wrap .u64 ((Int.fdiv (IntKind.wrap .u64 ((bits .and .u64 (Int.fdiv (IntKind.wrap .u64 ((bits .and .u64 (Int.fdiv a1 (2 ^ min (Int.toNat 1) (IntKind.bits .u64))) 6148914691236517205) + (bits .and .u64 a1 6148914691236517205))) (2 ^ min (Int.toNat 2) (IntKind.bits .u64))) 3689348814741910323) + (bits .and .u64 (IntKind.wrap .u64 ((bits .and .u64 (Int.fdiv a1 (2 ^ min (Int.toNat 1) (IntKind.bits .u64))) 6148914691236517205) + (bits .and .u64 a1 6148914691236517205))) 3689348814741910323))) (2 ^ min (Int.toNat 4) (IntKind.bits .u64))) + (IntKind.wrap .u64 ((bits .and .u64 (Int.fdiv (IntKind.wrap .u64 ((bits .and .u64 (Int.fdiv a1 (2 ^ min (Int.toNat 1) (IntKind.bits .u64))) 6148914691236517205) + (bits .and .u64 a1 6148914691236517205))) (2 ^ min (Int.toNat 2) (IntKind.bits .u64))) 3689348814741910323) + (bits .and .u64 (IntKind.wrap .u64 ((bits .and .u64 (Int.fdiv a1 (2 ^ min (Int.toNat 1) (IntKind.bits .u64))) 6148914691236517205) + (bits .and .u64 a1 6148914691236517205))) 3689348814741910323))))) 1085102592571150095) + (Int.fdiv (bits .and .u64 (IntKind.wrap .u64 ((Int.fdiv (IntKind.wrap .u64 ((bits .and .u64 (Int.fdiv (IntKind.wrap .u64 ((bits .and .u64 (Int.fdiv a1 (2 ^ min (Int.toNat 1) (IntKind.bits .u64))) 6148914691236517205) + (bits .and .u64 a1 6148914691236517205))) (2 ^ min (Int.toNat 2) (IntKind.bits .u64))) 3689348814741910323) + (bits .and .u64 (IntKind.wrap .u64 ((bits .and .u64 (Int.fdiv a1 (2 ^ min (Int.toNat 1) (IntKind.bits .u64))) 6148914691236517205) + (bits .and .u64 a1 6148914691236517205))) 3689348814741910323))) (2 ^ min (Int.toNat 4) (IntKind.bits .u64))) + (IntKind.wrap .u64 ((bits .and .u64 (Int.fdiv (IntKind.wrap .u64 ((bits .and .u64 (Int.fdiv a1 (2 ^ min (Int.toNat 1) (IntKind.bits .u64))) 6148914691236517205) + (bits .and .u64 a1 6148914691236517205))) (2 ^ min (Int.toNat 2) (IntKind.bits .u64))) 3689348814741910323) + (bits .and .u64 (IntKind.wrap .u64 ((bits .and .u64 (Int.fdiv a1 (2 ^ min (Int.toNat 1) (IntKind.bits .u64))) 6148914691236517205) + (bits .and .u64 a1 6148914691236517205))) 3689348814741910323))))) 1085102592571150095) (2 ^ min (Int.toNat 8) (IntKind.bits .u64))))) + (Int.fdiv (IntKind.wrap .u64 ((bits .and .u64 (IntKind.wrap .u64 ((Int.fdiv (IntKind.wrap .u64 ((bits .and .u64 (Int.fdiv (IntKind.wrap .u64 ((bits .and .u64 (Int.fdiv a1 (2 ^ min (Int.toNat 1) (IntKind.bits .u64))) 6148914691236517205) + (bits .and .u64 a1 6148914691236517205))) (2 ^ min (Int.toNat 2) (IntKind.bits .u64))) 3689348814741910323) + (bits .and .u64 (IntKind.wrap .u64 ((bits .and .u64 (Int.fdiv a1 (2 ^ min (Int.toNat 1) (IntKind.bits .u64))) 6148914691236517205) + (bits .and .u64 a1 6148914691236517205))) 3689348814741910323))) (2 ^ min (Int.toNat 4) (IntKind.bits .u64))) + (IntKind.wrap .u64 ((bits .and .u64 (Int.fdiv (IntKind.wrap .u64 ((bits .and .u64 (Int.fdiv a1 (2 ^ min (Int.toNat 1) (IntKind.bits .u64))) 6148914691236517205) + (bits .and .u64 a1 6148914691236517205))) (2 ^ min (Int.toNat 2) (IntKind.bits .u64))) 3689348814741910323) + (bits .and .u64 (IntKind.wrap .u64 ((bits .and .u64 (Int.fdiv a1 (2 ^ min (Int.toNat 1) (IntKind.bits .u64))) 6148914691236517205) + (bits .and .u64 a1 6148914691236517205))) 3689348814741910323))))) 1085102592571150095) + (Int.fdiv (bits .and .u64 (IntKind.wrap .u64 ((Int.fdiv (IntKind.wrap .u64 ((bits .and .u64 (Int.fdiv (IntKind.wrap .u64 ((bits .and .u64 (Int.fdiv a1 (2 ^ min (Int.toNat 1) (IntKind.bits .u64))) 6148914691236517205) + (bits .and .u64 a1 6148914691236517205))) (2 ^ min (Int.toNat 2) (IntKind.bits .u64))) 3689348814741910323) + (bits .and .u64 (IntKind.wrap .u64 ((bits .and .u64 (Int.fdiv a1 (2 ^ min (Int.toNat 1) (IntKind.bits .u64))) 6148914691236517205) + (bits .and .u64 a1 6148914691236517205))) 3689348814741910323))) (2 ^ min (Int.toNat 4) (IntKind.bits .u64))) + (IntKind.wrap .u64 ((bits .and .u64 (Int.fdiv (IntKind.wrap .u64 ((bits .and .u64 (Int.fdiv a1 (2 ^ min (Int.toNat 1) (IntKind.bits .u64))) 6148914691236517205) + (bits .and .u64 a1 6148914691236517205))) (2 ^ min (Int.toNat 2) (IntKind.bits .u64))) 3689348814741910323) + (bits .and .u64 (IntKind.wrap .u64 ((bits .and .u64 (Int.fdiv a1 (2 ^ min (Int.toNat 1) (IntKind.bits .u64))) 6148914691236517205) + (bits .and .u64 a1 6148914691236517205))) 3689348814741910323))))) 1085102592571150095) (2 ^ min (Int.toNat 8) (IntKind.bits .u64))))) (2 ^ min (Int.toNat 16) (IntKind.bits .u64))))) (2 ^ min (Int.toNat 32) (IntKind.bits .u64)))))) 127)
set_option maxHeartbeats 4000000 in
theorem math_bits_OnesCount64_ok {a1 : Int} {r : Int} (h : math_bits_OnesCount64 a1 = some r) :
    Spec Try.prog 170 [.int .u64 a1] [] (.int .i64 r) [] := by
  unfold math_bits_OnesCount64 at h
  refine spec_of Try.func170 rfl (by kernel_rfl) (by simp only [Try.ntmps170, List.length_cons, List.length_nil, Nat.reduceAdd, Nat.reduceLeDiff]) ?_
  intro C hN hρ
  rw [Try.ntmps170] at hN
  unfold st0
  simp only [tmps0, Nat.zero_add, Nat.reduceAdd]
  refine AW_rs (BR := BR) FM (by rw [hN]; kernel_rfl) (by kernel_rfl) ?_
  intro K hK
  simp only [EV, seval]
  refine hK _ _ _ ?_
  clear hK K
  refine AW_rs (BR := BR) FM (by rw [hN]; kernel_rfl) (by kernel_rfl) ?_
  intro K hK
  simp only [EV, seval]
  refine hK _ _ _ ?_
  clear hK K
  refine AW_rs (BR := BR) FM (by rw [hN]; kernel_rfl) (by kernel_rfl) ?_
  intro K hK
  simp only [EV, seval]
  refine hK _ _ _ ?_
  clear hK K
  refine AW_rs (BR := BR) FM (by rw [hN]; kernel_rfl) (by kernel_rfl) ?_
  intro K hK
  simp only [EV, seval]
  refine hK _ _ _ ?_
  clear hK K
  refine AW_rs (BR := BR) FM (by rw [hN]; kernel_rfl) (by kernel_rfl) ?_
  intro K hK
  simp only [EV, seval]
  refine hK _ _ _ ?_
  clear hK K
  refine AW_rs (BR := BR) FM (by rw [hN]; kernel_rfl) (by kernel_rfl) ?_
  intro K hK
  simp only [EV, seval]
  refine hK _ _ _ ?_
  clear hK K
  refine AW_rs (BR := BR) FM (by rw [hN]; kernel_rfl) (by kernel_rfl) ?_
  intro K hK
  simp only [EV, seval]
  refine hK _ _ _ ?_
  clear hK K
  refine AW_rs (BR := BR) FM (by rw [hN]; kernel_rfl) (by kernel_rfl) ?_
  intro K hK
  simp only [EV, seval]
  refine hK _ _ _ ?_
  clear hK K
  injection h with h
  subst h
  refine AW_le (Le_can (lt := [(2, .int .i64 (bits .and .i64 (IntKind.wrap .i64 (IntKind.wrap .u64 ((IntKind.wrap .u64 ((IntKind.wrap .u64 ((bits .and .u64 (IntKind.wrap .u64 ((Int.fdiv (IntKind.wrap .u64 ((bits .and .u64 (Int.fdiv (IntKind.wrap .u64 ((bits .and .u64 (Int.fdiv a1 (2 ^ min (Int.toNat 1) (IntKind.bits .u64))) 6148914691236517205) + (bits .and .u64 a1 6148914691236517205))) (2 ^ min (Int.toNat 2) (IntKind.bits .u64))) 3689348814741910323) + (bits .and .u64 (IntKind.wrap .u64 ((bits .and .u64 (Int.fdiv a1 (2 ^ min (Int.toNat 1) (IntKind.bits .u64))) 6148914691236517205) + (bits .and .u64 a1 6148914691236517205))) 3689348814741910323))) (2 ^ min (Int.toNat 4) (IntKind.bits .u64))) + (IntKind.wrap .u64 ((bits .and .u64 (Int.fdiv (IntKind.wrap .u64 ((bits .and .u64 (Int.fdiv a1 (2 ^ min (Int.toNat 1) (IntKind.bits .u64))) 6148914691236517205) + (bits .and .u64 a1 6148914691236517205))) (2 ^ min (Int.toNat 2) (IntKind.bits .u64))) 3689348814741910323) + (bits .and .u64 (IntKind.wrap .u64 ((bits .and .u64 (Int.fdiv a1 (2 ^ min (Int.toNat 1) (IntKind.bits .u64))) 6148914691236517205) + (bits .and .u64 a1 6148914691236517205))) 3689348814741910323))))) 1085102592571150095) + (Int.fdiv (bits .and .u64 (IntKind.wrap .u64 ((Int.fdiv (IntKind.wrap .u64 ((bits .and .u64 (Int.fdiv (IntKind.wrap .u64 ((bits .and .u64 (Int.fdiv a1 (2 ^ min (Int.toNat 1) (IntKind.bits .u64))) 6148914691236517205) + (bits .and .u64 a1 6148914691236517205))) (2 ^ min (Int.toNat 2) (IntKind.bits .u64))) 3689348814741910323) + (bits .and .u64 (IntKind.wrap .u64 ((bits .and .u64 (Int.fdiv a1 (2 ^ min (Int.toNat 1) (IntKind.bits .u64))) 6148914691236517205) + (bits .and .u64 a1 6148914691236517205))) 3689348814741910323))) (2 ^ min (Int.toNat 4) (IntKind.bits .u64))) + (IntKind.wrap .u64 ((bits .and .u64 (Int.fdiv (IntKind.wrap .u64 ((bits .and .u64 (Int.fdiv a1 (2 ^ min (Int.toNat 1) (IntKind.bits .u64))) 6148914691236517205) + (bits .and .u64 a1 6148914691236517205))) (2 ^ min (Int.toNat 2) (IntKind.bits .u64))) 3689348814741910323) + (bits .and .u64 (IntKind.wrap .u64 ((bits .and .u64 (Int.fdiv a1 (2 ^ min (Int.toNat 1) (IntKind.bits .u64))) 6148914691236517205) + (bits .and .u64 a1 6148914691236517205))) 3689348814741910323))))) 1085102592571150095) (2 ^ min (Int.toNat 8) (IntKind.bits .u64))))) + (Int.fdiv (IntKind.wrap .u64 ((bits .and .u64 (IntKind.wrap .u64 ((Int.fdiv (IntKind.wrap .u64 ((bits .and .u64 (Int.fdiv (IntKind.wrap .u64 ((bits .and .u64 (Int.fdiv a1 (2 ^ min (Int.toNat 1) (IntKind.bits .u64))) 6148914691236517205) + (bits .and .u64 a1 6148914691236517205))) (2 ^ min (Int.toNat 2) (IntKind.bits .u64))) 3689348814741910323) + (bits .and .u64 (IntKind.wrap .u64 ((bits .and .u64 (Int.fdiv a1 (2 ^ min (Int.toNat 1) (IntKind.bits .u64))) 6148914691236517205) + (bits .and .u64 a1 6148914691236517205))) 3689348814741910323))) (2 ^ min (Int.toNat 4) (IntKind.bits .u64))) + (IntKind.wrap .u64 ((bits .and .u64 (Int.fdiv (IntKind.wrap .u64 ((bits .and .u64 (Int.fdiv a1 (2 ^ min (Int.toNat 1) (IntKind.bits .u64))) 6148914691236517205) + (bits .and .u64 a1 6148914691236517205))) (2 ^ min (Int.toNat 2) (IntKind.bits .u64))) 3689348814741910323) + (bits .and .u64 (IntKind.wrap .u64 ((bits .and .u64 (Int.fdiv a1 (2 ^ min (Int.toNat 1) (IntKind.bits .u64))) 6148914691236517205) + (bits .and .u64 a1 6148914691236517205))) 3689348814741910323))))) 1085102592571150095) + (Int.fdiv (bits .and .u64 (IntKind.wrap .u64 ((Int.fdiv (IntKind.wrap .u64 ((bits .and .u64 (Int.fdiv (IntKind.wrap .u64 ((bits .and .u64 (Int.fdiv a1 (2 ^ min (Int.toNat 1) (IntKind.bits .u64))) 6148914691236517205) + (bits .and .u64 a1 6148914691236517205))) (2 ^ min (Int.toNat 2) (IntKind.bits .u64))) 3689348814741910323) + (bits .and .u64 (IntKind.wrap .u64 ((bits .and .u64 (Int.fdiv a1 (2 ^ min (Int.toNat 1) (IntKind.bits .u64))) 6148914691236517205) + (bits .and .u64 a1 6148914691236517205))) 3689348814741910323))) (2 ^ min (Int.toNat 4) (IntKind.bits .u64))) + (IntKind.wrap .u64 ((bits .and .u64 (Int.fdiv (IntKind.wrap .u64 ((bits .and .u64 (Int.fdiv a1 (2 ^ min (Int.toNat 1) (IntKind.bits .u64))) 6148914691236517205) + (bits .and .u64 a1 6148914691236517205))) (2 ^ min (Int.toNat 2) (IntKind.bits .u64))) 3689348814741910323) + (bits .and .u64 (IntKind.wrap .u64 ((bits .and .u64 (Int.fdiv a1 (2 ^ min (Int.toNat 1) (IntKind.bits .u64))) 6148914691236517205) + (bits .and .u64 a1 6148914691236517205))) 3689348814741910323))))) 1085102592571150095) (2 ^ min (Int.toNat 8) (IntKind.bits .u64))))) (2 ^ min (Int.toNat 16) (IntKind.bits .u64))))) + (Int.fdiv (IntKind.wrap .u64 ((IntKind.wrap .u64 ((bits .and .u64 (IntKind.wrap .u64 ((Int.fdiv (IntKind.wrap .u64 ((bits .and .u64 (Int.fdiv (IntKind.wrap .u64 ((bits .and .u64 (Int.fdiv a1 (2 ^ min (Int.toNat 1) (IntKind.bits .u64))) 6148914691236517205) + (bits .and .u64 a1 6148914691236517205))) (2 ^ min (Int.toNat 2) (IntKind.bits .u64))) 3689348814741910323) + (bits .and .u64 (IntKind.wrap .u64 ((bits .and .u64 (Int.fdiv a1 (2 ^ min (Int.toNat 1) (IntKind.bits .u64))) 6148914691236517205) + (bits .and .u64 a1 6148914691236517205))) 3689348814741910323))) (2 ^ min (Int.toNat 4) (IntKind.bits .u64))) + (IntKind.wrap .u64 ((bits .and .u64 (Int.fdiv (IntKind.wrap .u64 ((bits .and .u64 (Int.fdiv a1 (2 ^ min (Int.toNat 1) (IntKind.bits .u64))) 6148914691236517205) + (bits .and .u64 a1 6148914691236517205))) (2 ^ min (Int.toNat 2) (IntKind.bits .u64))) 3689348814741910323) + (bits .and .u64 (IntKind.wrap .u64 ((bits .and .u64 (Int.fdiv a1 (2 ^ min (Int.toNat 1) (IntKind.bits .u64))) 6148914691236517205) + (bits .and .u64 a1 6148914691236517205))) 3689348814741910323))))) 1085102592571150095) + (Int.fdiv (bits .and .u64 (IntKind.wrap .u64 ((Int.fdiv (IntKind.wrap .u64 ((bits .and .u64 (Int.fdiv (IntKind.wrap .u64 ((bits .and .u64 (Int.fdiv a1 (2 ^ min (Int.toNat 1) (IntKind.bits .u64))) 6148914691236517205) + (bits .and .u64 a1 6148914691236517205))) (2 ^ min (Int.toNat 2) (IntKind.bits .u64))) 3689348814741910323) + (bits .and .u64 (IntKind.wrap .u64 ((bits .and .u64 (Int.fdiv a1 (2 ^ min (Int.toNat 1) (IntKind.bits .u64))) 6148914691236517205) + (bits .and .u64 a1 6148914691236517205))) 3689348814741910323))) (2 ^ min (Int.toNat 4) (IntKind.bits .u64))) + (IntKind.wrap .u64 ((bits .and .u64 (Int.fdiv (IntKind.wrap .u64 ((bits .and .u64 (Int.fdiv a1 (2 ^ min (Int.toNat 1) (IntKind.bits .u64))) 6148914691236517205) + (bits .and .u64 a1 6148914691236517205))) (2 ^ min (Int.toNat 2) (IntKind.bits .u64))) 3689348814741910323) + (bits .and .u64 (IntKind.wrap .u64 ((bits .and .u64 (Int.fdiv a1 (2 ^ min (Int.toNat 1) (IntKind.bits .u64))) 6148914691236517205) + (bits .and .u64 a1 6148914691236517205))) 3689348814741910323))))) 1085102592571150095) (2 ^ min (Int.toNat 8) (IntKind.bits .u64))))) + (Int.fdiv (IntKind.wrap .u64 ((bits .and .u64 (IntKind.wrap .u64 ((Int.fdiv (IntKind.wrap .u64 ((bits .and .u64 (Int.fdiv (IntKind.wrap .u64 ((bits .and .u64 (Int.fdiv a1 (2 ^ min (Int.toNat 1) (IntKind.bits .u64))) 6148914691236517205) + (bits .and .u64 a1 6148914691236517205))) (2 ^ min (Int.toNat 2) (IntKind.bits .u64))) 3689348814741910323) + (bits .and .u64 (IntKind.wrap .u64 ((bits .and .u64 (Int.fdiv a1 (2 ^ min (Int.toNat 1) (IntKind.bits .u64))) 6148914691236517205) + (bits .and .u64 a1 6148914691236517205))) 3689348814741910323))) (2 ^ min (Int.toNat 4) (IntKind.bits .u64))) + (IntKind.wrap .u64 ((bits .and .u64 (Int.fdiv (IntKind.wrap .u64 ((bits .and .u64 (Int.fdiv a1 (2 ^ min (Int.toNat 1) (IntKind.bits .u64))) 6148914691236517205) + (bits .and .u64 a1 6148914691236517205))) (2 ^ min (Int.toNat 2) (IntKind.bits .u64))) 3689348814741910323) + (bits .and .u64 (IntKind.wrap .u64 ((bits .and .u64 (Int.fdiv a1 (2 ^ min (Int.toNat 1) (IntKind.bits .u64))) 6148914691236517205) + (bits .and .u64 a1 6148914691236517205))) 3689348814741910323))))) 1085102592571150095) + (Int.fdiv (bits .and .u64 (IntKind.wrap .u64 ((Int.fdiv (IntKind.wrap .u64 ((bits .and .u64 (Int.fdiv (IntKind.wrap .u64 ((bits .and .u64 (Int.fdiv a1 (2 ^ min (Int.toNat 1) (IntKind.bits .u64))) 6148914691236517205) + (bits .and .u64 a1 6148914691236517205))) (2 ^ min (Int.toNat 2) (IntKind.bits .u64))) 3689348814741910323) + (bits .and .u64 (IntKind.wrap .u64 ((bits .and .u64 (Int.fdiv a1 (2 ^ min (Int.toNat 1) (IntKind.bits .u64))) 6148914691236517205) + (bits .and .u64 a1 6148914691236517205))) 3689348814741910323))) (2 ^ min (Int.toNat 4) (IntKind.bits .u64))) + (IntKind.wrap .u64 ((bits .and .u64 (Int.fdiv (IntKind.wrap .u64 ((bits .and .u64 (Int.fdiv a1 (2 ^ min (Int.toNat 1) (IntKind.bits .u64))) 6148914691236517205) + (bits .and .u64 a1 6148914691236517205))) (2 ^ min (Int.toNat 2) (IntKind.bits .u64))) 3689348814741910323) + (bits .and .u64 (IntKind.wrap .u64 ((bits .and .u64 (Int.fdiv a1 (2 ^ min (Int.toNat 1) (IntKind.bits .u64))) 6148914691236517205) + (bits .and .u64 a1 6148914691236517205))) 3689348814741910323))))) 1085102592571150095) (2 ^ min (Int.toNat 8) (IntKind.bits .u64))))) (2 ^ min (Int.toNat 16) (IntKind.bits .u64))))) (2 ^ min (Int.toNat 32) (IntKind.bits .u64)))))) 127))]) (lr := []) (b' := 64) [] [] hρ (by kernel_rfl) ?_ ?_) (AW_ret (end_q [] (.inr rfl) (by kernel_rfl) (by kernel_rfl) ?_))
  · simp only [AL, EV, seval]
  · simp only [AL, EV, seval]
  · simp only [EV, Try.results170, seval]
/- math/bits.OnesCount -/
def math_bits_OnesCount (a1 : Int) : Option Int :=
  bO (math_bits_OnesCount64 a1) fun x1 => some x1
set_option maxHeartbeats 4000000 in
theorem math_bits_OnesCount_ok {a1 : Int} {r : Int} (h : math_bits_OnesCount a1 = some r) :
    Spec Try.prog 167 [.int .u64 a1] [] (.int .i64 r) [] := by
  unfold math_bits_OnesCount at h
  refine spec_of Try.func167 rfl (by kernel_rfl) (by simp only [Try.ntmps167, List.length_cons, List.length_nil, Nat.reduceAdd, Nat.reduceLeDiff]) ?_
  intro C hN hρ
  rw [Try.ntmps167] at hN
  unfold st0
  simp only [tmps0, Nat.zero_add, Nat.reduceAdd]
  refine AW_rs (BR := BR) FM (by rw [hN]; kernel_rfl) (by kernel_rfl) ?_
  intro K hK
  simp only [EV, seval]
  refine hK _ _ _ ?_
  clear hK K
  refine AW_seq ?_
  refine AW_condK (a := .bool false) (by simp only [EV, seval]) (condK_false ?_)
  refine AW_skip (show AW _ _ _ _ _ from ?_)
  refine AW_rs (BR := BR) FM (by rw [hN]; kernel_rfl) (by kernel_rfl) ?_
  intro K hK
  obtain ⟨x1, h1, h⟩ := bO_inv h
  simp only [EV, seval]
  refine rC_p (math_bits_OnesCount64_ok h1) (by simp only [AL, EV, seval]) (le_d rfl) (no_j rfl) ?_
  simp only [EV, seval]
  refine hK _ _ _ ?_
  clear hK K
  injection h with h
  subst h
  refine AW_le (Le_can (lt := [(2, .int .i64 x1)]) (lr := []) (b' := 64) [] [] hρ (by kernel_rfl) ?_ ?_) (AW_ret (end_q [] (.inr rfl) (by kernel_rfl) (by kernel_rfl) ?_))
  · simp only [AL, EV, seval]
  · simp only [AL, EV, seval]
  · simp only [EV, Try.results167, seval]
/- impl.ones -/
def i_ones (a1 : Int) : Option Int :=
  bO (math_bits_OnesCount (IntKind.wrap .u64 a1)) fun x1 => some x1
set_option maxHeartbeats 4000000 in
theorem i_ones_ok {a1 : Int} {r : Int} (h : i_ones a1 = some r) :
    Spec Try.prog 158 [.int .i64 a1] [] (.int .i64 r) [] := by
  unfold i_ones at h
  refine spec_of Try.func158 rfl (by kernel_rfl) (by simp only [Try.ntmps158, List.length_cons, List.length_nil, Nat.reduceAdd, Nat.reduceLeDiff]) ?_
  intro C hN hρ
  rw [Try.ntmps158] at hN
  unfold st0
  simp only [tmps0, Nat.zero_add, Nat.reduceAdd]
  refine AW_rs (BR := BR) FM (by rw [hN]; kernel_rfl) (by kernel_rfl) ?_
  intro K hK
  simp only [EV, seval]
  refine hK _ _ _ ?_
  clear hK K
  refine AW_rs (BR := BR) FM (by rw [hN]; kernel_rfl) (by kernel_rfl) ?_
  intro K hK
  obtain ⟨x1, h1, h⟩ := bO_inv h
  simp only [EV, seval]
  refine rC_p (math_bits_OnesCount_ok h1) (by simp only [AL, EV, seval]) (le_d rfl) (no_j rfl) ?_
  simp only [EV, seval]
  refine hK _ _ _ ?_
  clear hK K
  injection h with h
  subst h
  refine AW_le (Le_can (lt := [(2, .int .i64 x1)]) (lr := []) (b' := 64) [] [] hρ (by kernel_rfl) ?_ ?_) (AW_ret (end_q [] (.inr rfl) (by kernel_rfl) (by kernel_rfl) ?_))
  · simp only [AL, EV, seval]
  · simp only [AL, EV, seval]
  · simp only [EV, Try.results158, seval]
/- spec.l25Ones -/
def s_l25Ones_j1 (v5 : Int) : Option Int :=
  some v5
def s_l25Ones_l1 (a1 : Int) : Nat → Int → Int → Option Int
  | 0, _, _ => none
  | n1 + 1, v3, v4 =>
  br (decide (v4 < 64)) (gd (decide (¬ (IntKind.wrap .u64 v4) < 0)) ((s_l25Ones_l1 a1 n1) (IntKind.wrap .i64 (v3 + (bits .and .i64 (Int.fdiv a1 (2 ^ min (Int.toNat (IntKind.wrap .u64 v4)) (IntKind.bits .i64))) 1))) (IntKind.wrap .i64 (v4 + 1)))) (s_l25Ones_j1 v3)
def s_l25Ones (a1 : Int) : Option Int :=
  s_l25Ones_l1 a1 FU 0 0
set_option maxHeartbeats 4000000 in
theorem s_l25Ones_ok {a1 : Int} {r : Int} (h : s_l25Ones a1 = some r) :
    Spec Try.prog 140 [.int .i64 a1] [] (.int .i64 r) [] := by
  unfold s_l25Ones at h
  refine spec_of Try.func140 rfl (by kernel_rfl) (by simp only [Try.ntmps140, List.length_cons, List.length_nil, Nat.reduceAdd, Nat.reduceLeDiff]) ?_
  intro C hN hρ
  rw [Try.ntmps140] at hN
  unfold st0
  simp only [tmps0, Nat.zero_add, Nat.reduceAdd]
  refine AW_rs (BR := BR) FM (by rw [hN]; kernel_rfl) (by kernel_rfl) ?_
  intro K hK
  simp only [EV, seval]
  refine hK _ _ _ ?_
  clear hK K
  refine AW_rs (BR := BR) FM (by rw [hN]; kernel_rfl) (by kernel_rfl) ?_
  intro K hK
  simp only [EV, seval]
  refine hK _ _ _ ?_
  clear hK K
  refine AW_cutK (fun S => ∃ (v5 : Int), S = ⟨mkT [(3, .int .i64 v5)], mkR [], 64⟩ ∧ s_l25Ones_j1 v5 = some r) ?_ ?_
  · refine AW_rs (BR := BR) FM (by rw [hN]; kernel_rfl) (by kernel_rfl) ?_
    intro K hK
    simp only [EV, seval]
    refine hK _ _ _ ?_
    clear hK K
    refine AW_block ?_
    refine AW_loopF (fun n S => ∃ (v3 : Int) (v4 : Int), S = ⟨mkT [(0, .int .i64 a1), (3, .int .i64 v3), (4, .int .i64 v4)], mkR [], 64⟩ ∧ s_l25Ones_l1 a1 n v3 v4 = some r) FU ?_ ?_ ?_
    · refine cutL ⟨_, _, rfl, h⟩ (Le_can [] [] hρ (by kernel_rfl) ?_ ?_)
      · simp only [AL, EV, seval]
      · simp only [AL, EV, seval]
    · rintro S ⟨_, _, _, h⟩; rw [s_l25Ones_l1] at h; cases h
    · rintro n1 S ⟨v3, v4, rfl, h⟩
      rw [s_l25Ones_l1] at h
      refine AW_seq ?_
      refine AW_rs (BR := BR) FM (by rw [hN]; kernel_rfl) (by kernel_rfl) ?_
      intro K hK
      simp only [EV, seval]
      refine hK _ _ _ ?_
      clear hK K
      refine AW_condK (a := .bool (decide (v4 < 64))) (by simp only [EV, seval]) (brK h (fun hc3 h => ?_) (fun hc3 h => ?_))
      · refine AW_skip (show AW _ _ _ _ _ from ?_)
        refine AW_seq ?_
        refine AW_block ?_
        refine AW_re (BR := BR) FM (by rw [hN]; kernel_rfl) (by kernel_rfl) ?_
        intro K hK
        obtain ⟨h3, h⟩ := gd_inv h
        replace h3 := of_decide_eq_true h3
        simp only [EV, seval, h3]
        refine hK _ _ _ (show AW _ _ _ _ _ from ?_)
        refine AW_re (BR := BR) FM (by rw [hN]; kernel_rfl) (by kernel_rfl) ?_
        intro K hK
        simp only [EV, seval]
        refine hK _ _ _ (show cutK _ _ _ from cutL ⟨_, _, rfl, h⟩ (Le_can [] [] hρ (by kernel_rfl) ?_ ?_))
        · simp only [AL, EV, seval]
        · simp only [AL, EV, seval]
      · refine AW_exit (show cutK _ _ _ from cutL ⟨_, rfl, h⟩ (Le_can [] [] hρ (by kernel_rfl) ?_ ?_))
        · simp only [AL, EV, seval]
        · simp only [AL, EV, seval]
  · rintro S ⟨v5, rfl, h⟩
    unfold s_l25Ones_j1 at h
    refine AW_rs (BR := BR) FM (by rw [hN]; kernel_rfl) (by kernel_rfl) ?_
    intro K hK
    simp only [EV, seval]
    refine hK _ _ _ ?_
    clear hK K
    injection h with h
    subst h
    refine AW_le (Le_can (lt := [(2, .int .i64 v5)]) (lr := []) (b' := 64) [] [] hρ (by kernel_rfl) ?_ ?_) (AW_ret (end_q [] (.inr rfl) (by kernel_rfl) (by kernel_rfl) ?_))
    · simp only [AL, EV, seval]
    · simp only [AL, EV, seval]
    · simp only [EV, Try.results140, seval]
/- impl.IsHermitianPauli -/
def i_IsHermitianPauli_j1 (v1 : Bool) : Option Bool :=
  some v1
def i_IsHermitianPauli (a1 : Int) (a2 : Int) (a3 : Int) (a4 : Int) : Option Bool :=
  bO (i_IsValidPauli a1 a2 a3 a4) fun x1 => bO (br x1 (bO (i_ones (bits .and .i64 a2 a3)) fun x2 => some ((Int.tmod a4 2) == (Int.tmod x2 2))) (some false)) fun x3 => i_IsHermitianPauli_j1 x3
set_option maxHeartbeats 4000000 in
theorem i_IsHermitianPauli_ok {a1 : Int} {a2 : Int} {a3 : Int} {a4 : Int} {r : Bool} (h : i_IsHermitianPauli a1 a2 a3 a4 = some r) :
    Spec Try.prog 130 [.agg [.int .i64 a1, .int .i64 a2, .int .i64 a3, .int .i64 a4]] [] (.bool r) [] := by
  unfold i_IsHermitianPauli at h
  refine spec_of Try.func130 rfl (by kernel_rfl) (by simp only [Try.ntmps130, List.length_cons, List.length_nil, Nat.reduceAdd, Nat.reduceLeDiff]) ?_
  intro C hN hρ
  rw [Try.ntmps130] at hN
  unfold st0
  simp only [tmps0, Nat.zero_add, Nat.reduceAdd]
  refine AW_rs (BR := BR) FM (by rw [hN]; kernel_rfl) (by kernel_rfl) ?_
  intro K hK
  simp only [EV, seval]
  refine hK _ _ _ ?_
  clear hK K
  refine AW_rsJ (BR := BR) (fun S => ∃ (v1 : Bool), S = ⟨mkT [(2, .bool v1)], mkR [], 64⟩ ∧ i_IsHermitianPauli_j1 v1 = some r) FM (by rw [hN]; kernel_rfl) (by kernel_rfl) ?_ ?_
  · intro K hK
    obtain ⟨x1, h1, h⟩ := bO_inv h
    simp only [EV, seval]
    refine rC_p (i_IsValidPauli_ok h1) (by simp only [AL, EV, seval]) (le_d rfl) (no_j rfl) ?_
    obtain ⟨x3, hv1, h⟩ := bO_inv h
    rcases br_inv hv1 with ⟨hc1, hv1⟩ | ⟨hc1, hv1⟩
    · obtain ⟨x4, h3, hv1⟩ := bO_inv hv1
      simp only [EV, seval, hc1]
      refine rC_p (i_ones_ok h3) (by simp only [AL, EV, seval, hc1]) (le_d rfl) (no_j rfl) ?_
      cases hv1
      simp only [EV, seval, hc1]
      refine hK _ _ _ (show cutK _ _ _ from cutL ⟨_, rfl, h⟩ (Le_can [] [] hρ (by kernel_rfl) ?_ ?_))
      · simp only [AL, EV, seval, hc1]
      · simp only [AL, EV, seval, hc1]
    · cases hv1
      simp only [EV, seval, hc1]
      refine hK _ _ _ (show cutK _ _ _ from cutL ⟨_, rfl, h⟩ (Le_can [] [] hρ (by kernel_rfl) ?_ ?_))
      · simp only [AL, EV, seval, hc1]
      · simp only [AL, EV, seval, hc1]
  · rintro S ⟨v1, rfl, h⟩
    unfold i_IsHermitianPauli_j1 at h
    injection h with h
    subst h
    refine AW_le (Le_can (lt := [(2, .bool v1)]) (lr := []) (b' := 64) [] [] hρ (by kernel_rfl) ?_ ?_) (AW_ret (end_q [] (.inr rfl) (by kernel_rfl) (by kernel_rfl) ?_))
    · simp only [AL, EV, seval]
    · simp only [AL, EV, seval]
    · simp only [EV, Try.results130, seval]
/- spec.IsHermitianPauli -/
def s_IsHermitianPauli_j1 (v1 : Bool) : Option Bool :=
  some v1
def s_IsHermitianPauli (a1 : Int) (a2 : Int) (a3 : Int) (a4 : Int) : Option Bool :=
  bO (s_IsValidPauli a1 a2 a3 a4) fun x1 => bO (br x1 (bO (s_l25Ones (bits .and .i64 a2 a3)) fun x2 => some ((Int.tmod (IntKind.wrap .i64 (a4 + x2)) 2) == 0)) (some false)) fun x3 => s_IsHermitianPauli_j1 x3
set_option maxHeartbeats 4000000 in
theorem s_IsHermitianPauli_ok {a1 : Int} {a2 : Int} {a3 : Int} {a4 : Int} {r : Bool} (h : s_IsHermitianPauli a1 a2 a3 a4 = some r) :
    Spec Try.prog 87 [.agg [.int .i64 a1, .int .i64 a2, .int .i64 a3, .int .i64 a4]] [] (.bool r) [] := by
  unfold s_IsHermitianPauli at h
  refine spec_of Try.func87 rfl (by kernel_rfl) (by simp only [Try.ntmps87, List.length_cons, List.length_nil, Nat.reduceAdd, Nat.reduceLeDiff]) ?_
  intro C hN hρ
  rw [Try.ntmps87] at hN
  unfold st0
  simp only [tmps0, Nat.zero_add, Nat.reduceAdd]
  refine AW_rs (BR := BR) FM (by rw [hN]; kernel_rfl) (by kernel_rfl) ?_
  intro K hK
  simp only [EV, seval]
  refine hK _ _ _ ?_
  clear hK K
  refine AW_rsJ (BR := BR) (fun S => ∃ (v1 : Bool), S = ⟨mkT [(2, .bool v1)], mkR [], 64⟩ ∧ s_IsHermitianPauli_j1 v1 = some r) FM (by rw [hN]; kernel_rfl) (by kernel_rfl) ?_ ?_
  · intro K hK
    obtain ⟨x1, h1, h⟩ := bO_inv h
    simp only [EV, seval]
    refine rC_p (s_IsValidPauli_ok h1) (by simp only [AL, EV, seval]) (le_d rfl) (no_j rfl) ?_
    obtain ⟨x3, hv1, h⟩ := bO_inv h
    rcases br_inv hv1 with ⟨hc1, hv1⟩ | ⟨hc1, hv1⟩
    · obtain ⟨x4, h3, hv1⟩ := bO_inv hv1
      simp only [EV, seval, hc1]
      refine rC_p (s_l25Ones_ok h3) (by simp only [AL, EV, seval, hc1]) (le_d rfl) (no_j rfl) ?_
      cases hv1
      simp only [EV, seval, hc1]
      refine hK _ _ _ (show cutK _ _ _ from cutL ⟨_, rfl, h⟩ (Le_can [] [] hρ (by kernel_rfl) ?_ ?_))
      · simp only [AL, EV, seval, hc1]
      · simp only [AL, EV, seval, hc1]
    · cases hv1
      simp only [EV, seval, hc1]
      refine hK _ _ _ (show cutK _ _ _ from cutL ⟨_, rfl, h⟩ (Le_can [] [] hρ (by kernel_rfl) ?_ ?_))
      · simp only [AL, EV, seval, hc1]
      · simp only [AL, EV, seval, hc1]
  · rintro S ⟨v1, rfl, h⟩
    unfold s_IsHermitianPauli_j1 at h
    injection h with h
    subst h
    refine AW_le (Le_can (lt := [(2, .bool v1)]) (lr := []) (b' := 64) [] [] hρ (by kernel_rfl) ?_ ?_) (AW_ret (end_q [] (.inr rfl) (by kernel_rfl) (by kernel_rfl) ?_))
    · simp only [AL, EV, seval]
    · simp only [AL, EV, seval]
    · simp only [EV, Try.results87, seval]
/- impl.PaulisCommute -/
def i_PaulisCommute (a1 : Int) (a2 : Int) (a3 : Int) (a4 : Int) (a5 : Int) (a6 : Int) (a7 : Int) (a8 : Int) : Option Bool :=
  bO (i_ones (bits .and .i64 a2 a7)) fun x1 => bO (i_ones (bits .and .i64 a3 a6)) fun x2 => some ((Int.tmod (IntKind.wrap .i64 (x1 + x2)) 2) == 0)
set_option maxHeartbeats 4000000 in
theorem i_PaulisCommute_ok {a1 : Int} {a2 : Int} {a3 : Int} {a4 : Int} {a5 : Int} {a6 : Int} {a7 : Int} {a8 : Int} {r : Bool} (h : i_PaulisCommute a1 a2 a3 a4 a5 a6 a7 a8 = some r) :
    Spec Try.prog 131 [.agg [.int .i64 a1, .int .i64 a2, .int .i64 a3, .int .i64 a4], .agg [.int .i64 a5, .int .i64 a6, .int .i64 a7, .int .i64 a8]] [] (.bool r) [] := by
  unfold i_PaulisCommute at h
  refine spec_of Try.func131 rfl (by kernel_rfl) (by simp only [Try.ntmps131, List.length_cons, List.length_nil, Nat.reduceAdd, Nat.reduceLeDiff]) ?_
  intro C hN hρ
  rw [Try.ntmps131] at hN
  unfold st0
  simp only [tmps0, Nat.zero_add, Nat.reduceAdd]
  refine AW_rs (BR := BR) FM (by rw [hN]; kernel_rfl) (by kernel_rfl) ?_
  intro K hK
  simp only [EV, seval]
  refine hK _ _ _ ?_
  clear hK K
  refine AW_rs (BR := BR) FM (by rw [hN]; kernel_rfl) (by kernel_rfl) ?_
  intro K hK
  obtain ⟨x1, h1, h⟩ := bO_inv h
  simp only [EV, seval]
  refine rC_p (i_ones_ok h1) (by simp only [AL, EV, seval]) (le_d rfl) (no_j rfl) ?_
  obtain ⟨x2, h2, h⟩ := bO_inv h
  simp only [EV, seval]
  refine rC_p (i_ones_ok h2) (by simp only [AL, EV, seval]) (le_d rfl) (no_j rfl) ?_
  simp only [EV, seval]
  refine hK _ _ _ ?_
  clear hK K
  injection h with h
  subst h
  refine AW_le (Le_can (lt := [(4, .bool ((Int.tmod (IntKind.wrap .i64 (x1 + x2)) 2) == 0))]) (lr := []) (b' := 64) [] [] hρ (by kernel_rfl) ?_ ?_) (AW_ret (end_q [] (.inr rfl) (by kernel_rfl) (by kernel_rfl) ?_))
  · simp only [AL, EV, seval]
  · simp only [AL, EV, seval]
  · simp only [EV, Try.results131, seval]
/- spec.PaulisCommute -/
def s_PaulisCommute (a1 : Int) (a2 : Int) (a3 : Int) (a4 : Int) (a5 : Int) (a6 : Int) (a7 : Int) (a8 : Int) : Option Bool :=
  bO (s_l25Ones (bits .and .i64 a2 a7)) fun x1 => bO (s_l25Ones (bits .and .i64 a3 a6)) fun x2 => some ((Int.tmod (IntKind.wrap .i64 (x1 + x2)) 2) == 0)
set_option maxHeartbeats 4000000 in
theorem s_PaulisCommute_ok {a1 : Int} {a2 : Int} {a3 : Int} {a4 : Int} {a5 : Int} {a6 : Int} {a7 : Int} {a8 : Int} {r : Bool} (h : s_PaulisCommute a1 a2 a3 a4 a5 a6 a7 a8 = some r) :
    Spec Try.prog 88 [.agg [.int .i64 a1, .int .i64 a2, .int .i64 a3, .int .i64 a4], .agg [.int .i64 a5, .int .i64 a6, .int .i64 a7, .int .i64 a8]] [] (.bool r) [] := by
  unfold s_PaulisCommute at h
  refine spec_of Try.func88 rfl (by kernel_rfl) (by simp only [Try.ntmps88, List.length_cons, List.length_nil, Nat.reduceAdd, Nat.reduceLeDiff]) ?_
  intro C hN hρ
  rw [Try.ntmps88] at hN
  unfold st0
  simp only [tmps0, Nat.zero_add, Nat.reduceAdd]
  refine AW_rs (BR := BR) FM (by rw [hN]; kernel_rfl) (by kernel_rfl) ?_
  intro K hK
  simp only [EV, seval]
  refine hK _ _ _ ?_
  clear hK K
  refine AW_rs (BR := BR) FM (by rw [hN]; kernel_rfl) (by kernel_rfl) ?_
  intro K hK
  obtain ⟨x1, h1, h⟩ := bO_inv h
  simp only [EV, seval]
  refine rC_p (s_l25Ones_ok h1) (by simp only [AL, EV, seval]) (le_d rfl) (no_j rfl) ?_
  obtain ⟨x2, h2, h⟩ := bO_inv h
  simp only [EV, seval]
  refine rC_p (s_l25Ones_ok h2) (by simp only [AL, EV, seval]) (le_d rfl) (no_j rfl) ?_
  simp only [EV, seval]
  refine hK _ _ _ ?_
  clear hK K
  injection h with h
  subst h
  refine AW_le (Le_can (lt := [(4, .bool ((Int.tmod (IntKind.wrap .i64 (x1 + x2)) 2) == 0))]) (lr := []) (b' := 64) [] [] hρ (by kernel_rfl) ?_ ?_) (AW_ret (end_q [] (.inr rfl) (by kernel_rfl) (by kernel_rfl) ?_))
  · simp only [AL, EV, seval]
  · simp only [AL, EV, seval]
  · simp only [EV, Try.results88, seval]
/- impl.MulPauli -/
def i_MulPauli_j1 (a1 : Int) (a2 : Int) (a3 : Int) (a4 : Int) (a6 : Int) (a7 : Int) (a8 : Int) (v1 : Bool) : Option (Int × Int × Int × Int × Bool) :=
  br v1 (some (0, 0, 0, 0, false)) (bO (i_ones (bits .and .i64 a3 a6)) fun x8 => some (a1, bits .xor .i64 a2 a6, bits .xor .i64 a3 a7, Int.tmod (IntKind.wrap .i64 ((IntKind.wrap .i64 (a4 + a8)) + (IntKind.wrap .i64 (2 * x8)))) 4, true))
def i_MulPauli (a1 : Int) (a2 : Int) (a3 : Int) (a4 : Int) (a5 : Int) (a6 : Int) (a7 : Int) (a8 : Int) : Option (Int × Int × Int × Int × Bool) :=
  bO (i_IsValidPauli a1 a2 a3 a4) fun x1 => bO (br (!x1) (some true) (bO (i_IsValidPauli a5 a6 a7 a8) fun x2 => some (!x2))) fun x3 => bO (br x3 (some true) (some (a1 != a5))) fun x4 => i_MulPauli_j1 a1 a2 a3 a4 a6 a7 a8 x4
set_option maxHeartbeats 4000000 in
theorem i_MulPauli_ok {a1 : Int} {a2 : Int} {a3 : Int} {a4 : Int} {a5 : Int} {a6 : Int} {a7 : Int} {a8 : Int} {r : Int × Int × Int × Int × Bool} (h : i_MulPauli a1 a2 a3 a4 a5 a6 a7 a8 = some r) :
    Spec Try.prog 143 [.agg [.int .i64 a1, .int .i64 a2, .int .i64 a3, .int .i64 a4], .agg [.int .i64 a5, .int .i64 a6, .int .i64 a7, .int .i64 a8]] [] (.tup [.agg [.int .i64 r.1, .int .i64 r.2.1, .int .i64 r.2.2.1, .int .i64 r.2.2.2.1], .bool r.2.2.2.2]) [] := by
  unfold i_MulPauli at h
  refine spec_of Try.func143 rfl (by kernel_rfl) (by simp only [Try.ntmps143, List.length_cons, List.length_nil, Nat.reduceAdd, Nat.reduceLeDiff]) ?_
  intro C hN hρ
  rw [Try.ntmps143] at hN
  unfold st0
  simp only [tmps0, Nat.zero_add, Nat.reduceAdd]
  refine AW_rs (BR := BR) FM (by rw [hN]; kernel_rfl) (by kernel_rfl) ?_
  intro K hK
  simp only [EV, seval]
  refine hK _ _ _ ?_
  clear hK K
  refine AW_seq ?_
  refine AW_rsJ (BR := BR) (fun S => ∃ (v1 : Bool), S = ⟨mkT [(2, .ptr 32 0), (3, .ptr 33 0), (4, .ptr 34 0), (20, .bool v1)], mkR [(32, .box 113 [.int .i64 a1, .int .i64 a2, .int .i64 a3, .int .i64 a4]), (33, .box 113 [.int .i64 a5, .int .i64 a6, .int .i64 a7, .int .i64 a8]), (34, .box 113 [.int .i64 0, .int .i64 0, .int .i64 0, .int .i64 0])], 64⟩ ∧ i_MulPauli_j1 a1 a2 a3 a4 a6 a7 a8 v1 = some r) FM (by rw [hN]; kernel_rfl) (by kernel_rfl) ?_ ?_
  · intro K hK
    obtain ⟨x1, h1, h⟩ := bO_inv h
    simp only [EV, seval]
    refine rC_p (i_IsValidPauli_ok h1) (by simp only [AL, EV, seval]) (le_d rfl) (no_j rfl) ?_
    obtain ⟨x3, hv1, h⟩ := bO_inv h
    rcases br_inv hv1 with ⟨hc1, hv1⟩ | ⟨hc1, hv1⟩
    · cases hv1
      obtain ⟨x5, hv3, h⟩ := bO_inv h
      replace hv3 := br_t hv3
      cases hv3
      try dsimp only at h
      simp only [EV, seval, hc1]
      refine hK _ _ _ (show cutK _ _ _ from cutL ⟨_, rfl, h⟩ (Le_can [(32, some 64), (33, some 80), (34, some 96)] [] hρ (by kernel_rfl) ?_ ?_))
      · simp only [AL, EV, seval, hc1]
      · simp only [AL, EV, seval, hc1]
    · obtain ⟨x6, h3, hv1⟩ := bO_inv hv1
      simp only [EV, seval, hc1]
      refine rC_p (i_IsValidPauli_ok h3) (by simp only [AL, EV, seval, hc1]) (le_d rfl) (no_j rfl) ?_
      cases hv1
      obtain ⟨x7, hv4, h⟩ := bO_inv h
      rcases br_inv hv4 with ⟨hc3, hv4⟩ | ⟨hc3, hv4⟩
      · cases hv4
        simp only [EV, seval, hc1, hc3]
        refine hK _ _ _ (show cutK _ _ _ from cutL ⟨_, rfl, h⟩ (Le_can [(32, some 64), (33, some 80), (34, some 96)] [] hρ (by kernel_rfl) ?_ ?_))
        · simp only [AL, EV, seval, hc1, hc3]
        · simp only [AL, EV, seval, hc1, hc3]
      · cases hv4
        simp only [EV, seval, hc1, hc3]
        refine hK _ _ _ (show cutK _ _ _ from cutL ⟨_, rfl, h⟩ (Le_can [(32, some 64), (33, some 80), (34, some 96)] [] hρ (by kernel_rfl) ?_ ?_))
        · simp only [AL, EV, seval, hc1, hc3]
        · simp only [AL, EV, seval, hc1, hc3]
  · rintro S ⟨v1, rfl, h⟩
    unfold i_MulPauli_j1 at h
    refine AW_condK (a := .bool v1) (by simp only [EV, seval]) (brK h (fun hc4 h => ?_) (fun hc4 h => ?_))
    · refine AW_rs (BR := BR) FM (by rw [hN]; kernel_rfl) (by kernel_rfl) ?_
      intro K hK
      simp only [EV, seval]
      refine hK _ _ _ ?_
      clear hK K
      injection h with h
      subst h
      refine AW_le (Le_can (lt := [(4, .ptr 32 0), (5, .bool false)]) (lr := [(32, .box 113 [.int .i64 0, .int .i64 0, .int .i64 0, .int .i64 0])]) (b' := 64) [(32, some 34)] [] hρ (by kernel_rfl) ?_ ?_) (AW_ret (end_q [] (.inr rfl) (by kernel_rfl) (by kernel_rfl) ?_))
      · simp only [AL, EV, seval]
      · simp only [AL, EV, seval]
      · simp only [EV, Try.results143, seval]
    · refine AW_skip (show AW _ _ _ _ _ from ?_)
      refine AW_rs (BR := BR) FM (by rw [hN]; kernel_rfl) (by kernel_rfl) ?_
      intro K hK
      obtain ⟨x8, h4, h⟩ := bO_inv h
      simp only [EV, seval]
      refine rC_p (i_ones_ok h4) (by simp only [AL, EV, seval]) (le_d rfl) (no_j rfl) ?_
      simp only [EV, seval]
      refine hK _ _ _ ?_
      clear hK K
      injection h with h
      subst h
      refine AW_le (Le_can (lt := [(4, .ptr 32 0), (5, .bool true)]) (lr := [(32, .box 113 [.int .i64 a1, .int .i64 (bits .xor .i64 a2 a6), .int .i64 (bits .xor .i64 a3 a7), .int .i64 (Int.tmod (IntKind.wrap .i64 ((IntKind.wrap .i64 (a4 + a8)) + (IntKind.wrap .i64 (2 * x8)))) 4)])]) (b' := 64) [(32, some 34)] [] hρ (by kernel_rfl) ?_ ?_) (AW_ret (end_q [] (.inr rfl) (by kernel_rfl) (by kernel_rfl) ?_))
      · simp only [AL, EV, seval]
      · simp only [AL, EV, seval]
      · simp only [EV, Try.results143, seval]
/- spec.MulPauli -/
def s_MulPauli_j1 (a1 : Int) (a2 : Int) (a3 : Int) (a4 : Int) (a6 : Int) (a7 : Int) (a8 : Int) (v1 : Bool) : Option (Int × Int × Int × Int × Bool) :=
  br v1 (some (0, 0, 0, 0, false)) (bO (s_l25Ones (bits .and .i64 a3 a6)) fun x8 => some (a1, bits .xor .i64 a2 a6, bits .xor .i64 a3 a7, Int.tmod (IntKind.wrap .i64 ((IntKind.wrap .i64 (a4 + a8)) + (IntKind.wrap .i64 (2 * x8)))) 4, true))
def s_MulPauli (a1 : Int) (a2 : Int) (a3 : Int) (a4 : Int) (a5 : Int) (a6 : Int) (a7 : Int) (a8 : Int) : Option (Int × Int × Int × Int × Bool) :=
  bO (s_IsValidPauli a1 a2 a3 a4) fun x1 => bO (br (!x1) (some true) (bO (s_IsValidPauli a5 a6 a7 a8) fun x2 => some (!x2))) fun x3 => bO (br x3 (some true) (some (a1 != a5))) fun x4 => s_MulPauli_j1 a1 a2 a3 a4 a6 a7 a8 x4
set_option maxHeartbeats 4000000 in
theorem s_MulPauli_ok {a1 : Int} {a2 : Int} {a3 : Int} {a4 : Int} {a5 : Int} {a6 : Int} {a7 : Int} {a8 : Int} {r : Int × Int × Int × Int × Bool} (h : s_MulPauli a1 a2 a3 a4 a5 a6 a7 a8 = some r) :
    Spec Try.prog 145 [.agg [.int .i64 a1, .int .i64 a2, .int .i64 a3, .int .i64 a4], .agg [.int .i64 a5, .int .i64 a6, .int .i64 a7, .int .i64 a8]] [] (.tup [.agg [.int .i64 r.1, .int .i64 r.2.1, .int .i64 r.2.2.1, .int .i64 r.2.2.2.1], .bool r.2.2.2.2]) [] := by
  unfold s_MulPauli at h
  refine spec_of Try.func145 rfl (by kernel_rfl) (by simp only [Try.ntmps145, List.length_cons, List.length_nil, Nat.reduceAdd, Nat.reduceLeDiff]) ?_
  intro C hN hρ
  rw [Try.ntmps145] at hN
  unfold st0
  simp only [tmps0, Nat.zero_add, Nat.reduceAdd]
  refine AW_rs (BR := BR) FM (by rw [hN]; kernel_rfl) (by kernel_rfl) ?_
  intro K hK
  simp only [EV, seval]
  refine hK _ _ _ ?_
  clear hK K
  refine AW_seq ?_
  refine AW_rsJ (BR := BR) (fun S => ∃ (v1 : Bool), S = ⟨mkT [(2, .ptr 32 0), (3, .ptr 33 0), (4, .ptr 34 0), (20, .bool v1)], mkR [(32, .box 113 [.int .i64 a1, .int .i64 a2, .int .i64 a3, .int .i64 a4]), (33, .box 113 [.int .i64 a5, .int .i64 a6, .int .i64 a7, .int .i64 a8]), (34, .box 113 [.int .i64 0, .int .i64 0, .int .i64 0, .int .i64 0])], 64⟩ ∧ s_MulPauli_j1 a1 a2 a3 a4 a6 a7 a8 v1 = some r) FM (by rw [hN]; kernel_rfl) (by kernel_rfl) ?_ ?_
  · intro K hK
    obtain ⟨x1, h1, h⟩ := bO_inv h
    simp only [EV, seval]
    refine rC_p (s_IsValidPauli_ok h1) (by simp only [AL, EV, seval]) (le_d rfl) (no_j rfl) ?_
    obtain ⟨x3, hv1, h⟩ := bO_inv h
    rcases br_inv hv1 with ⟨hc1, hv1⟩ | ⟨hc1, hv1⟩
    · cases hv1
      obtain ⟨x5, hv3, h⟩ := bO_inv h
      replace hv3 := br_t hv3
      cases hv3
      try dsimp only at h
      simp only [EV, seval, hc1]
      refine hK _ _ _ (show cutK _ _ _ from cutL ⟨_, rfl, h⟩ (Le_can [(32, some 64), (33, some 80), (34, some 96)] [] hρ (by kernel_rfl) ?_ ?_))
      · simp only [AL, EV, seval, hc1]
      · simp only [AL, EV, seval, hc1]
    · obtain ⟨x6, h3, hv1⟩ := bO_inv hv1
      simp only [EV, seval, hc1]
      refine rC_p (s_IsValidPauli_ok h3) (by simp only [AL, EV, seval, hc1]) (le_d rfl) (no_j rfl) ?_
      cases hv1
      obtain ⟨x7, hv4, h⟩ := bO_inv h
      rcases br_inv hv4 with ⟨hc3, hv4⟩ | ⟨hc3, hv4⟩
      · cases hv4
        simp only [EV, seval, hc1, hc3]
        refine hK _ _ _ (show cutK _ _ _ from cutL ⟨_, rfl, h⟩ (Le_can [(32, some 64), (33, some 80), (34, some 96)] [] hρ (by kernel_rfl) ?_ ?_))
        · simp only [AL, EV, seval, hc1, hc3]
        · simp only [AL, EV, seval, hc1, hc3]
      · cases hv4
        simp only [EV, seval, hc1, hc3]
        refine hK _ _ _ (show cutK _ _ _ from cutL ⟨_, rfl, h⟩ (Le_can [(32, some 64), (33, some 80), (34, some 96)] [] hρ (by kernel_rfl) ?_ ?_))
        · simp only [AL, EV, seval, hc1, hc3]
        · simp only [AL, EV, seval, hc1, hc3]
  · rintro S ⟨v1, rfl, h⟩
    unfold s_MulPauli_j1 at h
    refine AW_condK (a := .bool v1) (by simp only [EV, seval]) (brK h (fun hc4 h => ?_) (fun hc4 h => ?_))
    · refine AW_rs (BR := BR) FM (by rw [hN]; kernel_rfl) (by kernel_rfl) ?_
      intro K hK
      simp only [EV, seval]
      refine hK _ _ _ ?_
      clear hK K
      injection h with h
      subst h
      refine AW_le (Le_can (lt := [(4, .ptr 32 0), (5, .bool false)]) (lr := [(32, .box 113 [.int .i64 0, .int .i64 0, .int .i64 0, .int .i64 0])]) (b' := 64) [(32, some 34)] [] hρ (by kernel_rfl) ?_ ?_) (AW_ret (end_q [] (.inr rfl) (by kernel_rfl) (by kernel_rfl) ?_))
      · simp only [AL, EV, seval]
      · simp only [AL, EV, seval]
      · simp only [EV, Try.results145, seval]
    · refine AW_skip (show AW _ _ _ _ _ from ?_)
      refine AW_rs (BR := BR) FM (by rw [hN]; kernel_rfl) (by kernel_rfl) ?_
      intro K hK
      obtain ⟨x8, h4, h⟩ := bO_inv h
      simp only [EV, seval]
      refine rC_p (s_l25Ones_ok h4) (by simp only [AL, EV, seval]) (le_d rfl) (no_j rfl) ?_
      simp only [EV, seval]
      refine hK _ _ _ ?_
      clear hK K
      injection h with h
      subst h
      refine AW_le (Le_can (lt := [(4, .ptr 32 0), (5, .bool true)]) (lr := [(32, .box 113 [.int .i64 a1, .int .i64 (bits .xor .i64 a2 a6), .int .i64 (bits .xor .i64 a3 a7), .int .i64 (Int.tmod (IntKind.wrap .i64 ((IntKind.wrap .i64 (a4 + a8)) + (IntKind.wrap .i64 (2 * x8)))) 4)])]) (b' := 64) [(32, some 34)] [] hρ (by kernel_rfl) ?_ ?_) (AW_ret (end_q [] (.inr rfl) (by kernel_rfl) (by kernel_rfl) ?_))
      · simp only [AL, EV, seval]
      · simp only [AL, EV, seval]
      · simp only [EV, Try.results145, seval]
/- spec.l25Single -/
def s_l25Single (a1 : Int) (a2 : Int) (a3 : Bool) : Option (Int × Int × Int × Int) :=
  br a3 (gd (decide (¬ (IntKind.wrap .u64 a2) < 0)) (some (a1, 0, IntKind.wrap .i64 (1 * 2 ^ min (Int.toNat (IntKind.wrap .u64 a2)) (IntKind.bits .i64)), 0))) (gd (decide (¬ (IntKind.wrap .u64 a2) < 0)) (some (a1, IntKind.wrap .i64 (1 * 2 ^ min (Int.toNat (IntKind.wrap .u64 a2)) (IntKind.bits .i64)), 0, 0)))
set_option maxHeartbeats 4000000 in
theorem s_l25Single_ok {a1 : Int} {a2 : Int} {a3 : Bool} {r : Int × Int × Int × Int} (h : s_l25Single a1 a2 a3 = some r) :
    Spec Try.prog 157 [.int .i64 a1, .int .i64 a2, .bool a3] [] (.agg [.int .i64 r.1, .int .i64 r.2.1, .int .i64 r.2.2.1, .int .i64 r.2.2.2]) [] := by
  unfold s_l25Single at h
  refine spec_of Try.func157 rfl (by kernel_rfl) (by simp only [Try.ntmps157, List.length_cons, List.length_nil, Nat.reduceAdd, Nat.reduceLeDiff]) ?_
  intro C hN hρ
  rw [Try.ntmps157] at hN
  unfold st0
  simp only [tmps0, Nat.zero_add, Nat.reduceAdd]
  refine AW_rs (BR := BR) FM (by rw [hN]; kernel_rfl) (by kernel_rfl) ?_
  intro K hK
  simp only [EV, seval]
  refine hK _ _ _ ?_
  clear hK K
  refine AW_seq ?_
  refine AW_rs (BR := BR) FM (by rw [hN]; kernel_rfl) (by kernel_rfl) ?_
  intro K hK
  simp only [EV, seval]
  refine hK _ _ _ ?_
  clear hK K
  refine AW_condK (a := .bool a3) (by simp only [EV, seval]) (brK h (fun hc1 h => ?_) (fun hc1 h => ?_))
  · refine AW_rs (BR := BR) FM (by rw [hN]; kernel_rfl) (by kernel_rfl) ?_
    intro K hK
    obtain ⟨h1, h⟩ := gd_inv h
    replace h1 := of_decide_eq_true h1
    simp only [EV, seval, h1]
    refine hK _ _ _ ?_
    clear hK K
    injection h with h
    subst h
    refine AW_le (Le_can (lt := [(6, .ptr 32 0)]) (lr := [(32, .box 113 [.int .i64 a1, .int .i64 0, .int .i64 (IntKind.wrap .i64 (1 * 2 ^ min (Int.toNat (IntKind.wrap .u64 a2)) (IntKind.bits .i64))), .int .i64 0])]) (b' := 64) [(32, some 64)] [] hρ (by kernel_rfl) ?_ ?_) (AW_ret (end_q [] (.inr rfl) (by kernel_rfl) (by kernel_rfl) ?_))
    · simp only [AL, EV, seval, h1]
    · simp only [AL, EV, seval, h1]
    · simp only [EV, Try.results157, seval]
  · refine AW_skip (show AW _ _ _ _ _ from ?_)
    refine AW_rs (BR := BR) FM (by rw [hN]; kernel_rfl) (by kernel_rfl) ?_
    intro K hK
    obtain ⟨h2, h⟩ := gd_inv h
    replace h2 := of_decide_eq_true h2
    simp only [EV, seval, h2]
    refine hK _ _ _ ?_
    clear hK K
    injection h with h
    subst h
    refine AW_le (Le_can (lt := [(6, .ptr 32 0)]) (lr := [(32, .box 113 [.int .i64 a1, .int .i64 (IntKind.wrap .i64 (1 * 2 ^ min (Int.toNat (IntKind.wrap .u64 a2)) (IntKind.bits .i64))), .int .i64 0, .int .i64 0])]) (b' := 64) [(32, some 64)] [] hρ (by kernel_rfl) ?_ ?_) (AW_ret (end_q [] (.inr rfl) (by kernel_rfl) (by kernel_rfl) ?_))
    · simp only [AL, EV, seval, h2]
    · simp only [AL, EV, seval, h2]
    · simp only [EV, Try.results157, seval]
end Go.Proofs.Ytcclapenpaediaa
