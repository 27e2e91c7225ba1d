/- Joined texts: Ma Mb Mc Mcn. -/
import Derived.Test.YtfjopjalhllplaaGreatK1
/- Models of functions, and that the functions do what the models say; printed by a program. -/
namespace Go.Proofs.YtfjopjalhllplaaGreat
open Go.RowKit
set_option maxRecDepth 100000
set_option linter.unusedVariables false
set_option linter.unusedSimpArgs false
set_option linter.defProp false
set_option maxHeartbeats 4000000
/- impl.in -/
def i_in_j1 (v1 : Bool) : Option Bool :=
  some v1
def i_in (a1 a2 a3 : Int) : Option Bool :=
  bO (br (decide (a2 ≤ a1)) (some (decide (a1 ≤ a3))) (some false)) fun x1 => i_in_j1 x1
theorem i_in_ok {a1 a2 a3 : Int} {r : Bool} (h : i_in a1 a2 a3 = some r) :
    Spec Tryz.prog 75 [.int .i64 a1, .int .i64 a2, .int .i64 a3] [] (.bool r) [] := by
 unfold i_in at h; refine SO Tryz.func75 rfl Tryz.ntmps75 fun C hN hρ => ?_; simp only [st0, tmps0, Nat.zero_add, Nat.reduceAdd]; refine AN hN ?_; refine AJ (fun S => ∃ (v1 : Bool), S = ⟨mkT [(6, .bool v1)], mkR [], 64⟩ ∧ i_in_j1 v1 = some r) hN ?_ ?_
 ·intro K hK; obtain ⟨x1, hv1, h⟩ := bO_inv h; rcases br_inv hv1 with ⟨hc1, hv1⟩ | ⟨hc1, hv1⟩
  ·cases hv1; simp only [EV, seval, hc1]; refine hK _ _ _ (show cutK _ _ _ from cutL ⟨_, rfl, h⟩ (Le_can [] [] hρ (by kernel_rfl) ?_ ?_))
   ·simp only [AL, EV, seval, hc1]
   ·simp only [AL, EV, seval, hc1]
  ·cases hv1; simp only [EV, seval, hc1]; refine hK _ _ _ (show cutK _ _ _ from cutL ⟨_, rfl, h⟩ (Le_can [] [] hρ (by kernel_rfl) ?_ ?_))
   ·simp only [AL, EV, seval, hc1]
   ·simp only [AL, EV, seval, hc1]
 ·rintro S ⟨v1, rfl, h⟩; unfold i_in_j1 at h; injection h with h; subst h; exact AX (b' := 64) [(6, .bool v1)] [] [] [] hρ (EQ [])
/- spec.l1In -/
def s_l1In_j1 (v1 : Bool) : Option Bool :=
  some v1
def s_l1In (a1 a2 a3 : Int) : Option Bool :=
  bO (br (decide (a2 ≤ a1)) (some (decide (a1 ≤ a3))) (some false)) fun x1 => s_l1In_j1 x1
theorem s_l1In_ok {a1 a2 a3 : Int} {r : Bool} (h : s_l1In a1 a2 a3 = some r) :
    Spec Tryz.prog 44 [.int .i64 a1, .int .i64 a2, .int .i64 a3] [] (.bool r) [] := by
 unfold s_l1In at h; refine SO Tryz.func44 rfl Tryz.ntmps44 fun C hN hρ => ?_; simp only [st0, tmps0, Nat.zero_add, Nat.reduceAdd]; refine AN hN ?_; refine AJ (fun S => ∃ (v1 : Bool), S = ⟨mkT [(6, .bool v1)], mkR [], 64⟩ ∧ s_l1In_j1 v1 = some r) hN ?_ ?_
 ·intro K hK; obtain ⟨x1, hv1, h⟩ := bO_inv h; rcases br_inv hv1 with ⟨hc1, hv1⟩ | ⟨hc1, hv1⟩
  ·cases hv1; simp only [EV, seval, hc1]; refine hK _ _ _ (show cutK _ _ _ from cutL ⟨_, rfl, h⟩ (Le_can [] [] hρ (by kernel_rfl) ?_ ?_))
   ·simp only [AL, EV, seval, hc1]
   ·simp only [AL, EV, seval, hc1]
  ·cases hv1; simp only [EV, seval, hc1]; refine hK _ _ _ (show cutK _ _ _ from cutL ⟨_, rfl, h⟩ (Le_can [] [] hρ (by kernel_rfl) ?_ ?_))
   ·simp only [AL, EV, seval, hc1]
   ·simp only [AL, EV, seval, hc1]
 ·rintro S ⟨v1, rfl, h⟩; unfold s_l1In_j1 at h; injection h with h; subst h; exact AX (b' := 64) [(6, .bool v1)] [] [] [] hρ (EQ [])
/- impl.IsValidPauli -/
def i_IsValidPauli_j1 (v1 : Bool) : Option Bool :=
  some v1
def i_IsValidPauli (a1 a2 a3 a4 : Int) : Option Bool :=
  bO (i_in a1 1 4) fun x1 => bO (br x1 (gd (decide (¬ a1 < 0)) (bO (i_in a2 0 (IntKind.wrap .i64 ((IntKind.wrap .i64 (1 * 2 ^ min (Int.toNat a1) (IntKind.bits .i64))) - 1))) fun x2 => some x2)) (some false)) fun x3 => bO (br x3 (gd (decide (¬ a1 < 0)) (bO (i_in a3 0 (IntKind.wrap .i64 ((IntKind.wrap .i64 (1 * 2 ^ min (Int.toNat a1) (IntKind.bits .i64))) - 1))) fun x4 => some x4)) (some false)) fun x5 => bO (br x5 (bO (i_in a4 0 3) fun x6 => some x6) (some false)) fun x7 => i_IsValidPauli_j1 x7
theorem i_IsValidPauli_ok {a1 a2 a3 a4 : Int} {r : Bool} (h : i_IsValidPauli a1 a2 a3 a4 = some r) :
    Spec Tryz.prog 222 [.agg [.int .i64 a1, .int .i64 a2, .int .i64 a3, .int .i64 a4]] [] (.bool r) [] := by
 unfold i_IsValidPauli at h; refine SO Tryz.func222 rfl Tryz.ntmps222 fun C hN hρ => ?_; simp only [st0, tmps0, Nat.zero_add, Nat.reduceAdd]; refine AN hN ?_; refine AJ (fun S => ∃ (v1 : Bool), S = ⟨mkT [(2, .bool v1)], mkR [], 64⟩ ∧ i_IsValidPauli_j1 v1 = some r) hN ?_ ?_
 ·intro K hK; obtain ⟨x1, h1, h⟩ := bO_inv h; simp only [EV, seval]; refine CP (i_in_ok h1) ?_; obtain ⟨x3, hv1, h⟩ := bO_inv h; rcases br_inv hv1 with ⟨hc1, hv1⟩ | ⟨hc1, hv1⟩
  ·obtain ⟨h7, hv1⟩ := gd_inv hv1; replace h7 := of_decide_eq_true h7; obtain ⟨x8, h8, hv1⟩ := bO_inv hv1; simp only [EV, seval, hc1, h7]; refine rC_p (i_in_ok h8) (by simp only [AL, EV, seval, hc1, h7]) (le_d rfl) (no_j rfl) ?_; cases hv1; obtain ⟨x10, hv4, h⟩ := bO_inv h; rcases br_inv hv4 with ⟨hc4, hv4⟩ | ⟨hc4, hv4⟩
   ·obtain ⟨h12, hv4⟩ := gd_inv hv4; replace h12 := of_decide_eq_true h12; obtain ⟨x13, h13, hv4⟩ := bO_inv hv4; simp only [EV, seval, hc1, h7, hc4, h12]; refine rC_p (i_in_ok h13) (by simp only [AL, EV, seval, hc1, h7, hc4, h12]) (le_d rfl) (no_j rfl) ?_; cases hv4; obtain ⟨x15, hv6, h⟩ := bO_inv h; rcases br_inv hv6 with ⟨hc6, hv6⟩ | ⟨hc6, hv6⟩
    ·obtain ⟨x16, h15, hv6⟩ := bO_inv hv6; simp only [EV, seval, hc1, h7, hc4, h12, hc6]; refine rC_p (i_in_ok h15) (by simp only [AL, EV, seval, hc1, h7, hc4, h12, hc6]) (le_d rfl) (no_j rfl) ?_; cases hv6; simp only [EV, seval, hc1, h7, hc4, h12, hc6]; refine hK _ _ _ (show cutK _ _ _ from cutL ⟨_, rfl, h⟩ (Le_can [] [] hρ (by kernel_rfl) ?_ ?_))
     ·simp only [AL, EV, seval, hc1, h7, hc4, h12, hc6]
     ·simp only [AL, EV, seval, hc1, h7, hc4, h12, hc6]
    ·cases hv6; simp only [EV, seval, hc1, h7, hc4, h12, hc6]; refine hK _ _ _ (show cutK _ _ _ from cutL ⟨_, rfl, h⟩ (Le_can [] [] hρ (by kernel_rfl) ?_ ?_))
     ·simp only [AL, EV, seval, hc1, h7, hc4, h12, hc6]
     ·simp only [AL, EV, seval, hc1, h7, hc4, h12, hc6]
   ·cases hv4; obtain ⟨x17, hv7, h⟩ := bO_inv h; replace hv7 := br_f hv7; cases hv7; (try dsimp only at h); simp only [EV, seval, hc1, h7, hc4]; refine hK _ _ _ (show cutK _ _ _ from cutL ⟨_, rfl, h⟩ (Le_can [] [] hρ (by kernel_rfl) ?_ ?_))
    ·simp only [AL, EV, seval, hc1, h7, hc4]
    ·simp only [AL, EV, seval, hc1, h7, hc4]
  ·cases hv1; obtain ⟨x18, hv8, h⟩ := bO_inv h; replace hv8 := br_f hv8; cases hv8; (try dsimp only at h); obtain ⟨x19, hv9, h⟩ := bO_inv h; replace hv9 := br_f hv9; cases hv9; (try dsimp only at h); simp only [EV, seval, hc1]; refine hK _ _ _ (show cutK _ _ _ from cutL ⟨_, rfl, h⟩ (Le_can [] [] hρ (by kernel_rfl) ?_ ?_))
   ·simp only [AL, EV, seval, hc1]
   ·simp only [AL, EV, seval, hc1]
 ·rintro S ⟨v1, rfl, h⟩; unfold i_IsValidPauli_j1 at h; injection h with h; subst h; exact AX (b' := 64) [(2, .bool v1)] [] [] [] hρ (EQ [])
/- spec.IsValidPauli -/
def s_IsValidPauli_j1 (v1 : Bool) : Option Bool :=
  some v1
def s_IsValidPauli (a1 a2 a3 a4 : Int) : Option Bool :=
  bO (s_l1In a1 1 4) fun x1 => br (!x1) (some false) (gd (decide (¬ (IntKind.wrap .u64 a1) < 0)) (bO (s_l1In a2 0 (IntKind.wrap .i64 ((IntKind.wrap .i64 (1 * 2 ^ min (Int.toNat (IntKind.wrap .u64 a1)) (IntKind.bits .i64))) - 1))) fun x2 => bO (br x2 (bO (s_l1In a3 0 (IntKind.wrap .i64 ((IntKind.wrap .i64 (1 * 2 ^ min (Int.toNat (IntKind.wrap .u64 a1)) (IntKind.bits .i64))) - 1))) fun x3 => some x3) (some false)) fun x4 => bO (br x4 (bO (s_l1In a4 0 3) fun x5 => some x5) (some false)) fun x6 => s_IsValidPauli_j1 x6))
theorem s_IsValidPauli_ok {a1 a2 a3 a4 : Int} {r : Bool} (h : s_IsValidPauli a1 a2 a3 a4 = some r) :
    Spec Tryz.prog 230 [.agg [.int .i64 a1, .int .i64 a2, .int .i64 a3, .int .i64 a4]] [] (.bool r) [] := by
 unfold s_IsValidPauli at h; refine SO Tryz.func230 rfl Tryz.ntmps230 fun C hN hρ => ?_; simp only [st0, tmps0, Nat.zero_add, Nat.reduceAdd]; refine AN hN ?_; refine AW_seq ?_; obtain ⟨x1, h1, h⟩ := bO_inv h; refine AP hN (s_l1In_ok h1) ?_; refine AB h (fun hc1 h => ?_) fun hc1 h => ?_
 ·refine AN hN ?_; injection h with h; subst h; exact AX (b' := 64) [(2, .bool false)] [] [] [] hρ (EQ [])
 ·refine AW_skip (AK ?_); refine AR hN fun K hK => ?_; obtain ⟨h2, h⟩ := gd_inv h; replace h2 := of_decide_eq_true h2; simp only [EV, seval, h2]; refine hK _ _ _ ?_; clear hK K; refine AJ (fun S => ∃ (v1 : Bool), S = ⟨mkT [(2, .bool v1)], mkR [], 64⟩ ∧ s_IsValidPauli_j1 v1 = some r) hN ?_ ?_
  ·intro K hK; obtain ⟨x2, h3, h⟩ := bO_inv h; simp only [EV, seval]; refine CP (s_l1In_ok h3) ?_; obtain ⟨x4, hv1, h⟩ := bO_inv h; rcases br_inv hv1 with ⟨hc2, hv1⟩ | ⟨hc2, hv1⟩
   ·obtain ⟨x7, h6, hv1⟩ := bO_inv hv1; simp only [EV, seval, hc2]; refine rC_p (s_l1In_ok h6) (by simp only [AL, EV, seval, hc2]) (le_d rfl) (no_j rfl) ?_; cases hv1; obtain ⟨x9, hv3, h⟩ := bO_inv h; rcases br_inv hv3 with ⟨hc4, hv3⟩ | ⟨hc4, hv3⟩
    ·obtain ⟨x10, h8, hv3⟩ := bO_inv hv3; simp only [EV, seval, hc2, hc4]; refine rC_p (s_l1In_ok h8) (by simp only [AL, EV, seval, hc2, hc4]) (le_d rfl) (no_j rfl) ?_; cases hv3; simp only [EV, seval, hc2, hc4]; refine hK _ _ _ (show cutK _ _ _ from cutL ⟨_, rfl, h⟩ (Le_can [] [] hρ (by kernel_rfl) ?_ ?_))
     ·simp only [AL, EV, seval, hc2, hc4]
     ·simp only [AL, EV, seval, hc2, hc4]
    ·cases hv3; simp only [EV, seval, hc2, hc4]; refine hK _ _ _ (show cutK _ _ _ from cutL ⟨_, rfl, h⟩ (Le_can [] [] hρ (by kernel_rfl) ?_ ?_))
     ·simp only [AL, EV, seval, hc2, hc4]
     ·simp only [AL, EV, seval, hc2, hc4]
   ·cases hv1; obtain ⟨x11, hv4, h⟩ := bO_inv h; replace hv4 := br_f hv4; cases hv4; (try dsimp only at h); simp only [EV, seval, hc2]; refine hK _ _ _ (show cutK _ _ _ from cutL ⟨_, rfl, h⟩ (Le_can [] [] hρ (by kernel_rfl) ?_ ?_))
    ·simp only [AL, EV, seval, hc2]
    ·simp only [AL, EV, seval, hc2]
  ·rintro S ⟨v1, rfl, h⟩; unfold s_IsValidPauli_j1 at h; injection h with h; subst h; refine AW_le (Le_can (lt := [(2, .bool v1)]) (lr := []) (b' := 64) [] [] hρ (by kernel_rfl) ?_ ?_) (AW_ret (end_q [] (.inr rfl) (by kernel_rfl) (by kernel_rfl) ?_))
   ·simp only [AL, EV, seval, h2]
   ·simp only [AL, EV, seval, h2]
   ·simp only [EV, Tryz.results230, seval]
/- math/bits.OnesCount64 -/
def math_bits_OnesCount64 (a1 : Int) : Option Int :=
  some (bits .and .i64 (IntKind.wrap .i64 (IntKind.wrap .u64 ((IntKind.wrap .u64 ((IntKind.wrap .u64 ((bits .and .u64 (IntKind.wrap .u64 ((Int.fdiv (IntKind.wrap .u64 ((bits .and .u64 (Int.fdiv (IntKind.wrap .u64 ((bits .and .u64 (Int.fdiv a1 (2 ^ min (Int.toNat 1) (IntKind.bits .u64))) 6148914691236517205) + (bits .and .u64 a1 6148914691236517205))) (2 ^ min (Int.toNat 2) (IntKind.bits .u64))) 3689348814741910323) + (bits .and .u64 (IntKind.wrap .u64 ((bits .and .u64 (Int.fdiv a1 (2 ^ min (Int.toNat 1) (IntKind.bits .u64))) 6148914691236517205) + (bits .and .u64 a1 6148914691236517205))) 3689348814741910323))) (2 ^ min (Int.toNat 4) (IntKind.bits .u64))) + (IntKind.wrap .u64 ((bits .and .u64 (Int.fdiv (IntKind.wrap .u64 ((bits .and .u64 (Int.fdiv a1 (2 ^ min (Int.toNat 1) (IntKind.bits .u64))) 6148914691236517205) + (bits .and .u64 a1 6148914691236517205))) (2 ^ min (Int.toNat 2) (IntKind.bits .u64))) 3689348814741910323) + (bits .and .u64 (IntKind.wrap .u64 ((bits .and .u64 (Int.fdiv a1 (2 ^ min (Int.toNat 1) (IntKind.bits .u64))) 6148914691236517205) + (bits .and .u64 a1 6148914691236517205))) 3689348814741910323))))) 1085102592571150095) + (Int.fdiv (bits .and .u64 (IntKind.wrap .u64 ((Int.fdiv (IntKind.wrap .u64 ((bits .and .u64 (Int.fdiv (IntKind.wrap .u64 ((bits .and .u64 (Int.fdiv a1 (2 ^ min (Int.toNat 1) (IntKind.bits .u64))) 6148914691236517205) + (bits .and .u64 a1 6148914691236517205))) (2 ^ min (Int.toNat 2) (IntKind.bits .u64))) 3689348814741910323) + (bits .and .u64 (IntKind.wrap .u64 ((bits .and .u64 (Int.fdiv a1 (2 ^ min (Int.toNat 1) (IntKind.bits .u64))) 6148914691236517205) + (bits .and .u64 a1 6148914691236517205))) 3689348814741910323))) (2 ^ min (Int.toNat 4) (IntKind.bits .u64))) + (IntKind.wrap .u64 ((bits .and .u64 (Int.fdiv (IntKind.wrap .u64 ((bits .and .u64 (Int.fdiv a1 (2 ^ min (Int.toNat 1) (IntKind.bits .u64))) 6148914691236517205) + (bits .and .u64 a1 6148914691236517205))) (2 ^ min (Int.toNat 2) (IntKind.bits .u64))) 3689348814741910323) + (bits .and .u64 (IntKind.wrap .u64 ((bits .and .u64 (Int.fdiv a1 (2 ^ min (Int.toNat 1) (IntKind.bits .u64))) 6148914691236517205) + (bits .and .u64 a1 6148914691236517205))) 3689348814741910323))))) 1085102592571150095) (2 ^ min (Int.toNat 8) (IntKind.bits .u64))))) + (Int.fdiv (IntKind.wrap .u64 ((bits .and .u64 (IntKind.wrap .u64 ((Int.fdiv (IntKind.wrap .u64 ((bits .and .u64 (Int.fdiv (IntKind.wrap .u64 ((bits .and .u64 (Int.fdiv a1 (2 ^ min (Int.toNat 1) (IntKind.bits .u64))) 6148914691236517205) + (bits .and .u64 a1 6148914691236517205))) (2 ^ min (Int.toNat 2) (IntKind.bits .u64))) 3689348814741910323) + (bits .and .u64 (IntKind.wrap .u64 ((bits .and .u64 (Int.fdiv a1 (2 ^ min (Int.toNat 1) (IntKind.bits .u64))) 6148914691236517205) + (bits .and .u64 a1 6148914691236517205))) 3689348814741910323))) (2 ^ min (Int.toNat 4) (IntKind.bits .u64))) + (IntKind.wrap .u64 ((bits .and .u64 (Int.fdiv (IntKind.wrap .u64 ((bits .and .u64 (Int.fdiv a1 (2 ^ min (Int.toNat 1) (IntKind.bits .u64))) 6148914691236517205) + (bits .and .u64 a1 6148914691236517205))) (2 ^ min (Int.toNat 2) (IntKind.bits .u64))) 3689348814741910323) + (bits .and .u64 (IntKind.wrap .u64 ((bits .and .u64 (Int.fdiv a1 (2 ^ min (Int.toNat 1) (IntKind.bits .u64))) 6148914691236517205) + (bits .and .u64 a1 6148914691236517205))) 3689348814741910323))))) 1085102592571150095) + (Int.fdiv (bits .and .u64 (IntKind.wrap .u64 ((Int.fdiv (IntKind.wrap .u64 ((bits .and .u64 (Int.fdiv (IntKind.wrap .u64 ((bits .and .u64 (Int.fdiv a1 (2 ^ min (Int.toNat 1) (IntKind.bits .u64))) 6148914691236517205) + (bits .and .u64 a1 6148914691236517205))) (2 ^ min (Int.toNat 2) (IntKind.bits .u64))) 3689348814741910323) + (bits .and .u64 (IntKind.wrap .u64 ((bits .and .u64 (Int.fdiv a1 (2 ^ min (Int.toNat 1) (IntKind.bits .u64))) 6148914691236517205) + (bits .and .u64 a1 6148914691236517205))) 3689348814741910323))) (2 ^ min (Int.toNat 4) (IntKind.bits .u64))) + (IntKind.wrap .u64 ((bits .and .u64 (Int.fdiv (IntKind.wrap .u64 ((bits .and .u64 (Int.fdiv a1 (2 ^ min (Int.toNat 1) (IntKind.bits .u64))) 6148914691236517205) + (bits .and .u64 a1 6148914691236517205))) (2 ^ min (Int.toNat 2) (IntKind.bits .u64))) 3689348814741910323) + (bits .and .u64 (IntKind.wrap .u64 ((bits .and .u64 (Int.fdiv a1 (2 ^ min (Int.toNat 1) (IntKind.bits .u64))) 6148914691236517205) + (bits .and .u64 a1 6148914691236517205))) 3689348814741910323))))) 1085102592571150095) (2 ^ min (Int.toNat 8) (IntKind.bits .u64))))) (2 ^ min (Int.toNat 16) (IntKind.bits .u64))))) + (Int.fdiv (IntKind.wrap .u64 ((IntKind.wrap .u64 ((bits .and .u64 (IntKind.wrap .u64 ((Int.fdiv (IntKind.wrap .u64 ((bits .and .u64 (Int.fdiv (IntKind.wrap .u64 ((bits .and .u64 (Int.fdiv a1 (2 ^ min (Int.toNat 1) (IntKind.bits .u64))) 6148914691236517205) + (bits .and .u64 a1 6148914691236517205))) (2 ^ min (Int.toNat 2) (IntKind.bits .u64))) 3689348814741910323) + (bits .and .u64 (IntKind.wrap .u64 ((bits .and .u64 (Int.fdiv a1 (2 ^ min (Int.toNat 1) (IntKind.bits .u64))) 6148914691236517205) + (bits .and .u64 a1 6148914691236517205))) 3689348814741910323))) (2 ^ min (Int.toNat 4) (IntKind.bits .u64))) + (IntKind.wrap .u64 ((bits .and .u64 (Int.fdiv (IntKind.wrap .u64 ((bits .and .u64 (Int.fdiv a1 (2 ^ min (Int.toNat 1) (IntKind.bits .u64))) 6148914691236517205) + (bits .and .u64 a1 6148914691236517205))) (2 ^ min (Int.toNat 2) (IntKind.bits .u64))) 3689348814741910323) + (bits .and .u64 (IntKind.wrap .u64 ((bits .and .u64 (Int.fdiv a1 (2 ^ min (Int.toNat 1) (IntKind.bits .u64))) 6148914691236517205) + (bits .and .u64 a1 6148914691236517205))) 3689348814741910323))))) 1085102592571150095) + (Int.fdiv (bits .and .u64 (IntKind.wrap .u64 ((Int.fdiv (IntKind.wrap .u64 ((bits .and .u64 (Int.fdiv (IntKind.wrap .u64 ((bits .and .u64 (Int.fdiv a1 (2 ^ min (Int.toNat 1) (IntKind.bits .u64))) 6148914691236517205) + (bits .and .u64 a1 6148914691236517205))) (2 ^ min (Int.toNat 2) (IntKind.bits .u64))) 3689348814741910323) + (bits .and .u64 (IntKind.wrap .u64 ((bits .and .u64 (Int.fdiv a1 (2 ^ min (Int.toNat 1) (IntKind.bits .u64))) 6148914691236517205) + (bits .and .u64 a1 6148914691236517205))) 3689348814741910323))) (2 ^ min (Int.toNat 4) (IntKind.bits .u64))) + (IntKind.wrap .u64 ((bits .and .u64 (Int.fdiv (IntKind.wrap .u64 ((bits .and .u64 (Int.fdiv a1 (2 ^ min (Int.toNat 1) (IntKind.bits .u64))) 6148914691236517205) + (bits .and .u64 a1 6148914691236517205))) (2 ^ min (Int.toNat 2) (IntKind.bits .u64))) 3689348814741910323) + (bits .and .u64 (IntKind.wrap .u64 ((bits .and .u64 (Int.fdiv a1 (2 ^ min (Int.toNat 1) (IntKind.bits .u64))) 6148914691236517205) + (bits .and .u64 a1 6148914691236517205))) 3689348814741910323))))) 1085102592571150095) (2 ^ min (Int.toNat 8) (IntKind.bits .u64))))) + (Int.fdiv (IntKind.wrap .u64 ((bits .and .u64 (IntKind.wrap .u64 ((Int.fdiv (IntKind.wrap .u64 ((bits .and .u64 (Int.fdiv (IntKind.wrap .u64 ((bits .and .u64 (Int.fdiv a1 (2 ^ min (Int.toNat 1) (IntKind.bits .u64))) 6148914691236517205) + (bits .and .u64 a1 6148914691236517205))) (2 ^ min (Int.toNat 2) (IntKind.bits .u64))) 3689348814741910323) + (bits .and .u64 (IntKind.wrap .u64 ((bits .and .u64 (Int.fdiv a1 (2 ^ min (Int.toNat 1) (IntKind.bits .u64))) 6148914691236517205) + (bits .and .u64 a1 6148914691236517205))) 3689348814741910323))) (2 ^ min (Int.toNat 4) (IntKind.bits .u64))) + (IntKind.wrap .u64 ((bits .and .u64 (Int.fdiv (IntKind.wrap .u64 ((bits .and .u64 (Int.fdiv a1 (2 ^ min (Int.toNat 1) (IntKind.bits .u64))) 6148914691236517205) + (bits .and .u64 a1 6148914691236517205))) (2 ^ min (Int.toNat 2) (IntKind.bits .u64))) 3689348814741910323) + (bits .and .u64 (IntKind.wrap .u64 ((bits .and .u64 (Int.fdiv a1 (2 ^ min (Int.toNat 1) (IntKind.bits .u64))) 6148914691236517205) + (bits .and .u64 a1 6148914691236517205))) 3689348814741910323))))) 1085102592571150095) + (Int.fdiv (bits .and .u64 (IntKind.wrap .u64 ((Int.fdiv (IntKind.wrap .u64 ((bits .and .u64 (Int.fdiv (IntKind.wrap .u64 ((bits .and .u64 (Int.fdiv a1 (2 ^ min (Int.toNat 1) (IntKind.bits .u64))) 6148914691236517205) + (bits .and .u64 a1 6148914691236517205))) (2 ^ min (Int.toNat 2) (IntKind.bits .u64))) 3689348814741910323) + (bits .and .u64 (IntKind.wrap .u64 ((bits .and .u64 (Int.fdiv a1 (2 ^ min (Int.toNat 1) (IntKind.bits .u64))) 6148914691236517205) + (bits .and .u64 a1 6148914691236517205))) 3689348814741910323))) (2 ^ min (Int.toNat 4) (IntKind.bits .u64))) + (IntKind.wrap .u64 ((bits .and .u64 (Int.fdiv (IntKind.wrap .u64 ((bits .and .u64 (Int.fdiv a1 (2 ^ min (Int.toNat 1) (IntKind.bits .u64))) 6148914691236517205) + (bits .and .u64 a1 6148914691236517205))) (2 ^ min (Int.toNat 2) (IntKind.bits .u64))) 3689348814741910323) + (bits .and .u64 (IntKind.wrap .u64 ((bits .and .u64 (Int.fdiv a1 (2 ^ min (Int.toNat 1) (IntKind.bits .u64))) 6148914691236517205) + (bits .and .u64 a1 6148914691236517205))) 3689348814741910323))))) 1085102592571150095) (2 ^ min (Int.toNat 8) (IntKind.bits .u64))))) (2 ^ min (Int.toNat 16) (IntKind.bits .u64))))) (2 ^ min (Int.toNat 32) (IntKind.bits .u64)))))) 127)
theorem math_bits_OnesCount64_ok {a1 r : Int} (h : math_bits_OnesCount64 a1 = some r) :
    Spec Tryz.prog 241 [.int .u64 a1] [] (.int .i64 r) [] := by
 unfold math_bits_OnesCount64 at h; refine SO Tryz.func241 rfl Tryz.ntmps241 fun C hN hρ => ?_; simp only [st0, tmps0, Nat.zero_add, Nat.reduceAdd]; refine AN hN ?_; refine AN hN ?_; refine AN hN ?_; refine AN hN ?_; refine AN hN ?_; refine AN hN ?_; refine AN hN ?_; refine AN hN ?_; injection h with h; subst h; exact AX (b' := 64) [(2, .int .i64 (bits .and .i64 (IntKind.wrap .i64 (IntKind.wrap .u64 ((IntKind.wrap .u64 ((IntKind.wrap .u64 ((bits .and .u64 (IntKind.wrap .u64 ((Int.fdiv (IntKind.wrap .u64 ((bits .and .u64 (Int.fdiv (IntKind.wrap .u64 ((bits .and .u64 (Int.fdiv a1 (2 ^ min (Int.toNat 1) (IntKind.bits .u64))) 6148914691236517205) + (bits .and .u64 a1 6148914691236517205))) (2 ^ min (Int.toNat 2) (IntKind.bits .u64))) 3689348814741910323) + (bits .and .u64 (IntKind.wrap .u64 ((bits .and .u64 (Int.fdiv a1 (2 ^ min (Int.toNat 1) (IntKind.bits .u64))) 6148914691236517205) + (bits .and .u64 a1 6148914691236517205))) 3689348814741910323))) (2 ^ min (Int.toNat 4) (IntKind.bits .u64))) + (IntKind.wrap .u64 ((bits .and .u64 (Int.fdiv (IntKind.wrap .u64 ((bits .and .u64 (Int.fdiv a1 (2 ^ min (Int.toNat 1) (IntKind.bits .u64))) 6148914691236517205) + (bits .and .u64 a1 6148914691236517205))) (2 ^ min (Int.toNat 2) (IntKind.bits .u64))) 3689348814741910323) + (bits .and .u64 (IntKind.wrap .u64 ((bits .and .u64 (Int.fdiv a1 (2 ^ min (Int.toNat 1) (IntKind.bits .u64))) 6148914691236517205) + (bits .and .u64 a1 6148914691236517205))) 3689348814741910323))))) 1085102592571150095) + (Int.fdiv (bits .and .u64 (IntKind.wrap .u64 ((Int.fdiv (IntKind.wrap .u64 ((bits .and .u64 (Int.fdiv (IntKind.wrap .u64 ((bits .and .u64 (Int.fdiv a1 (2 ^ min (Int.toNat 1) (IntKind.bits .u64))) 6148914691236517205) + (bits .and .u64 a1 6148914691236517205))) (2 ^ min (Int.toNat 2) (IntKind.bits .u64))) 3689348814741910323) + (bits .and .u64 (IntKind.wrap .u64 ((bits .and .u64 (Int.fdiv a1 (2 ^ min (Int.toNat 1) (IntKind.bits .u64))) 6148914691236517205) + (bits .and .u64 a1 6148914691236517205))) 3689348814741910323))) (2 ^ min (Int.toNat 4) (IntKind.bits .u64))) + (IntKind.wrap .u64 ((bits .and .u64 (Int.fdiv (IntKind.wrap .u64 ((bits .and .u64 (Int.fdiv a1 (2 ^ min (Int.toNat 1) (IntKind.bits .u64))) 6148914691236517205) + (bits .and .u64 a1 6148914691236517205))) (2 ^ min (Int.toNat 2) (IntKind.bits .u64))) 3689348814741910323) + (bits .and .u64 (IntKind.wrap .u64 ((bits .and .u64 (Int.fdiv a1 (2 ^ min (Int.toNat 1) (IntKind.bits .u64))) 6148914691236517205) + (bits .and .u64 a1 6148914691236517205))) 3689348814741910323))))) 1085102592571150095) (2 ^ min (Int.toNat 8) (IntKind.bits .u64))))) + (Int.fdiv (IntKind.wrap .u64 ((bits .and .u64 (IntKind.wrap .u64 ((Int.fdiv (IntKind.wrap .u64 ((bits .and .u64 (Int.fdiv (IntKind.wrap .u64 ((bits .and .u64 (Int.fdiv a1 (2 ^ min (Int.toNat 1) (IntKind.bits .u64))) 6148914691236517205) + (bits .and .u64 a1 6148914691236517205))) (2 ^ min (Int.toNat 2) (IntKind.bits .u64))) 3689348814741910323) + (bits .and .u64 (IntKind.wrap .u64 ((bits .and .u64 (Int.fdiv a1 (2 ^ min (Int.toNat 1) (IntKind.bits .u64))) 6148914691236517205) + (bits .and .u64 a1 6148914691236517205))) 3689348814741910323))) (2 ^ min (Int.toNat 4) (IntKind.bits .u64))) + (IntKind.wrap .u64 ((bits .and .u64 (Int.fdiv (IntKind.wrap .u64 ((bits .and .u64 (Int.fdiv a1 (2 ^ min (Int.toNat 1) (IntKind.bits .u64))) 6148914691236517205) + (bits .and .u64 a1 6148914691236517205))) (2 ^ min (Int.toNat 2) (IntKind.bits .u64))) 3689348814741910323) + (bits .and .u64 (IntKind.wrap .u64 ((bits .and .u64 (Int.fdiv a1 (2 ^ min (Int.toNat 1) (IntKind.bits .u64))) 6148914691236517205) + (bits .and .u64 a1 6148914691236517205))) 3689348814741910323))))) 1085102592571150095) + (Int.fdiv (bits .and .u64 (IntKind.wrap .u64 ((Int.fdiv (IntKind.wrap .u64 ((bits .and .u64 (Int.fdiv (IntKind.wrap .u64 ((bits .and .u64 (Int.fdiv a1 (2 ^ min (Int.toNat 1) (IntKind.bits .u64))) 6148914691236517205) + (bits .and .u64 a1 6148914691236517205))) (2 ^ min (Int.toNat 2) (IntKind.bits .u64))) 3689348814741910323) + (bits .and .u64 (IntKind.wrap .u64 ((bits .and .u64 (Int.fdiv a1 (2 ^ min (Int.toNat 1) (IntKind.bits .u64))) 6148914691236517205) + (bits .and .u64 a1 6148914691236517205))) 3689348814741910323))) (2 ^ min (Int.toNat 4) (IntKind.bits .u64))) + (IntKind.wrap .u64 ((bits .and .u64 (Int.fdiv (IntKind.wrap .u64 ((bits .and .u64 (Int.fdiv a1 (2 ^ min (Int.toNat 1) (IntKind.bits .u64))) 6148914691236517205) + (bits .and .u64 a1 6148914691236517205))) (2 ^ min (Int.toNat 2) (IntKind.bits .u64))) 3689348814741910323) + (bits .and .u64 (IntKind.wrap .u64 ((bits .and .u64 (Int.fdiv a1 (2 ^ min (Int.toNat 1) (IntKind.bits .u64))) 6148914691236517205) + (bits .and .u64 a1 6148914691236517205))) 3689348814741910323))))) 1085102592571150095) (2 ^ min (Int.toNat 8) (IntKind.bits .u64))))) (2 ^ min (Int.toNat 16) (IntKind.bits .u64))))) + (Int.fdiv (IntKind.wrap .u64 ((IntKind.wrap .u64 ((bits .and .u64 (IntKind.wrap .u64 ((Int.fdiv (IntKind.wrap .u64 ((bits .and .u64 (Int.fdiv (IntKind.wrap .u64 ((bits .and .u64 (Int.fdiv a1 (2 ^ min (Int.toNat 1) (IntKind.bits .u64))) 6148914691236517205) + (bits .and .u64 a1 6148914691236517205))) (2 ^ min (Int.toNat 2) (IntKind.bits .u64))) 3689348814741910323) + (bits .and .u64 (IntKind.wrap .u64 ((bits .and .u64 (Int.fdiv a1 (2 ^ min (Int.toNat 1) (IntKind.bits .u64))) 6148914691236517205) + (bits .and .u64 a1 6148914691236517205))) 3689348814741910323))) (2 ^ min (Int.toNat 4) (IntKind.bits .u64))) + (IntKind.wrap .u64 ((bits .and .u64 (Int.fdiv (IntKind.wrap .u64 ((bits .and .u64 (Int.fdiv a1 (2 ^ min (Int.toNat 1) (IntKind.bits .u64))) 6148914691236517205) + (bits .and .u64 a1 6148914691236517205))) (2 ^ min (Int.toNat 2) (IntKind.bits .u64))) 3689348814741910323) + (bits .and .u64 (IntKind.wrap .u64 ((bits .and .u64 (Int.fdiv a1 (2 ^ min (Int.toNat 1) (IntKind.bits .u64))) 6148914691236517205) + (bits .and .u64 a1 6148914691236517205))) 3689348814741910323))))) 1085102592571150095) + (Int.fdiv (bits .and .u64 (IntKind.wrap .u64 ((Int.fdiv (IntKind.wrap .u64 ((bits .and .u64 (Int.fdiv (IntKind.wrap .u64 ((bits .and .u64 (Int.fdiv a1 (2 ^ min (Int.toNat 1) (IntKind.bits .u64))) 6148914691236517205) + (bits .and .u64 a1 6148914691236517205))) (2 ^ min (Int.toNat 2) (IntKind.bits .u64))) 3689348814741910323) + (bits .and .u64 (IntKind.wrap .u64 ((bits .and .u64 (Int.fdiv a1 (2 ^ min (Int.toNat 1) (IntKind.bits .u64))) 6148914691236517205) + (bits .and .u64 a1 6148914691236517205))) 3689348814741910323))) (2 ^ min (Int.toNat 4) (IntKind.bits .u64))) + (IntKind.wrap .u64 ((bits .and .u64 (Int.fdiv (IntKind.wrap .u64 ((bits .and .u64 (Int.fdiv a1 (2 ^ min (Int.toNat 1) (IntKind.bits .u64))) 6148914691236517205) + (bits .and .u64 a1 6148914691236517205))) (2 ^ min (Int.toNat 2) (IntKind.bits .u64))) 3689348814741910323) + (bits .and .u64 (IntKind.wrap .u64 ((bits .and .u64 (Int.fdiv a1 (2 ^ min (Int.toNat 1) (IntKind.bits .u64))) 6148914691236517205) + (bits .and .u64 a1 6148914691236517205))) 3689348814741910323))))) 1085102592571150095) (2 ^ min (Int.toNat 8) (IntKind.bits .u64))))) + (Int.fdiv (IntKind.wrap .u64 ((bits .and .u64 (IntKind.wrap .u64 ((Int.fdiv (IntKind.wrap .u64 ((bits .and .u64 (Int.fdiv (IntKind.wrap .u64 ((bits .and .u64 (Int.fdiv a1 (2 ^ min (Int.toNat 1) (IntKind.bits .u64))) 6148914691236517205) + (bits .and .u64 a1 6148914691236517205))) (2 ^ min (Int.toNat 2) (IntKind.bits .u64))) 3689348814741910323) + (bits .and .u64 (IntKind.wrap .u64 ((bits .and .u64 (Int.fdiv a1 (2 ^ min (Int.toNat 1) (IntKind.bits .u64))) 6148914691236517205) + (bits .and .u64 a1 6148914691236517205))) 3689348814741910323))) (2 ^ min (Int.toNat 4) (IntKind.bits .u64))) + (IntKind.wrap .u64 ((bits .and .u64 (Int.fdiv (IntKind.wrap .u64 ((bits .and .u64 (Int.fdiv a1 (2 ^ min (Int.toNat 1) (IntKind.bits .u64))) 6148914691236517205) + (bits .and .u64 a1 6148914691236517205))) (2 ^ min (Int.toNat 2) (IntKind.bits .u64))) 3689348814741910323) + (bits .and .u64 (IntKind.wrap .u64 ((bits .and .u64 (Int.fdiv a1 (2 ^ min (Int.toNat 1) (IntKind.bits .u64))) 6148914691236517205) + (bits .and .u64 a1 6148914691236517205))) 3689348814741910323))))) 1085102592571150095) + (Int.fdiv (bits .and .u64 (IntKind.wrap .u64 ((Int.fdiv (IntKind.wrap .u64 ((bits .and .u64 (Int.fdiv (IntKind.wrap .u64 ((bits .and .u64 (Int.fdiv a1 (2 ^ min (Int.toNat 1) (IntKind.bits .u64))) 6148914691236517205) + (bits .and .u64 a1 6148914691236517205))) (2 ^ min (Int.toNat 2) (IntKind.bits .u64))) 3689348814741910323) + (bits .and .u64 (IntKind.wrap .u64 ((bits .and .u64 (Int.fdiv a1 (2 ^ min (Int.toNat 1) (IntKind.bits .u64))) 6148914691236517205) + (bits .and .u64 a1 6148914691236517205))) 3689348814741910323))) (2 ^ min (Int.toNat 4) (IntKind.bits .u64))) + (IntKind.wrap .u64 ((bits .and .u64 (Int.fdiv (IntKind.wrap .u64 ((bits .and .u64 (Int.fdiv a1 (2 ^ min (Int.toNat 1) (IntKind.bits .u64))) 6148914691236517205) + (bits .and .u64 a1 6148914691236517205))) (2 ^ min (Int.toNat 2) (IntKind.bits .u64))) 3689348814741910323) + (bits .and .u64 (IntKind.wrap .u64 ((bits .and .u64 (Int.fdiv a1 (2 ^ min (Int.toNat 1) (IntKind.bits .u64))) 6148914691236517205) + (bits .and .u64 a1 6148914691236517205))) 3689348814741910323))))) 1085102592571150095) (2 ^ min (Int.toNat 8) (IntKind.bits .u64))))) (2 ^ min (Int.toNat 16) (IntKind.bits .u64))))) (2 ^ min (Int.toNat 32) (IntKind.bits .u64)))))) 127))] [] [] [] hρ (EQ [])
/- math/bits.OnesCount -/
def math_bits_OnesCount (a1 : Int) : Option Int :=
  bO (math_bits_OnesCount64 a1) fun x1 => some x1
theorem math_bits_OnesCount_ok {a1 r : Int} (h : math_bits_OnesCount a1 = some r) :
    Spec Tryz.prog 238 [.int .u64 a1] [] (.int .i64 r) [] := by
 unfold math_bits_OnesCount at h; refine SO Tryz.func238 rfl Tryz.ntmps238 fun C hN hρ => ?_; simp only [st0, tmps0, Nat.zero_add, Nat.reduceAdd]; refine AN hN ?_; refine AW_seq ?_; refine AW_condK (a := .bool false) (by simp only [EV, seval]) (condK_false ?_); refine AW_skip (AK ?_); obtain ⟨x1, h1, h⟩ := bO_inv h; refine AP hN (math_bits_OnesCount64_ok h1) ?_; injection h with h; subst h; exact AX (b' := 64) [(2, .int .i64 x1)] [] [] [] hρ (EQ [])
/- impl.ones -/
def i_ones (a1 : Int) : Option Int :=
  bO (math_bits_OnesCount (IntKind.wrap .u64 a1)) fun x1 => some x1
theorem i_ones_ok {a1 r : Int} (h : i_ones a1 = some r) :
    Spec Tryz.prog 226 [.int .i64 a1] [] (.int .i64 r) [] := by
 unfold i_ones at h; refine SO Tryz.func226 rfl Tryz.ntmps226 fun C hN hρ => ?_; simp only [st0, tmps0, Nat.zero_add, Nat.reduceAdd]; refine AN hN ?_; obtain ⟨x1, h1, h⟩ := bO_inv h; refine AP hN (math_bits_OnesCount_ok h1) ?_; injection h with h; subst h; exact AX (b' := 64) [(2, .int .i64 x1)] [] [] [] hρ (EQ [])
/- spec.l25Ones -/
def s_l25Ones_j1 (v5 : Int) : Option Int :=
  some v5
def s_l25Ones_l1 (a1 : Int) : Nat → Int → Int → Option Int
  | 0, _, _ => none
  | n1 + 1, v3, v4 =>
  br (decide (v4 < 64)) (gd (decide (¬ (IntKind.wrap .u64 v4) < 0)) ((s_l25Ones_l1 a1 n1) (IntKind.wrap .i64 (v3 + (bits .and .i64 (Int.fdiv a1 (2 ^ min (Int.toNat (IntKind.wrap .u64 v4)) (IntKind.bits .i64))) 1))) (IntKind.wrap .i64 (v4 + 1)))) (s_l25Ones_j1 v3)
def s_l25Ones (a1 : Int) : Option Int :=
  s_l25Ones_l1 a1 FU 0 0
theorem s_l25Ones_ok {a1 r : Int} (h : s_l25Ones a1 = some r) :
    Spec Tryz.prog 234 [.int .i64 a1] [] (.int .i64 r) [] := by
 unfold s_l25Ones at h; refine SO Tryz.func234 rfl Tryz.ntmps234 fun C hN hρ => ?_; simp only [st0, tmps0, Nat.zero_add, Nat.reduceAdd]; refine AN hN ?_; refine AN hN ?_; refine AW_cutK (fun S => ∃ (v5 : Int), S = ⟨mkT [(3, .int .i64 v5)], mkR [], 64⟩ ∧ s_l25Ones_j1 v5 = some r) ?_ ?_
 ·refine AN hN ?_; refine AW_block ?_; refine AW_loopF (fun n S => ∃ (v3 v4 : Int), S = ⟨mkT [(0, .int .i64 a1), (3, .int .i64 v3), (4, .int .i64 v4)], mkR [], 64⟩ ∧ s_l25Ones_l1 a1 n v3 v4 = some r) FU ?_ ?_ ?_
  ·exact AC ⟨_, _, rfl, h⟩ [] [] hρ
  ·rintro S ⟨_, _, _, h⟩; rw [s_l25Ones_l1] at h; cases h
  ·rintro n1 S ⟨v3, v4, rfl, h⟩; rw [s_l25Ones_l1] at h; refine AW_seq ?_; refine AN hN ?_; refine AB h (fun hc3 h => ?_) fun hc3 h => ?_
   ·refine AW_skip (AK ?_); refine AW_seq ?_; refine AW_block ?_; refine AS hN fun K hK => ?_; obtain ⟨h3, h⟩ := gd_inv h; replace h3 := of_decide_eq_true h3; simp only [EV, seval, h3]; refine hK _ _ _ (show AW _ _ _ _ _ from ?_); refine AS hN fun K hK => ?_; simp only [EV, seval]; exact hK _ _ _ (AC ⟨_, _, rfl, h⟩ [] [] hρ)
   ·exact AW_exit (AC ⟨_, rfl, h⟩ [] [] hρ)
 ·rintro S ⟨v5, rfl, h⟩; unfold s_l25Ones_j1 at h; refine AN hN ?_; injection h with h; subst h; exact AX (b' := 64) [(2, .int .i64 v5)] [] [] [] hρ (EQ [])
/- impl.IsHermitianPauli -/
def i_IsHermitianPauli_j1 (v1 : Bool) : Option Bool :=
  some v1
def i_IsHermitianPauli (a1 a2 a3 a4 : Int) : Option Bool :=
  bO (i_IsValidPauli a1 a2 a3 a4) fun x1 => bO (br x1 (bO (i_ones (bits .and .i64 a2 a3)) fun x2 => some ((Int.tmod a4 2) == (Int.tmod x2 2))) (some false)) fun x3 => i_IsHermitianPauli_j1 x3
theorem i_IsHermitianPauli_ok {a1 a2 a3 a4 : Int} {r : Bool} (h : i_IsHermitianPauli a1 a2 a3 a4 = some r) :
    Spec Tryz.prog 194 [.agg [.int .i64 a1, .int .i64 a2, .int .i64 a3, .int .i64 a4]] [] (.bool r) [] := by
 unfold i_IsHermitianPauli at h; refine SO Tryz.func194 rfl Tryz.ntmps194 fun C hN hρ => ?_; simp only [st0, tmps0, Nat.zero_add, Nat.reduceAdd]; refine AN hN ?_; refine AJ (fun S => ∃ (v1 : Bool), S = ⟨mkT [(2, .bool v1)], mkR [], 64⟩ ∧ i_IsHermitianPauli_j1 v1 = some r) hN ?_ ?_
 ·intro K hK; obtain ⟨x1, h1, h⟩ := bO_inv h; simp only [EV, seval]; refine CP (i_IsValidPauli_ok h1) ?_; obtain ⟨x3, hv1, h⟩ := bO_inv h; rcases br_inv hv1 with ⟨hc1, hv1⟩ | ⟨hc1, hv1⟩
  ·obtain ⟨x4, h3, hv1⟩ := bO_inv hv1; simp only [EV, seval, hc1]; refine rC_p (i_ones_ok h3) (by simp only [AL, EV, seval, hc1]) (le_d rfl) (no_j rfl) ?_; cases hv1; simp only [EV, seval, hc1]; refine hK _ _ _ (show cutK _ _ _ from cutL ⟨_, rfl, h⟩ (Le_can [] [] hρ (by kernel_rfl) ?_ ?_))
   ·simp only [AL, EV, seval, hc1]
   ·simp only [AL, EV, seval, hc1]
  ·cases hv1; simp only [EV, seval, hc1]; refine hK _ _ _ (show cutK _ _ _ from cutL ⟨_, rfl, h⟩ (Le_can [] [] hρ (by kernel_rfl) ?_ ?_))
   ·simp only [AL, EV, seval, hc1]
   ·simp only [AL, EV, seval, hc1]
 ·rintro S ⟨v1, rfl, h⟩; unfold i_IsHermitianPauli_j1 at h; injection h with h; subst h; exact AX (b' := 64) [(2, .bool v1)] [] [] [] hρ (EQ [])
/- spec.IsHermitianPauli -/
def s_IsHermitianPauli_j1 (v1 : Bool) : Option Bool :=
  some v1
def s_IsHermitianPauli (a1 a2 a3 a4 : Int) : Option Bool :=
  bO (s_IsValidPauli a1 a2 a3 a4) fun x1 => bO (br x1 (bO (s_l25Ones (bits .and .i64 a2 a3)) fun x2 => some ((Int.tmod (IntKind.wrap .i64 (a4 + x2)) 2) == 0)) (some false)) fun x3 => s_IsHermitianPauli_j1 x3
theorem s_IsHermitianPauli_ok {a1 a2 a3 a4 : Int} {r : Bool} (h : s_IsHermitianPauli a1 a2 a3 a4 = some r) :
    Spec Tryz.prog 205 [.agg [.int .i64 a1, .int .i64 a2, .int .i64 a3, .int .i64 a4]] [] (.bool r) [] := by
 unfold s_IsHermitianPauli at h; refine SO Tryz.func205 rfl Tryz.ntmps205 fun C hN hρ => ?_; simp only [st0, tmps0, Nat.zero_add, Nat.reduceAdd]; refine AN hN ?_; refine AJ (fun S => ∃ (v1 : Bool), S = ⟨mkT [(2, .bool v1)], mkR [], 64⟩ ∧ s_IsHermitianPauli_j1 v1 = some r) hN ?_ ?_
 ·intro K hK; obtain ⟨x1, h1, h⟩ := bO_inv h; simp only [EV, seval]; refine CP (s_IsValidPauli_ok h1) ?_; obtain ⟨x3, hv1, h⟩ := bO_inv h; rcases br_inv hv1 with ⟨hc1, hv1⟩ | ⟨hc1, hv1⟩
  ·obtain ⟨x4, h3, hv1⟩ := bO_inv hv1; simp only [EV, seval, hc1]; refine rC_p (s_l25Ones_ok h3) (by simp only [AL, EV, seval, hc1]) (le_d rfl) (no_j rfl) ?_; cases hv1; simp only [EV, seval, hc1]; refine hK _ _ _ (show cutK _ _ _ from cutL ⟨_, rfl, h⟩ (Le_can [] [] hρ (by kernel_rfl) ?_ ?_))
   ·simp only [AL, EV, seval, hc1]
   ·simp only [AL, EV, seval, hc1]
  ·cases hv1; simp only [EV, seval, hc1]; refine hK _ _ _ (show cutK _ _ _ from cutL ⟨_, rfl, h⟩ (Le_can [] [] hρ (by kernel_rfl) ?_ ?_))
   ·simp only [AL, EV, seval, hc1]
   ·simp only [AL, EV, seval, hc1]
 ·rintro S ⟨v1, rfl, h⟩; unfold s_IsHermitianPauli_j1 at h; injection h with h; subst h; exact AX (b' := 64) [(2, .bool v1)] [] [] [] hρ (EQ [])
/- impl.PaulisCommute -/
def i_PaulisCommute (a1 a2 a3 a4 a5 a6 a7 a8 : Int) : Option Bool :=
  bO (i_ones (bits .and .i64 a2 a7)) fun x1 => bO (i_ones (bits .and .i64 a3 a6)) fun x2 => some ((Int.tmod (IntKind.wrap .i64 (x1 + x2)) 2) == 0)
theorem i_PaulisCommute_ok {a1 a2 a3 a4 a5 a6 a7 a8 : Int} {r : Bool} (h : i_PaulisCommute a1 a2 a3 a4 a5 a6 a7 a8 = some r) :
    Spec Tryz.prog 195 [.agg [.int .i64 a1, .int .i64 a2, .int .i64 a3, .int .i64 a4], .agg [.int .i64 a5, .int .i64 a6, .int .i64 a7, .int .i64 a8]] [] (.bool r) [] := by
 unfold i_PaulisCommute at h; refine SO Tryz.func195 rfl Tryz.ntmps195 fun C hN hρ => ?_; simp only [st0, tmps0, Nat.zero_add, Nat.reduceAdd]; refine AN hN ?_; refine AR hN fun K hK => ?_; obtain ⟨x1, h1, h⟩ := bO_inv h; simp only [EV, seval]; refine CP (i_ones_ok h1) ?_; obtain ⟨x2, h2, h⟩ := bO_inv h; simp only [EV, seval]; refine CP (i_ones_ok h2) ?_; simp only [EV, seval]; refine hK _ _ _ ?_; clear hK K; injection h with h; subst h; exact AX (b' := 64) [(4, .bool ((Int.tmod (IntKind.wrap .i64 (x1 + x2)) 2) == 0))] [] [] [] hρ (EQ [])
/- spec.PaulisCommute -/
def s_PaulisCommute (a1 a2 a3 a4 a5 a6 a7 a8 : Int) : Option Bool :=
  bO (s_l25Ones (bits .and .i64 a2 a7)) fun x1 => bO (s_l25Ones (bits .and .i64 a3 a6)) fun x2 => some ((Int.tmod (IntKind.wrap .i64 (x1 + x2)) 2) == 0)
theorem s_PaulisCommute_ok {a1 a2 a3 a4 a5 a6 a7 a8 : Int} {r : Bool} (h : s_PaulisCommute a1 a2 a3 a4 a5 a6 a7 a8 = some r) :
    Spec Tryz.prog 206 [.agg [.int .i64 a1, .int .i64 a2, .int .i64 a3, .int .i64 a4], .agg [.int .i64 a5, .int .i64 a6, .int .i64 a7, .int .i64 a8]] [] (.bool r) [] := by
 unfold s_PaulisCommute at h; refine SO Tryz.func206 rfl Tryz.ntmps206 fun C hN hρ => ?_; simp only [st0, tmps0, Nat.zero_add, Nat.reduceAdd]; refine AN hN ?_; refine AR hN fun K hK => ?_; obtain ⟨x1, h1, h⟩ := bO_inv h; simp only [EV, seval]; refine CP (s_l25Ones_ok h1) ?_; obtain ⟨x2, h2, h⟩ := bO_inv h; simp only [EV, seval]; refine CP (s_l25Ones_ok h2) ?_; simp only [EV, seval]; refine hK _ _ _ ?_; clear hK K; injection h with h; subst h; exact AX (b' := 64) [(4, .bool ((Int.tmod (IntKind.wrap .i64 (x1 + x2)) 2) == 0))] [] [] [] hρ (EQ [])
/- impl.MulPauli -/
def i_MulPauli_j1 (a1 a2 a3 a4 a6 a7 a8 : Int) (v1 : Bool) : Option (Int × Int × Int × Int × Bool) :=
  br v1 (some (0, 0, 0, 0, false)) (bO (i_ones (bits .and .i64 a3 a6)) fun x8 => some (a1, bits .xor .i64 a2 a6, bits .xor .i64 a3 a7, Int.tmod (IntKind.wrap .i64 ((IntKind.wrap .i64 (a4 + a8)) + (IntKind.wrap .i64 (2 * x8)))) 4, true))
def i_MulPauli (a1 a2 a3 a4 a5 a6 a7 a8 : Int) : Option (Int × Int × Int × Int × Bool) :=
  bO (i_IsValidPauli a1 a2 a3 a4) fun x1 => bO (br (!x1) (some true) (bO (i_IsValidPauli a5 a6 a7 a8) fun x2 => some (!x2))) fun x3 => bO (br x3 (some true) (some (a1 != a5))) fun x4 => i_MulPauli_j1 a1 a2 a3 a4 a6 a7 a8 x4
theorem i_MulPauli_ok {a1 a2 a3 a4 a5 a6 a7 a8 : Int} {r : Int × Int × Int × Int × Bool} (h : i_MulPauli a1 a2 a3 a4 a5 a6 a7 a8 = some r) :
    Spec Tryz.prog 225 [.agg [.int .i64 a1, .int .i64 a2, .int .i64 a3, .int .i64 a4], .agg [.int .i64 a5, .int .i64 a6, .int .i64 a7, .int .i64 a8]] [] (.tup [.agg [.int .i64 r.1, .int .i64 r.2.1, .int .i64 r.2.2.1, .int .i64 r.2.2.2.1], .bool r.2.2.2.2]) [] := by
 unfold i_MulPauli at h; refine SO Tryz.func225 rfl Tryz.ntmps225 fun C hN hρ => ?_; simp only [st0, tmps0, Nat.zero_add, Nat.reduceAdd]; refine AN hN ?_; refine AW_seq ?_; refine AJ (fun S => ∃ (v1 : Bool), S = ⟨mkT [(2, .ptr 32 0), (3, .ptr 33 0), (4, .ptr 34 0), (20, .bool v1)], mkR [(32, .box 213 [.int .i64 a1, .int .i64 a2, .int .i64 a3, .int .i64 a4]), (33, .box 213 [.int .i64 a5, .int .i64 a6, .int .i64 a7, .int .i64 a8]), (34, .box 213 [.int .i64 0, .int .i64 0, .int .i64 0, .int .i64 0])], 64⟩ ∧ i_MulPauli_j1 a1 a2 a3 a4 a6 a7 a8 v1 = some r) hN ?_ ?_
 ·intro K hK; obtain ⟨x1, h1, h⟩ := bO_inv h; simp only [EV, seval]; refine CP (i_IsValidPauli_ok h1) ?_; obtain ⟨x3, hv1, h⟩ := bO_inv h; rcases br_inv hv1 with ⟨hc1, hv1⟩ | ⟨hc1, hv1⟩
  ·cases hv1; obtain ⟨x5, hv3, h⟩ := bO_inv h; replace hv3 := br_t hv3; cases hv3; (try dsimp only at h); simp only [EV, seval, hc1]; refine hK _ _ _ (show cutK _ _ _ from cutL ⟨_, rfl, h⟩ (Le_can [(32, some 64), (33, some 80), (34, some 96)] [] hρ (by kernel_rfl) ?_ ?_))
   ·simp only [AL, EV, seval, hc1]
   ·simp only [AL, EV, seval, hc1]
  ·obtain ⟨x6, h3, hv1⟩ := bO_inv hv1; simp only [EV, seval, hc1]; refine rC_p (i_IsValidPauli_ok h3) (by simp only [AL, EV, seval, hc1]) (le_d rfl) (no_j rfl) ?_; cases hv1; obtain ⟨x7, hv4, h⟩ := bO_inv h; rcases br_inv hv4 with ⟨hc3, hv4⟩ | ⟨hc3, hv4⟩
   ·cases hv4; simp only [EV, seval, hc1, hc3]; refine hK _ _ _ (show cutK _ _ _ from cutL ⟨_, rfl, h⟩ (Le_can [(32, some 64), (33, some 80), (34, some 96)] [] hρ (by kernel_rfl) ?_ ?_))
    ·simp only [AL, EV, seval, hc1, hc3]
    ·simp only [AL, EV, seval, hc1, hc3]
   ·cases hv4; simp only [EV, seval, hc1, hc3]; refine hK _ _ _ (show cutK _ _ _ from cutL ⟨_, rfl, h⟩ (Le_can [(32, some 64), (33, some 80), (34, some 96)] [] hρ (by kernel_rfl) ?_ ?_))
    ·simp only [AL, EV, seval, hc1, hc3]
    ·simp only [AL, EV, seval, hc1, hc3]
 ·rintro S ⟨v1, rfl, h⟩; unfold i_MulPauli_j1 at h; refine AB h (fun hc4 h => ?_) fun hc4 h => ?_
  ·refine AN hN ?_; injection h with h; subst h; exact AX (b' := 64) [(4, .ptr 32 0), (5, .bool false)] [(32, .box 213 [.int .i64 0, .int .i64 0, .int .i64 0, .int .i64 0])] [(32, some 34)] [] hρ (EQ [])
  ·refine AW_skip (AK ?_); obtain ⟨x8, h4, h⟩ := bO_inv h; refine AP hN (i_ones_ok h4) ?_; injection h with h; subst h; exact AX (b' := 64) [(4, .ptr 32 0), (5, .bool true)] [(32, .box 213 [.int .i64 a1, .int .i64 (bits .xor .i64 a2 a6), .int .i64 (bits .xor .i64 a3 a7), .int .i64 (Int.tmod (IntKind.wrap .i64 ((IntKind.wrap .i64 (a4 + a8)) + (IntKind.wrap .i64 (2 * x8)))) 4)])] [(32, some 34)] [] hρ (EQ [])
/- spec.MulPauli -/
def s_MulPauli_j1 (a1 a2 a3 a4 a6 a7 a8 : Int) (v1 : Bool) : Option (Int × Int × Int × Int × Bool) :=
  br v1 (some (0, 0, 0, 0, false)) (bO (s_l25Ones (bits .and .i64 a3 a6)) fun x8 => some (a1, bits .xor .i64 a2 a6, bits .xor .i64 a3 a7, Int.tmod (IntKind.wrap .i64 ((IntKind.wrap .i64 (a4 + a8)) + (IntKind.wrap .i64 (2 * x8)))) 4, true))
def s_MulPauli (a1 a2 a3 a4 a5 a6 a7 a8 : Int) : Option (Int × Int × Int × Int × Bool) :=
  bO (s_IsValidPauli a1 a2 a3 a4) fun x1 => bO (br (!x1) (some true) (bO (s_IsValidPauli a5 a6 a7 a8) fun x2 => some (!x2))) fun x3 => bO (br x3 (some true) (some (a1 != a5))) fun x4 => s_MulPauli_j1 a1 a2 a3 a4 a6 a7 a8 x4
theorem s_MulPauli_ok {a1 a2 a3 a4 a5 a6 a7 a8 : Int} {r : Int × Int × Int × Int × Bool} (h : s_MulPauli a1 a2 a3 a4 a5 a6 a7 a8 = some r) :
    Spec Tryz.prog 232 [.agg [.int .i64 a1, .int .i64 a2, .int .i64 a3, .int .i64 a4], .agg [.int .i64 a5, .int .i64 a6, .int .i64 a7, .int .i64 a8]] [] (.tup [.agg [.int .i64 r.1, .int .i64 r.2.1, .int .i64 r.2.2.1, .int .i64 r.2.2.2.1], .bool r.2.2.2.2]) [] := by
 unfold s_MulPauli at h; refine SO Tryz.func232 rfl Tryz.ntmps232 fun C hN hρ => ?_; simp only [st0, tmps0, Nat.zero_add, Nat.reduceAdd]; refine AN hN ?_; refine AW_seq ?_; refine AJ (fun S => ∃ (v1 : Bool), S = ⟨mkT [(2, .ptr 32 0), (3, .ptr 33 0), (4, .ptr 34 0), (20, .bool v1)], mkR [(32, .box 213 [.int .i64 a1, .int .i64 a2, .int .i64 a3, .int .i64 a4]), (33, .box 213 [.int .i64 a5, .int .i64 a6, .int .i64 a7, .int .i64 a8]), (34, .box 213 [.int .i64 0, .int .i64 0, .int .i64 0, .int .i64 0])], 64⟩ ∧ s_MulPauli_j1 a1 a2 a3 a4 a6 a7 a8 v1 = some r) hN ?_ ?_
 ·intro K hK; obtain ⟨x1, h1, h⟩ := bO_inv h; simp only [EV, seval]; refine CP (s_IsValidPauli_ok h1) ?_; obtain ⟨x3, hv1, h⟩ := bO_inv h; rcases br_inv hv1 with ⟨hc1, hv1⟩ | ⟨hc1, hv1⟩
  ·cases hv1; obtain ⟨x5, hv3, h⟩ := bO_inv h; replace hv3 := br_t hv3; cases hv3; (try dsimp only at h); simp only [EV, seval, hc1]; refine hK _ _ _ (show cutK _ _ _ from cutL ⟨_, rfl, h⟩ (Le_can [(32, some 64), (33, some 80), (34, some 96)] [] hρ (by kernel_rfl) ?_ ?_))
   ·simp only [AL, EV, seval, hc1]
   ·simp only [AL, EV, seval, hc1]
  ·obtain ⟨x6, h3, hv1⟩ := bO_inv hv1; simp only [EV, seval, hc1]; refine rC_p (s_IsValidPauli_ok h3) (by simp only [AL, EV, seval, hc1]) (le_d rfl) (no_j rfl) ?_; cases hv1; obtain ⟨x7, hv4, h⟩ := bO_inv h; rcases br_inv hv4 with ⟨hc3, hv4⟩ | ⟨hc3, hv4⟩
   ·cases hv4; simp only [EV, seval, hc1, hc3]; refine hK _ _ _ (show cutK _ _ _ from cutL ⟨_, rfl, h⟩ (Le_can [(32, some 64), (33, some 80), (34, some 96)] [] hρ (by kernel_rfl) ?_ ?_))
    ·simp only [AL, EV, seval, hc1, hc3]
    ·simp only [AL, EV, seval, hc1, hc3]
   ·cases hv4; simp only [EV, seval, hc1, hc3]; refine hK _ _ _ (show cutK _ _ _ from cutL ⟨_, rfl, h⟩ (Le_can [(32, some 64), (33, some 80), (34, some 96)] [] hρ (by kernel_rfl) ?_ ?_))
    ·simp only [AL, EV, seval, hc1, hc3]
    ·simp only [AL, EV, seval, hc1, hc3]
 ·rintro S ⟨v1, rfl, h⟩; unfold s_MulPauli_j1 at h; refine AB h (fun hc4 h => ?_) fun hc4 h => ?_
  ·refine AN hN ?_; injection h with h; subst h; exact AX (b' := 64) [(4, .ptr 32 0), (5, .bool false)] [(32, .box 213 [.int .i64 0, .int .i64 0, .int .i64 0, .int .i64 0])] [(32, some 34)] [] hρ (EQ [])
  ·refine AW_skip (AK ?_); obtain ⟨x8, h4, h⟩ := bO_inv h; refine AP hN (s_l25Ones_ok h4) ?_; injection h with h; subst h; exact AX (b' := 64) [(4, .ptr 32 0), (5, .bool true)] [(32, .box 213 [.int .i64 a1, .int .i64 (bits .xor .i64 a2 a6), .int .i64 (bits .xor .i64 a3 a7), .int .i64 (Int.tmod (IntKind.wrap .i64 ((IntKind.wrap .i64 (a4 + a8)) + (IntKind.wrap .i64 (2 * x8)))) 4)])] [(32, some 34)] [] hρ (EQ [])
/- spec.l25Single -/
def s_l25Single (a1 a2 : Int) (a3 : Bool) : Option (Int × Int × Int × Int) :=
  br a3 (gd (decide (¬ (IntKind.wrap .u64 a2) < 0)) (some (a1, 0, IntKind.wrap .i64 (1 * 2 ^ min (Int.toNat (IntKind.wrap .u64 a2)) (IntKind.bits .i64)), 0))) (gd (decide (¬ (IntKind.wrap .u64 a2) < 0)) (some (a1, IntKind.wrap .i64 (1 * 2 ^ min (Int.toNat (IntKind.wrap .u64 a2)) (IntKind.bits .i64)), 0, 0)))
theorem s_l25Single_ok {a1 a2 : Int} {a3 : Bool} {r : Int × Int × Int × Int} (h : s_l25Single a1 a2 a3 = some r) :
    Spec Tryz.prog 198 [.int .i64 a1, .int .i64 a2, .bool a3] [] (.agg [.int .i64 r.1, .int .i64 r.2.1, .int .i64 r.2.2.1, .int .i64 r.2.2.2]) [] := by
 unfold s_l25Single at h; refine SO Tryz.func198 rfl Tryz.ntmps198 fun C hN hρ => ?_; simp only [st0, tmps0, Nat.zero_add, Nat.reduceAdd]; refine AN hN ?_; refine AW_seq ?_; refine AN hN ?_; refine AB h (fun hc1 h => ?_) fun hc1 h => ?_
 ·refine AR hN fun K hK => ?_; obtain ⟨h1, h⟩ := gd_inv h; replace h1 := of_decide_eq_true h1; simp only [EV, seval, h1]; refine hK _ _ _ ?_; clear hK K; injection h with h; subst h; refine AW_le (Le_can (lt := [(6, .ptr 32 0)]) (lr := [(32, .box 213 [.int .i64 a1, .int .i64 0, .int .i64 (IntKind.wrap .i64 (1 * 2 ^ min (Int.toNat (IntKind.wrap .u64 a2)) (IntKind.bits .i64))), .int .i64 0])]) (b' := 64) [(32, some 64)] [] hρ (by kernel_rfl) ?_ ?_) (AW_ret (end_q [] (.inr rfl) (by kernel_rfl) (by kernel_rfl) ?_))
  ·simp only [AL, EV, seval, h1]
  ·simp only [AL, EV, seval, h1]
  ·simp only [EV, Tryz.results198, seval]
 ·refine AW_skip (AK ?_); refine AR hN fun K hK => ?_; obtain ⟨h2, h⟩ := gd_inv h; replace h2 := of_decide_eq_true h2; simp only [EV, seval, h2]; refine hK _ _ _ ?_; clear hK K; injection h with h; subst h; refine AW_le (Le_can (lt := [(6, .ptr 32 0)]) (lr := [(32, .box 213 [.int .i64 a1, .int .i64 (IntKind.wrap .i64 (1 * 2 ^ min (Int.toNat (IntKind.wrap .u64 a2)) (IntKind.bits .i64))), .int .i64 0, .int .i64 0])]) (b' := 64) [(32, some 64)] [] hρ (by kernel_rfl) ?_ ?_) (AW_ret (end_q [] (.inr rfl) (by kernel_rfl) (by kernel_rfl) ?_))
  ·simp only [AL, EV, seval, h2]
  ·simp only [AL, EV, seval, h2]
  ·simp only [EV, Tryz.results198, seval]
end Go.Proofs.YtfjopjalhllplaaGreat
/- Models of functions, and that the functions do what the models say; printed by a program. -/
namespace Go.Proofs.YtfjopjalhllplaaGreat
open Go.RowKit
set_option maxRecDepth 100000
set_option linter.unusedVariables false
set_option linter.unusedSimpArgs false
set_option linter.defProp false
set_option maxHeartbeats 4000000
/- impl.IsValidTableau -/
def i_IsValidTableau_j7 (v17 v18 : Int) (kl3 : Int → Int → Option Bool) : Option Bool :=
  kl3 v17 (IntKind.wrap .i64 (v18 + 1))
def i_IsValidTableau_l7 (a1 v17 v18 : Int) (kl3 : Int → Int → Option Bool) (q9 : Int × Int × Int × Int) (l6 : LQ) : Nat → Int → Int → Option Bool
  | 0, _, _ => none
  | n4 + 1, v23, v24 =>
  br (decide (v24 < v23)) (bO (geti l6 v24) fun q12 => bO (i_PaulisCommute q12.1 q12.2.1 q12.2.2.1 q12.2.2.2 q9.1 q9.2.1 q9.2.2.1 q9.2.2.2) fun x18 => br (x18 == (v18 == (IntKind.wrap .i64 (v24 + a1)))) (some false) ((i_IsValidTableau_l7 a1 v17 v18 kl3 q9 l6 n4) v23 (IntKind.wrap .i64 (v24 + 1)))) (i_IsValidTableau_j7 v17 v18 kl3)
def i_IsValidTableau_j8 (a1 : Int) (a2 : LQ) (v17 v18 : Int) (kl3 : Int → Int → Option Bool) (q9 : Int × Int × Int × Int) (v19 : Bool) : Option Bool :=
  br v19 (some false) (bO (slc a2 0 v18) fun l6 => i_IsValidTableau_l7 a1 v17 v18 kl3 q9 l6 FU ((l6.length : Int)) 0)
def i_IsValidTableau_j2 : Option Bool :=
  some true
def i_IsValidTableau_l1 (a1 : Int) (a2 : LQ) : Nat → Int → Int → Option Bool
  | 0, _, _ => none
  | n3 + 1, v17, v18 =>
  br (decide (v18 < v17)) (bO (geti a2 v18) fun q9 => bO (br (q9.1 != a1) (some true) (bO (i_IsHermitianPauli q9.1 q9.2.1 q9.2.2.1 q9.2.2.2) fun x13 => some (!x13))) fun x14 => i_IsValidTableau_j8 a1 a2 v17 v18 (i_IsValidTableau_l1 a1 a2 n3) q9 x14) (i_IsValidTableau_j2)
def i_IsValidTableau_j1 (a1 : Int) (a2 : LQ) (v1 : Bool) : Option Bool :=
  br v1 (some false) (i_IsValidTableau_l1 a1 a2 FU ((a2.length : Int)) 0)
def i_IsValidTableau (a1 : Int) (a2 : LQ) : Option Bool :=
  bO (i_in a1 1 4) fun x1 => bO (br (!x1) (some true) (some (((a2.length : Int)) != (IntKind.wrap .i64 (2 * a1))))) fun x2 => i_IsValidTableau_j1 a1 a2 x2
theorem i_IsValidTableau_ok {a1 : Int} {a2 : LQ} {r : Bool} (h : i_IsValidTableau a1 a2 = some r) :
    Spec Tryz.prog 151 [.agg [.int .i64 a1, .sl (encL EIIII a2) a2.length]] [] (.bool r) [] := by
 unfold i_IsValidTableau at h; refine SO Tryz.func151 rfl Tryz.ntmps151 fun C hN hρ => ?_; simp only [st0, tmps0, Nat.zero_add, Nat.reduceAdd]; refine AN hN ?_; refine AW_seq ?_; refine AJ (fun S => ∃ (v1 : Bool), S = ⟨mkT [(1, .ptr 32 0), (19, .bool v1)], mkR [(32, .box 116 [.int .i64 a1, .sl (encL EIIII a2) a2.length])], 64⟩ ∧ i_IsValidTableau_j1 a1 a2 v1 = some r) hN ?_ ?_
 ·intro K hK; obtain ⟨x1, h1, h⟩ := bO_inv h; simp only [EV, seval]; refine CP (i_in_ok h1) ?_; obtain ⟨x2, hv1, h⟩ := bO_inv h; rcases br_inv hv1 with ⟨hc1, hv1⟩ | ⟨hc1, hv1⟩
  ·cases hv1; simp only [EV, seval, hc1]; refine hK _ _ _ (show cutK _ _ _ from cutL ⟨_, rfl, h⟩ (Le_can [(32, some 64)] [] hρ (by kernel_rfl) ?_ ?_))
   ·simp only [AL, EV, seval, hc1]
   ·simp only [AL, EV, seval, hc1]
  ·cases hv1; simp only [EV, seval, hc1]; refine hK _ _ _ (show cutK _ _ _ from cutL ⟨_, rfl, h⟩ (Le_can [(32, some 64)] [] hρ (by kernel_rfl) ?_ ?_))
   ·simp only [AL, EV, seval, hc1]
   ·simp only [AL, EV, seval, hc1]
 ·rintro S ⟨v1, rfl, h⟩; unfold i_IsValidTableau_j1 at h; refine AB h (fun hc2 h => ?_) fun hc2 h => ?_
  ·refine AN hN ?_; injection h with h; subst h; exact AX (b' := 64) [(2, .bool false)] [] [] [] hρ (EQ [])
  ·refine AW_skip (AK ?_); refine AW_cutK (fun S => S = ⟨mkT [], mkR [], 64⟩ ∧ i_IsValidTableau_j2 = some r) ?_ ?_
   ·refine AN hN ?_; refine AW_block ?_; refine AW_loopF (fun n S => ∃ (v17 v18 : Int), S = ⟨mkT [(1, .ptr 32 0), (21, .sl (encL EIIII a2) a2.length), (22, .int .i64 v17), (23, .int .i64 v18)], mkR [(32, .box 116 [.int .i64 a1, .sl (encL EIIII a2) a2.length])], 64⟩ ∧ i_IsValidTableau_l1 a1 a2 n v17 v18 = some r) FU ?_ ?_ ?_
    ·exact AC ⟨_, _, rfl, h⟩ [(32, some 32)] [] hρ
    ·rintro S ⟨_, _, _, h⟩; rw [i_IsValidTableau_l1] at h; cases h
    ·rintro n3 S ⟨v17, v18, rfl, h⟩; rw [i_IsValidTableau_l1] at h; refine AN hN ?_; refine AW_seq ?_; refine AB h (fun hc21 h => ?_) fun hc21 h => ?_
     ·refine AW_skip (AK ?_); refine AW_cutK (fun S => S = ⟨mkT [(1, .ptr 32 0), (21, .sl (encL EIIII a2) a2.length), (22, .int .i64 v17), (23, .int .i64 v18)], mkR [(32, .box 116 [.int .i64 a1, .sl (encL EIIII a2) a2.length])], 64⟩ ∧ i_IsValidTableau_j7 v17 v18 (i_IsValidTableau_l1 a1 a2 n3) = some r) ?_ ?_
      ·refine AW_block ?_; refine AR hN fun K hK => ?_; obtain ⟨q9, h30, h⟩ := bO_inv h; obtain ⟨⟨h31a, h31b⟩, h31c⟩ := geti_E EIIIIl h30; (try simp only [EV, seval] at h31c); simp only [EV, seval, h31a, h31b, h31c]; refine hK _ _ _ ?_; clear hK K; refine AW_seq ?_; refine AJ (fun S => ∃ (v19 : Bool), S = ⟨mkT [(1, .ptr 32 0), (3, .int .i64 v18), (4, .ptr 33 0), (21, .sl (encL EIIII a2) a2.length), (22, .int .i64 v17), (23, .int .i64 v18), (37, .bool v19)], mkR [(32, .box 116 [.int .i64 a1, .sl (encL EIIII a2) a2.length]), (33, .box 213 [.int .i64 q9.1, .int .i64 q9.2.1, .int .i64 q9.2.2.1, .int .i64 q9.2.2.2])], 64⟩ ∧ i_IsValidTableau_j8 a1 a2 v17 v18 (i_IsValidTableau_l1 a1 a2 n3) q9 v19 = some r) hN ?_ ?_
       ·intro K hK; obtain ⟨x14, hv4, h⟩ := bO_inv h; rcases br_inv hv4 with ⟨hc22, hv4⟩ | ⟨hc22, hv4⟩
        ·cases hv4; simp only [EV, seval, hc22]; refine hK _ _ _ (show cutK _ _ _ from cutL ⟨_, rfl, h⟩ (Le_can [(32, some 32), (33, some 1136)] [] hρ (by kernel_rfl) ?_ ?_))
         ·simp only [AL, EV, seval, hc22]
         ·simp only [AL, EV, seval, hc22]
        ·obtain ⟨x15, h33, hv4⟩ := bO_inv hv4; simp only [EV, seval, hc22]; refine rC_p (i_IsHermitianPauli_ok h33) (by simp only [AL, EV, seval, hc22]) (le_d rfl) (no_j rfl) ?_; cases hv4; simp only [EV, seval, hc22]; refine hK _ _ _ (show cutK _ _ _ from cutL ⟨_, rfl, h⟩ (Le_can [(32, some 32), (33, some 1136)] [] hρ (by kernel_rfl) ?_ ?_))
         ·simp only [AL, EV, seval, hc22]
         ·simp only [AL, EV, seval, hc22]
       ·rintro S ⟨v19, rfl, h⟩; unfold i_IsValidTableau_j8 at h; refine AW_condK (a := .bool v19) (by simp only [EV, seval, h31a, h31b, h31c]) (brK h (fun hc23 h => ?_) (fun hc23 h => ?_))
        ·refine AN hN ?_; injection h with h; subst h; exact AX (b' := 64) [(2, .bool false)] [] [] [] hρ (EQ [])
        ·refine AW_skip (AK ?_); refine AR hN fun K hK => ?_; obtain ⟨l6, h34, h⟩ := bO_inv h; obtain ⟨⟨h35a, h35b, h35c⟩, h35d, h35e⟩ := slc_E EIIIIl h34; (try simp only [EV, seval] at h35d); (try simp only [EV, seval] at h35e); (try simp only [EV, seval] at h35a); (try simp only [EV, seval] at h35b); (try simp only [EV, seval] at h35c); simp only [EV, seval, h35a, h35b, h35c, h35d, h35e]; refine hK _ _ _ ?_; clear hK K; refine AW_block ?_; refine AW_loopF (fun n S => ∃ (v23 v24 : Int), S = ⟨mkT [(1, .ptr 32 0), (3, .int .i64 v18), (4, .ptr 33 0), (21, .sl (encL EIIII a2) a2.length), (22, .int .i64 v17), (23, .int .i64 v18), (41, .sl (encL EIIII l6) l6.length), (42, .int .i64 v23), (43, .int .i64 v24)], mkR [(32, .box 116 [.int .i64 a1, .sl (encL EIIII a2) a2.length]), (33, .box 213 [.int .i64 q9.1, .int .i64 q9.2.1, .int .i64 q9.2.2.1, .int .i64 q9.2.2.2])], 64⟩ ∧ i_IsValidTableau_l7 a1 v17 v18 (i_IsValidTableau_l1 a1 a2 n3) q9 l6 n v23 v24 = some r) FU ?_ ?_ ?_
         ·refine cutL ⟨_, _, rfl, h⟩ (Le_can [(32, some 32), (33, some 33)] [] hρ (by kernel_rfl) ?_ ?_)
          ·simp only [AL, EV, seval, h35a, h35b, h35c, h35d, h35e]
          ·simp only [AL, EV, seval, h35a, h35b, h35c, h35d, h35e]
         ·rintro S ⟨_, _, _, h⟩; rw [i_IsValidTableau_l7] at h; cases h
         ·rintro n4 S ⟨v23, v24, rfl, h⟩; rw [i_IsValidTableau_l7] at h; refine AN hN ?_; refine AW_seq ?_; refine AB h (fun hc28 h => ?_) fun hc28 h => ?_
          ·refine AW_skip (AK ?_); refine AW_seq ?_; refine AW_block ?_; refine AR hN fun K hK => ?_; obtain ⟨q12, h42, h⟩ := bO_inv h; obtain ⟨⟨h43a, h43b⟩, h43c⟩ := geti_E EIIIIl h42; (try simp only [EV, seval] at h43c); simp only [EV, seval, h43a, h43b, h43c]; refine hK _ _ _ ?_; clear hK K; obtain ⟨x18, h44, h⟩ := bO_inv h; refine AP hN (i_PaulisCommute_ok h44) ?_; refine AB h (fun hc29 h => ?_) fun hc29 h => ?_
           ·refine AN hN ?_; injection h with h; subst h; exact AX (b' := 64) [(2, .bool false)] [] [] [] hρ (EQ [])
           ·refine AW_skip (AK ?_); refine AS hN fun K hK => ?_; simp only [EV, seval]; exact hK _ _ _ (AC ⟨_, _, rfl, h⟩ [(32, some 32), (33, some 33)] [] hρ)
          ·exact AW_exit (AC ⟨rfl, h⟩ [(32, some 32)] [] hρ)
      ·rintro S ⟨rfl, h⟩; unfold i_IsValidTableau_j7 at h; refine AS hN fun K hK => ?_; simp only [EV, seval]; exact hK _ _ _ (AC ⟨_, _, rfl, h⟩ [(32, some 32)] [] hρ)
     ·exact AW_exit (AC ⟨rfl, h⟩ [] [] hρ)
   ·rintro S ⟨rfl, h⟩; unfold i_IsValidTableau_j2 at h; refine AN hN ?_; injection h with h; subst h; exact AX (b' := 64) [(2, .bool true)] [] [] [] hρ (EQ [])
/- spec.IsValidTableau -/
def s_IsValidTableau_j7 (v9 : Int) (kl3 : Int → Option Bool) : Option Bool :=
  kl3 (IntKind.wrap .i64 (v9 + 1))
def s_IsValidTableau_l4 (a1 : Int) (a2 : LQ) (v9 : Int) (kl3 : Int → Option Bool) : Nat → Int → Option Bool
  | 0, _ => none
  | n4 + 1, v12 =>
  br (decide (v12 < v9)) (bO (geti a2 v12) fun q19 => bO (geti a2 v9) fun q20 => bO (s_PaulisCommute q19.1 q19.2.1 q19.2.2.1 q19.2.2.2 q20.1 q20.2.1 q20.2.2.1 q20.2.2.2) fun x18 => br (x18 == (v9 == (IntKind.wrap .i64 (v12 + a1)))) (some false) ((s_IsValidTableau_l4 a1 a2 v9 kl3 n4) (IntKind.wrap .i64 (v12 + 1)))) (s_IsValidTableau_j7 v9 kl3)
def s_IsValidTableau_j8 (a1 : Int) (a2 : LQ) (v9 : Int) (kl3 : Int → Option Bool) (v10 : Bool) : Option Bool :=
  br v10 (some false) (s_IsValidTableau_l4 a1 a2 v9 kl3 FU 0)
def s_IsValidTableau_j2 : Option Bool :=
  some true
def s_IsValidTableau_l1 (a1 : Int) (a2 : LQ) : Nat → Int → Option Bool
  | 0, _ => none
  | n3 + 1, v9 =>
  br (decide (v9 < ((a2.length : Int)))) (bO (geti a2 v9) fun q14 => bO (br (q14.1 != a1) (some true) (bO (s_IsHermitianPauli q14.1 q14.2.1 q14.2.2.1 q14.2.2.2) fun x13 => some (!x13))) fun x14 => s_IsValidTableau_j8 a1 a2 v9 (s_IsValidTableau_l1 a1 a2 n3) x14) (s_IsValidTableau_j2)
def s_IsValidTableau_j1 (a1 : Int) (a2 : LQ) (v1 : Bool) : Option Bool :=
  br v1 (some false) (s_IsValidTableau_l1 a1 a2 FU 0)
def s_IsValidTableau (a1 : Int) (a2 : LQ) : Option Bool :=
  bO (s_l1In a1 1 4) fun x1 => bO (br (!x1) (some true) (some (((a2.length : Int)) != (IntKind.wrap .i64 (2 * a1))))) fun x2 => s_IsValidTableau_j1 a1 a2 x2
theorem s_IsValidTableau_ok {a1 : Int} {a2 : LQ} {r : Bool} (h : s_IsValidTableau a1 a2 = some r) :
    Spec Tryz.prog 159 [.agg [.int .i64 a1, .sl (encL EIIII a2) a2.length]] [] (.bool r) [] := by
 unfold s_IsValidTableau at h; refine SO Tryz.func159 rfl Tryz.ntmps159 fun C hN hρ => ?_; simp only [st0, tmps0, Nat.zero_add, Nat.reduceAdd]; refine AN hN ?_; refine AW_seq ?_; refine AJ (fun S => ∃ (v1 : Bool), S = ⟨mkT [(1, .ptr 32 0), (17, .bool v1)], mkR [(32, .box 116 [.int .i64 a1, .sl (encL EIIII a2) a2.length])], 64⟩ ∧ s_IsValidTableau_j1 a1 a2 v1 = some r) hN ?_ ?_
 ·intro K hK; obtain ⟨x1, h1, h⟩ := bO_inv h; simp only [EV, seval]; refine CP (s_l1In_ok h1) ?_; obtain ⟨x2, hv1, h⟩ := bO_inv h; rcases br_inv hv1 with ⟨hc1, hv1⟩ | ⟨hc1, hv1⟩
  ·cases hv1; simp only [EV, seval, hc1]; refine hK _ _ _ (show cutK _ _ _ from cutL ⟨_, rfl, h⟩ (Le_can [(32, some 64)] [] hρ (by kernel_rfl) ?_ ?_))
   ·simp only [AL, EV, seval, hc1]
   ·simp only [AL, EV, seval, hc1]
  ·cases hv1; simp only [EV, seval, hc1]; refine hK _ _ _ (show cutK _ _ _ from cutL ⟨_, rfl, h⟩ (Le_can [(32, some 64)] [] hρ (by kernel_rfl) ?_ ?_))
   ·simp only [AL, EV, seval, hc1]
   ·simp only [AL, EV, seval, hc1]
 ·rintro S ⟨v1, rfl, h⟩; unfold s_IsValidTableau_j1 at h; refine AB h (fun hc2 h => ?_) fun hc2 h => ?_
  ·refine AN hN ?_; injection h with h; subst h; exact AX (b' := 64) [(2, .bool false)] [] [] [] hρ (EQ [])
  ·refine AW_skip (AK ?_); refine AW_cutK (fun S => S = ⟨mkT [], mkR [], 64⟩ ∧ s_IsValidTableau_j2 = some r) ?_ ?_
   ·refine AN hN ?_; refine AW_block ?_; refine AW_loopF (fun n S => ∃ (v9 : Int), S = ⟨mkT [(1, .ptr 32 0), (3, .int .i64 v9)], mkR [(32, .box 116 [.int .i64 a1, .sl (encL EIIII a2) a2.length])], 64⟩ ∧ s_IsValidTableau_l1 a1 a2 n v9 = some r) FU ?_ ?_ ?_
    ·exact AC ⟨_, rfl, h⟩ [(32, some 32)] [] hρ
    ·rintro S ⟨_, _, h⟩; rw [s_IsValidTableau_l1] at h; cases h
    ·rintro n3 S ⟨v9, rfl, h⟩; rw [s_IsValidTableau_l1] at h; refine AW_seq ?_; refine AN hN ?_; refine AB h (fun hc21 h => ?_) fun hc21 h => ?_
     ·refine AW_skip (AK ?_); refine AW_cutK (fun S => S = ⟨mkT [(1, .ptr 32 0), (3, .int .i64 v9)], mkR [(32, .box 116 [.int .i64 a1, .sl (encL EIIII a2) a2.length])], 64⟩ ∧ s_IsValidTableau_j7 v9 (s_IsValidTableau_l1 a1 a2 n3) = some r) ?_ ?_
      ·refine AW_block ?_; refine AW_seq ?_; refine AJ (fun S => ∃ (v10 : Bool), S = ⟨mkT [(1, .ptr 32 0), (3, .int .i64 v9), (42, .bool v10)], mkR [(32, .box 116 [.int .i64 a1, .sl (encL EIIII a2) a2.length])], 64⟩ ∧ s_IsValidTableau_j8 a1 a2 v9 (s_IsValidTableau_l1 a1 a2 n3) v10 = some r) hN ?_ ?_
       ·intro K hK; obtain ⟨q14, h36, h⟩ := bO_inv h; obtain ⟨⟨h37a, h37b⟩, h37c⟩ := geti_E EIIIIl h36; (try simp only [EV, seval] at h37c); obtain ⟨x14, hv4, h⟩ := bO_inv h; rcases br_inv hv4 with ⟨hc22, hv4⟩ | ⟨hc22, hv4⟩
        ·cases hv4; simp only [EV, seval, h37a, h37b, h37c, hc22]; refine hK _ _ _ (show cutK _ _ _ from cutL ⟨_, rfl, h⟩ (Le_can [(32, some 32)] [] hρ (by kernel_rfl) ?_ ?_))
         ·simp only [AL, EV, seval, h37a, h37b, h37c, hc22]
         ·simp only [AL, EV, seval, h37a, h37b, h37c, hc22]
        ·obtain ⟨x15, h39, hv4⟩ := bO_inv hv4; simp only [EV, seval, h37a, h37b, h37c, hc22]; refine rC_p (s_IsHermitianPauli_ok h39) (by simp only [AL, EV, seval, h37a, h37b, h37c, hc22]) (le_d rfl) (no_j rfl) ?_; cases hv4; simp only [EV, seval, h37a, h37b, h37c, hc22]; refine hK _ _ _ (show cutK _ _ _ from cutL ⟨_, rfl, h⟩ (Le_can [(32, some 32)] [] hρ (by kernel_rfl) ?_ ?_))
         ·simp only [AL, EV, seval, h37a, h37b, h37c, hc22]
         ·simp only [AL, EV, seval, h37a, h37b, h37c, hc22]
       ·rintro S ⟨v10, rfl, h⟩; unfold s_IsValidTableau_j8 at h; refine AB h (fun hc23 h => ?_) fun hc23 h => ?_
        ·refine AN hN ?_; injection h with h; subst h; exact AX (b' := 64) [(2, .bool false)] [] [] [] hρ (EQ [])
        ·refine AW_skip (AK ?_); refine AN hN ?_; refine AW_block ?_; refine AW_loopF (fun n S => ∃ (v12 : Int), S = ⟨mkT [(1, .ptr 32 0), (3, .int .i64 v9), (4, .int .i64 v12)], mkR [(32, .box 116 [.int .i64 a1, .sl (encL EIIII a2) a2.length])], 64⟩ ∧ s_IsValidTableau_l4 a1 a2 v9 (s_IsValidTableau_l1 a1 a2 n3) n v12 = some r) FU ?_ ?_ ?_
         ·exact AC ⟨_, rfl, h⟩ [(32, some 32)] [] hρ
         ·rintro S ⟨_, _, h⟩; rw [s_IsValidTableau_l4] at h; cases h
         ·rintro n4 S ⟨v12, rfl, h⟩; rw [s_IsValidTableau_l4] at h; refine AW_seq ?_; refine AN hN ?_; refine AB h (fun hc28 h => ?_) fun hc28 h => ?_
          ·refine AW_skip (AK ?_); refine AW_seq ?_; refine AW_block ?_; refine AR hN fun K hK => ?_; obtain ⟨q19, h50, h⟩ := bO_inv h; obtain ⟨⟨h51a, h51b⟩, h51c⟩ := geti_E EIIIIl h50; (try simp only [EV, seval] at h51c); obtain ⟨q20, h52, h⟩ := bO_inv h; obtain ⟨⟨h53a, h53b⟩, h53c⟩ := geti_E EIIIIl h52; (try simp only [EV, seval] at h53c); obtain ⟨x18, h54, h⟩ := bO_inv h; simp only [EV, seval, h51a, h51b, h51c, h53a, h53b, h53c]; refine rC_p (s_PaulisCommute_ok h54) (by simp only [AL, EV, seval, h51a, h51b, h51c, h53a, h53b, h53c]) (le_d rfl) (no_j rfl) ?_; simp only [EV, seval, h51a, h51b, h51c, h53a, h53b, h53c]; refine hK _ _ _ ?_; clear hK K; refine AW_condK (a := .bool (x18 == (v9 == (IntKind.wrap .i64 (v12 + a1))))) (by simp only [EV, seval, h51a, h51b, h51c, h53a, h53b, h53c]) (brK h (fun hc29 h => ?_) (fun hc29 h => ?_))
           ·refine AN hN ?_; injection h with h; subst h; exact AX (b' := 64) [(2, .bool false)] [] [] [] hρ (EQ [])
           ·refine AW_skip (AK ?_); refine AS hN fun K hK => ?_; simp only [EV, seval]; exact hK _ _ _ (AC ⟨_, rfl, h⟩ [(32, some 32)] [] hρ)
          ·exact AW_exit (AC ⟨rfl, h⟩ [(32, some 32)] [] hρ)
      ·rintro S ⟨rfl, h⟩; unfold s_IsValidTableau_j7 at h; refine AS hN fun K hK => ?_; simp only [EV, seval]; exact hK _ _ _ (AC ⟨_, rfl, h⟩ [(32, some 32)] [] hρ)
     ·exact AW_exit (AC ⟨rfl, h⟩ [] [] hρ)
   ·rintro S ⟨rfl, h⟩; unfold s_IsValidTableau_j2 at h; refine AN hN ?_; injection h with h; subst h; exact AX (b' := 64) [(2, .bool true)] [] [] [] hρ (EQ [])
end Go.Proofs.YtfjopjalhllplaaGreat
/- Models of functions, and that the functions do what the models say; printed by a program. -/
namespace Go.Proofs.YtfjopjalhllplaaGreat
open Go.RowKit
set_option maxRecDepth 100000
set_option linter.unusedVariables false
set_option linter.unusedSimpArgs false
set_option linter.defProp false
set_option maxHeartbeats 4000000
/- impl.ConjugateByTableau -/
def i_ConjugateByTableau_j7 (v23 : Int) (kl1 : Int → Int → Int → Int → Int → Option (Int × Int × Int × Int × Bool)) (v32 v33 v34 v35 : Int) : Option (Int × Int × Int × Int × Bool) :=
  kl1 (IntKind.wrap .i64 (v23 + 1)) v32 v33 v34 v35
def i_ConjugateByTableau_j8 (a1 : Int) (a2 : LQ) (a5 v23 : Int) (kl1 : Int → Int → Int → Int → Int → Option (Int × Int × Int × Int × Bool)) (v28 v29 v30 v31 : Int) : Option (Int × Int × Int × Int × Bool) :=
  gd (decide (¬ v23 < 0)) (br ((bits .and .i64 (Int.fdiv a5 (2 ^ min (Int.toNat v23) (IntKind.bits .i64))) 1) == 1) (bO (geti a2 (IntKind.wrap .i64 (v23 + a1))) fun q6 => bO (i_MulPauli v28 v29 v30 v31 q6.1 q6.2.1 q6.2.2.1 q6.2.2.2) fun x13 => i_ConjugateByTableau_j7 v23 kl1 x13.1 x13.2.1 x13.2.2.1 x13.2.2.2.1) (i_ConjugateByTableau_j7 v23 kl1 v28 v29 v30 v31))
def i_ConjugateByTableau_j2 (v36 v37 v38 v39 : Int) : Option (Int × Int × Int × Int × Bool) :=
  some (v36, v37, v38, v39, true)
def i_ConjugateByTableau_l1 (a1 : Int) (a2 : LQ) (a3 a4 a5 : Int) : Nat → Int → Int → Int → Int → Int → Option (Int × Int × Int × Int × Bool)
  | 0, _, _, _, _, _ => none
  | n1 + 1, v23, v24, v25, v26, v27 =>
  br (decide (v23 < a3)) (gd (decide (¬ v23 < 0)) (br ((bits .and .i64 (Int.fdiv a4 (2 ^ min (Int.toNat v23) (IntKind.bits .i64))) 1) == 1) (bO (geti a2 v23) fun q5 => bO (i_MulPauli v24 v25 v26 v27 q5.1 q5.2.1 q5.2.2.1 q5.2.2.2) fun x12 => i_ConjugateByTableau_j8 a1 a2 a5 v23 (i_ConjugateByTableau_l1 a1 a2 a3 a4 a5 n1) x12.1 x12.2.1 x12.2.2.1 x12.2.2.2.1) (i_ConjugateByTableau_j8 a1 a2 a5 v23 (i_ConjugateByTableau_l1 a1 a2 a3 a4 a5 n1) v24 v25 v26 v27))) (i_ConjugateByTableau_j2 v24 v25 v26 v27)
def i_ConjugateByTableau_j1 (a1 : Int) (a2 : LQ) (a3 a4 a5 a6 : Int) (v1 : Bool) : Option (Int × Int × Int × Int × Bool) :=
  br v1 (some (0, 0, 0, 0, false)) (i_ConjugateByTableau_l1 a1 a2 a3 a4 a5 FU 0 a3 0 0 a6)
def i_ConjugateByTableau (a1 : Int) (a2 : LQ) (a3 a4 a5 a6 : Int) : Option (Int × Int × Int × Int × Bool) :=
  bO (i_IsValidTableau a1 a2) fun x1 => bO (br (!x1) (some true) (bO (i_IsValidPauli a3 a4 a5 a6) fun x2 => some (!x2))) fun x3 => bO (br x3 (some true) (some (a1 != a3))) fun x4 => i_ConjugateByTableau_j1 a1 a2 a3 a4 a5 a6 x4
theorem i_ConjugateByTableau_ok {a1 : Int} {a2 : LQ} {a3 a4 a5 a6 : Int} {r : Int × Int × Int × Int × Bool} (h : i_ConjugateByTableau a1 a2 a3 a4 a5 a6 = some r) :
    Spec Tryz.prog 220 [.agg [.int .i64 a1, .sl (encL EIIII a2) a2.length], .agg [.int .i64 a3, .int .i64 a4, .int .i64 a5, .int .i64 a6]] [] (.tup [.agg [.int .i64 r.1, .int .i64 r.2.1, .int .i64 r.2.2.1, .int .i64 r.2.2.2.1], .bool r.2.2.2.2]) [] := by
 unfold i_ConjugateByTableau at h; refine SO Tryz.func220 rfl Tryz.ntmps220 fun C hN hρ => ?_; simp only [st0, tmps0, Nat.zero_add, Nat.reduceAdd]; refine AN hN ?_; refine AW_seq ?_; refine AJ (fun S => ∃ (v1 : Bool), S = ⟨mkT [(2, .ptr 32 0), (3, .ptr 33 0), (4, .ptr 34 0), (22, .bool v1)], mkR [(32, .box 116 [.int .i64 a1, .sl (encL EIIII a2) a2.length]), (33, .box 213 [.int .i64 a3, .int .i64 a4, .int .i64 a5, .int .i64 a6]), (34, .box 213 [.int .i64 0, .int .i64 0, .int .i64 0, .int .i64 0])], 64⟩ ∧ i_ConjugateByTableau_j1 a1 a2 a3 a4 a5 a6 v1 = some r) hN ?_ ?_
 ·intro K hK; obtain ⟨x1, h1, h⟩ := bO_inv h; simp only [EV, seval]; refine CP (i_IsValidTableau_ok h1) ?_; obtain ⟨x3, hv1, h⟩ := bO_inv h; rcases br_inv hv1 with ⟨hc1, hv1⟩ | ⟨hc1, hv1⟩
  ·cases hv1; obtain ⟨x5, hv3, h⟩ := bO_inv h; replace hv3 := br_t hv3; cases hv3; (try dsimp only at h); simp only [EV, seval, hc1]; refine hK _ _ _ (show cutK _ _ _ from cutL ⟨_, rfl, h⟩ (Le_can [(32, some 64), (33, some 80), (34, some 96)] [] hρ (by kernel_rfl) ?_ ?_))
   ·simp only [AL, EV, seval, hc1]
   ·simp only [AL, EV, seval, hc1]
  ·obtain ⟨x6, h3, hv1⟩ := bO_inv hv1; simp only [EV, seval, hc1]; refine rC_p (i_IsValidPauli_ok h3) (by simp only [AL, EV, seval, hc1]) (le_d rfl) (no_j rfl) ?_; cases hv1; obtain ⟨x7, hv4, h⟩ := bO_inv h; rcases br_inv hv4 with ⟨hc3, hv4⟩ | ⟨hc3, hv4⟩
   ·cases hv4; simp only [EV, seval, hc1, hc3]; refine hK _ _ _ (show cutK _ _ _ from cutL ⟨_, rfl, h⟩ (Le_can [(32, some 64), (33, some 80), (34, some 96)] [] hρ (by kernel_rfl) ?_ ?_))
    ·simp only [AL, EV, seval, hc1, hc3]
    ·simp only [AL, EV, seval, hc1, hc3]
   ·cases hv4; simp only [EV, seval, hc1, hc3]; refine hK _ _ _ (show cutK _ _ _ from cutL ⟨_, rfl, h⟩ (Le_can [(32, some 64), (33, some 80), (34, some 96)] [] hρ (by kernel_rfl) ?_ ?_))
    ·simp only [AL, EV, seval, hc1, hc3]
    ·simp only [AL, EV, seval, hc1, hc3]
 ·rintro S ⟨v1, rfl, h⟩; unfold i_ConjugateByTableau_j1 at h; refine AB h (fun hc4 h => ?_) fun hc4 h => ?_
  ·refine AN hN ?_; injection h with h; subst h; exact AX (b' := 64) [(4, .ptr 32 0), (5, .bool false)] [(32, .box 213 [.int .i64 0, .int .i64 0, .int .i64 0, .int .i64 0])] [(32, some 34)] [] hρ (EQ [])
  ·refine AW_skip (AK ?_); refine AN hN ?_; refine AW_cutK (fun S => ∃ (v36 v37 v38 v39 : Int), S = ⟨mkT [(4, .ptr 32 0), (6, .ptr 33 0)], mkR [(32, .box 213 [.int .i64 0, .int .i64 0, .int .i64 0, .int .i64 0]), (33, .box 213 [.int .i64 v36, .int .i64 v37, .int .i64 v38, .int .i64 v39])], 64⟩ ∧ i_ConjugateByTableau_j2 v36 v37 v38 v39 = some r) ?_ ?_
   ·refine AN hN ?_; refine AW_block ?_; refine AW_loopF (fun n S => ∃ (v23 v24 v25 v26 v27 : Int), S = ⟨mkT [(2, .ptr 32 0), (3, .ptr 33 0), (4, .ptr 34 0), (6, .ptr 35 0), (7, .int .i64 v23)], mkR [(32, .box 116 [.int .i64 a1, .sl (encL EIIII a2) a2.length]), (33, .box 213 [.int .i64 a3, .int .i64 a4, .int .i64 a5, .int .i64 a6]), (34, .box 213 [.int .i64 0, .int .i64 0, .int .i64 0, .int .i64 0]), (35, .box 213 [.int .i64 v24, .int .i64 v25, .int .i64 v26, .int .i64 v27])], 64⟩ ∧ i_ConjugateByTableau_l1 a1 a2 a3 a4 a5 n v23 v24 v25 v26 v27 = some r) FU ?_ ?_ ?_
    ·exact AC ⟨_, _, _, _, _, rfl, h⟩ [(32, some 32), (33, some 33), (34, some 34), (35, some 144)] [] hρ
    ·rintro S ⟨_, _, _, _, _, _, h⟩; rw [i_ConjugateByTableau_l1] at h; cases h
    ·rintro n1 S ⟨v23, v24, v25, v26, v27, rfl, h⟩; rw [i_ConjugateByTableau_l1] at h; refine AW_seq ?_; refine AN hN ?_; refine AB h (fun hc11 h => ?_) fun hc11 h => ?_
     ·refine AW_skip (AK ?_); refine AW_cutK (fun S => ∃ (v32 v33 v34 v35 : Int), S = ⟨mkT [(2, .ptr 32 0), (3, .ptr 33 0), (4, .ptr 34 0), (6, .ptr 35 0), (7, .int .i64 v23)], mkR [(32, .box 116 [.int .i64 a1, .sl (encL EIIII a2) a2.length]), (33, .box 213 [.int .i64 a3, .int .i64 a4, .int .i64 a5, .int .i64 a6]), (34, .box 213 [.int .i64 0, .int .i64 0, .int .i64 0, .int .i64 0]), (35, .box 213 [.int .i64 v32, .int .i64 v33, .int .i64 v34, .int .i64 v35])], 64⟩ ∧ i_ConjugateByTableau_j7 v23 (i_ConjugateByTableau_l1 a1 a2 a3 a4 a5 n1) v32 v33 v34 v35 = some r) ?_ ?_
      ·refine AW_block ?_; refine AW_cutK (fun S => ∃ (v28 v29 v30 v31 : Int), S = ⟨mkT [(2, .ptr 32 0), (3, .ptr 33 0), (4, .ptr 34 0), (6, .ptr 35 0), (7, .int .i64 v23)], mkR [(32, .box 116 [.int .i64 a1, .sl (encL EIIII a2) a2.length]), (33, .box 213 [.int .i64 a3, .int .i64 a4, .int .i64 a5, .int .i64 a6]), (34, .box 213 [.int .i64 0, .int .i64 0, .int .i64 0, .int .i64 0]), (35, .box 213 [.int .i64 v28, .int .i64 v29, .int .i64 v30, .int .i64 v31])], 64⟩ ∧ i_ConjugateByTableau_j8 a1 a2 a5 v23 (i_ConjugateByTableau_l1 a1 a2 a3 a4 a5 n1) v28 v29 v30 v31 = some r) ?_ ?_
       ·refine AR hN fun K hK => ?_; obtain ⟨h18, h⟩ := gd_inv h; replace h18 := of_decide_eq_true h18; simp only [EV, seval, h18]; refine hK _ _ _ ?_; clear hK K; refine AW_condK (a := .bool ((bits .and .i64 (Int.fdiv a4 (2 ^ min (Int.toNat v23) (IntKind.bits .i64))) 1) == 1)) (by simp only [EV, seval, h18]) (brK h (fun hc12 h => ?_) (fun hc12 h => ?_))
        ·refine AS hN fun K hK => ?_; obtain ⟨q5, h19, h⟩ := bO_inv h; obtain ⟨⟨h20a, h20b⟩, h20c⟩ := geti_E EIIIIl h19; (try simp only [EV, seval] at h20c); obtain ⟨x12, h21, h⟩ := bO_inv h; simp only [EV, seval, h20a, h20b, h20c]; refine rC_p (i_MulPauli_ok h21) (by simp only [AL, EV, seval, h20a, h20b, h20c]) (le_d rfl) (no_j rfl) ?_; simp only [EV, seval, h20a, h20b, h20c]; refine hK _ _ _ (show cutK _ _ _ from cutL ⟨_, _, _, _, rfl, h⟩ (Le_can [(32, some 32), (33, some 33), (34, some 34), (35, some 35)] [] hρ (by kernel_rfl) ?_ ?_))
         ·simp only [AL, EV, seval, h20a, h20b, h20c]
         ·simp only [AL, EV, seval, h20a, h20b, h20c]
        ·refine AW_skip (show cutK _ _ _ from cutL ⟨_, _, _, _, rfl, h⟩ (Le_can [(32, some 32), (33, some 33), (34, some 34), (35, some 35)] [] hρ (by kernel_rfl) ?_ ?_))
         ·simp only [AL, EV, seval, h18]
         ·simp only [AL, EV, seval, h18]
       ·rintro S ⟨v28, v29, v30, v31, rfl, h⟩; unfold i_ConjugateByTableau_j8 at h; refine AR hN fun K hK => ?_; obtain ⟨h22, h⟩ := gd_inv h; replace h22 := of_decide_eq_true h22; simp only [EV, seval, h22]; refine hK _ _ _ ?_; clear hK K; refine AW_condK (a := .bool ((bits .and .i64 (Int.fdiv a5 (2 ^ min (Int.toNat v23) (IntKind.bits .i64))) 1) == 1)) (by simp only [EV, seval, h22]) (brK h (fun hc13 h => ?_) (fun hc13 h => ?_))
        ·refine AS hN fun K hK => ?_; obtain ⟨q6, h23, h⟩ := bO_inv h; obtain ⟨⟨h24a, h24b⟩, h24c⟩ := geti_E EIIIIl h23; (try simp only [EV, seval] at h24c); obtain ⟨x13, h25, h⟩ := bO_inv h; simp only [EV, seval, h24a, h24b, h24c]; refine rC_p (i_MulPauli_ok h25) (by simp only [AL, EV, seval, h24a, h24b, h24c]) (le_d rfl) (no_j rfl) ?_; simp only [EV, seval, h24a, h24b, h24c]; refine hK _ _ _ (show cutK _ _ _ from cutL ⟨_, _, _, _, rfl, h⟩ (Le_can [(32, some 32), (33, some 33), (34, some 34), (35, some 35)] [] hρ (by kernel_rfl) ?_ ?_))
         ·simp only [AL, EV, seval, h24a, h24b, h24c]
         ·simp only [AL, EV, seval, h24a, h24b, h24c]
        ·refine AW_skip (show cutK _ _ _ from cutL ⟨_, _, _, _, rfl, h⟩ (Le_can [(32, some 32), (33, some 33), (34, some 34), (35, some 35)] [] hρ (by kernel_rfl) ?_ ?_))
         ·simp only [AL, EV, seval, h22]
         ·simp only [AL, EV, seval, h22]
      ·rintro S ⟨v32, v33, v34, v35, rfl, h⟩; unfold i_ConjugateByTableau_j7 at h; refine AS hN fun K hK => ?_; simp only [EV, seval]; exact hK _ _ _ (AC ⟨_, _, _, _, _, rfl, h⟩ [(32, some 32), (33, some 33), (34, some 34), (35, some 35)] [] hρ)
     ·exact AW_exit (AC ⟨_, _, _, _, rfl, h⟩ [(32, some 34), (33, some 35)] [] hρ)
   ·rintro S ⟨v36, v37, v38, v39, rfl, h⟩; unfold i_ConjugateByTableau_j2 at h; refine AN hN ?_; injection h with h; subst h; exact AX (b' := 64) [(4, .ptr 32 0), (5, .bool true)] [(32, .box 213 [.int .i64 v36, .int .i64 v37, .int .i64 v38, .int .i64 v39])] [(32, some 32)] [] hρ (EQ [])
/- spec.ConjugateByTableau -/
def s_ConjugateByTableau_j7 (v23 : Int) (kl1 : Int → Int → Int → Int → Int → Option (Int × Int × Int × Int × Bool)) (v32 v33 v34 v35 : Int) : Option (Int × Int × Int × Int × Bool) :=
  kl1 (IntKind.wrap .i64 (v23 + 1)) v32 v33 v34 v35
def s_ConjugateByTableau_j8 (a2 : LQ) (a3 a5 v23 : Int) (kl1 : Int → Int → Int → Int → Int → Option (Int × Int × Int × Int × Bool)) (v28 v29 v30 v31 : Int) : Option (Int × Int × Int × Int × Bool) :=
  gd (decide (¬ (IntKind.wrap .u64 v23) < 0)) (br ((bits .and .i64 (Int.fdiv a5 (2 ^ min (Int.toNat (IntKind.wrap .u64 v23)) (IntKind.bits .i64))) 1) == 1) (bO (geti a2 (IntKind.wrap .i64 (v23 + a3))) fun q6 => bO (s_MulPauli v28 v29 v30 v31 q6.1 q6.2.1 q6.2.2.1 q6.2.2.2) fun x13 => s_ConjugateByTableau_j7 v23 kl1 x13.1 x13.2.1 x13.2.2.1 x13.2.2.2.1) (s_ConjugateByTableau_j7 v23 kl1 v28 v29 v30 v31))
def s_ConjugateByTableau_j2 (v36 v37 v38 v39 : Int) : Option (Int × Int × Int × Int × Bool) :=
  some (v36, v37, v38, v39, true)
def s_ConjugateByTableau_l1 (a2 : LQ) (a3 a4 a5 : Int) : Nat → Int → Int → Int → Int → Int → Option (Int × Int × Int × Int × Bool)
  | 0, _, _, _, _, _ => none
  | n1 + 1, v23, v24, v25, v26, v27 =>
  br (decide (v23 < a3)) (gd (decide (¬ (IntKind.wrap .u64 v23) < 0)) (br ((bits .and .i64 (Int.fdiv a4 (2 ^ min (Int.toNat (IntKind.wrap .u64 v23)) (IntKind.bits .i64))) 1) == 1) (bO (geti a2 v23) fun q5 => bO (s_MulPauli v24 v25 v26 v27 q5.1 q5.2.1 q5.2.2.1 q5.2.2.2) fun x12 => s_ConjugateByTableau_j8 a2 a3 a5 v23 (s_ConjugateByTableau_l1 a2 a3 a4 a5 n1) x12.1 x12.2.1 x12.2.2.1 x12.2.2.2.1) (s_ConjugateByTableau_j8 a2 a3 a5 v23 (s_ConjugateByTableau_l1 a2 a3 a4 a5 n1) v24 v25 v26 v27))) (s_ConjugateByTableau_j2 v24 v25 v26 v27)
def s_ConjugateByTableau_j1 (a2 : LQ) (a3 a4 a5 a6 : Int) (v1 : Bool) : Option (Int × Int × Int × Int × Bool) :=
  br v1 (some (0, 0, 0, 0, false)) (s_ConjugateByTableau_l1 a2 a3 a4 a5 FU 0 a3 0 0 a6)
def s_ConjugateByTableau (a1 : Int) (a2 : LQ) (a3 a4 a5 a6 : Int) : Option (Int × Int × Int × Int × Bool) :=
  bO (s_IsValidTableau a1 a2) fun x1 => bO (br (!x1) (some true) (bO (s_IsValidPauli a3 a4 a5 a6) fun x2 => some (!x2))) fun x3 => bO (br x3 (some true) (some (a1 != a3))) fun x4 => s_ConjugateByTableau_j1 a2 a3 a4 a5 a6 x4
theorem s_ConjugateByTableau_ok {a1 : Int} {a2 : LQ} {a3 a4 a5 a6 : Int} {r : Int × Int × Int × Int × Bool} (h : s_ConjugateByTableau a1 a2 a3 a4 a5 a6 = some r) :
    Spec Tryz.prog 229 [.agg [.int .i64 a1, .sl (encL EIIII a2) a2.length], .agg [.int .i64 a3, .int .i64 a4, .int .i64 a5, .int .i64 a6]] [] (.tup [.agg [.int .i64 r.1, .int .i64 r.2.1, .int .i64 r.2.2.1, .int .i64 r.2.2.2.1], .bool r.2.2.2.2]) [] := by
 unfold s_ConjugateByTableau at h; refine SO Tryz.func229 rfl Tryz.ntmps229 fun C hN hρ => ?_; simp only [st0, tmps0, Nat.zero_add, Nat.reduceAdd]; refine AN hN ?_; refine AW_seq ?_; refine AJ (fun S => ∃ (v1 : Bool), S = ⟨mkT [(2, .ptr 32 0), (3, .ptr 33 0), (4, .ptr 34 0), (22, .bool v1)], mkR [(32, .box 116 [.int .i64 a1, .sl (encL EIIII a2) a2.length]), (33, .box 213 [.int .i64 a3, .int .i64 a4, .int .i64 a5, .int .i64 a6]), (34, .box 213 [.int .i64 0, .int .i64 0, .int .i64 0, .int .i64 0])], 64⟩ ∧ s_ConjugateByTableau_j1 a2 a3 a4 a5 a6 v1 = some r) hN ?_ ?_
 ·intro K hK; obtain ⟨x1, h1, h⟩ := bO_inv h; simp only [EV, seval]; refine CP (s_IsValidTableau_ok h1) ?_; obtain ⟨x3, hv1, h⟩ := bO_inv h; rcases br_inv hv1 with ⟨hc1, hv1⟩ | ⟨hc1, hv1⟩
  ·cases hv1; obtain ⟨x5, hv3, h⟩ := bO_inv h; replace hv3 := br_t hv3; cases hv3; (try dsimp only at h); simp only [EV, seval, hc1]; refine hK _ _ _ (show cutK _ _ _ from cutL ⟨_, rfl, h⟩ (Le_can [(32, some 64), (33, some 80), (34, some 96)] [] hρ (by kernel_rfl) ?_ ?_))
   ·simp only [AL, EV, seval, hc1]
   ·simp only [AL, EV, seval, hc1]
  ·obtain ⟨x6, h3, hv1⟩ := bO_inv hv1; simp only [EV, seval, hc1]; refine rC_p (s_IsValidPauli_ok h3) (by simp only [AL, EV, seval, hc1]) (le_d rfl) (no_j rfl) ?_; cases hv1; obtain ⟨x7, hv4, h⟩ := bO_inv h; rcases br_inv hv4 with ⟨hc3, hv4⟩ | ⟨hc3, hv4⟩
   ·cases hv4; simp only [EV, seval, hc1, hc3]; refine hK _ _ _ (show cutK _ _ _ from cutL ⟨_, rfl, h⟩ (Le_can [(32, some 64), (33, some 80), (34, some 96)] [] hρ (by kernel_rfl) ?_ ?_))
    ·simp only [AL, EV, seval, hc1, hc3]
    ·simp only [AL, EV, seval, hc1, hc3]
   ·cases hv4; simp only [EV, seval, hc1, hc3]; refine hK _ _ _ (show cutK _ _ _ from cutL ⟨_, rfl, h⟩ (Le_can [(32, some 64), (33, some 80), (34, some 96)] [] hρ (by kernel_rfl) ?_ ?_))
    ·simp only [AL, EV, seval, hc1, hc3]
    ·simp only [AL, EV, seval, hc1, hc3]
 ·rintro S ⟨v1, rfl, h⟩; unfold s_ConjugateByTableau_j1 at h; refine AB h (fun hc4 h => ?_) fun hc4 h => ?_
  ·refine AN hN ?_; injection h with h; subst h; exact AX (b' := 64) [(4, .ptr 32 0), (5, .bool false)] [(32, .box 213 [.int .i64 0, .int .i64 0, .int .i64 0, .int .i64 0])] [(32, some 34)] [] hρ (EQ [])
  ·refine AW_skip (AK ?_); refine AN hN ?_; refine AW_cutK (fun S => ∃ (v36 v37 v38 v39 : Int), S = ⟨mkT [(4, .ptr 32 0), (6, .ptr 33 0)], mkR [(32, .box 213 [.int .i64 0, .int .i64 0, .int .i64 0, .int .i64 0]), (33, .box 213 [.int .i64 v36, .int .i64 v37, .int .i64 v38, .int .i64 v39])], 64⟩ ∧ s_ConjugateByTableau_j2 v36 v37 v38 v39 = some r) ?_ ?_
   ·refine AN hN ?_; refine AW_block ?_; refine AW_loopF (fun n S => ∃ (v23 v24 v25 v26 v27 : Int), S = ⟨mkT [(2, .ptr 32 0), (3, .ptr 33 0), (4, .ptr 34 0), (6, .ptr 35 0), (7, .int .i64 v23)], mkR [(32, .box 116 [.int .i64 a1, .sl (encL EIIII a2) a2.length]), (33, .box 213 [.int .i64 a3, .int .i64 a4, .int .i64 a5, .int .i64 a6]), (34, .box 213 [.int .i64 0, .int .i64 0, .int .i64 0, .int .i64 0]), (35, .box 213 [.int .i64 v24, .int .i64 v25, .int .i64 v26, .int .i64 v27])], 64⟩ ∧ s_ConjugateByTableau_l1 a2 a3 a4 a5 n v23 v24 v25 v26 v27 = some r) FU ?_ ?_ ?_
    ·exact AC ⟨_, _, _, _, _, rfl, h⟩ [(32, some 32), (33, some 33), (34, some 34), (35, some 144)] [] hρ
    ·rintro S ⟨_, _, _, _, _, _, h⟩; rw [s_ConjugateByTableau_l1] at h; cases h
    ·rintro n1 S ⟨v23, v24, v25, v26, v27, rfl, h⟩; rw [s_ConjugateByTableau_l1] at h; refine AW_seq ?_; refine AN hN ?_; refine AB h (fun hc11 h => ?_) fun hc11 h => ?_
     ·refine AW_skip (AK ?_); refine AW_cutK (fun S => ∃ (v32 v33 v34 v35 : Int), S = ⟨mkT [(2, .ptr 32 0), (3, .ptr 33 0), (4, .ptr 34 0), (6, .ptr 35 0), (7, .int .i64 v23)], mkR [(32, .box 116 [.int .i64 a1, .sl (encL EIIII a2) a2.length]), (33, .box 213 [.int .i64 a3, .int .i64 a4, .int .i64 a5, .int .i64 a6]), (34, .box 213 [.int .i64 0, .int .i64 0, .int .i64 0, .int .i64 0]), (35, .box 213 [.int .i64 v32, .int .i64 v33, .int .i64 v34, .int .i64 v35])], 64⟩ ∧ s_ConjugateByTableau_j7 v23 (s_ConjugateByTableau_l1 a2 a3 a4 a5 n1) v32 v33 v34 v35 = some r) ?_ ?_
      ·refine AW_block ?_; refine AW_cutK (fun S => ∃ (v28 v29 v30 v31 : Int), S = ⟨mkT [(2, .ptr 32 0), (3, .ptr 33 0), (4, .ptr 34 0), (6, .ptr 35 0), (7, .int .i64 v23)], mkR [(32, .box 116 [.int .i64 a1, .sl (encL EIIII a2) a2.length]), (33, .box 213 [.int .i64 a3, .int .i64 a4, .int .i64 a5, .int .i64 a6]), (34, .box 213 [.int .i64 0, .int .i64 0, .int .i64 0, .int .i64 0]), (35, .box 213 [.int .i64 v28, .int .i64 v29, .int .i64 v30, .int .i64 v31])], 64⟩ ∧ s_ConjugateByTableau_j8 a2 a3 a5 v23 (s_ConjugateByTableau_l1 a2 a3 a4 a5 n1) v28 v29 v30 v31 = some r) ?_ ?_
       ·refine AR hN fun K hK => ?_; obtain ⟨h20, h⟩ := gd_inv h; replace h20 := of_decide_eq_true h20; simp only [EV, seval, h20]; refine hK _ _ _ ?_; clear hK K; refine AW_condK (a := .bool ((bits .and .i64 (Int.fdiv a4 (2 ^ min (Int.toNat (IntKind.wrap .u64 v23)) (IntKind.bits .i64))) 1) == 1)) (by simp only [EV, seval, h20]) (brK h (fun hc12 h => ?_) (fun hc12 h => ?_))
        ·refine AS hN fun K hK => ?_; obtain ⟨q5, h21, h⟩ := bO_inv h; obtain ⟨⟨h22a, h22b⟩, h22c⟩ := geti_E EIIIIl h21; (try simp only [EV, seval] at h22c); obtain ⟨x12, h23, h⟩ := bO_inv h; simp only [EV, seval, h22a, h22b, h22c]; refine rC_p (s_MulPauli_ok h23) (by simp only [AL, EV, seval, h22a, h22b, h22c]) (le_d rfl) (no_j rfl) ?_; simp only [EV, seval, h22a, h22b, h22c]; refine hK _ _ _ (show cutK _ _ _ from cutL ⟨_, _, _, _, rfl, h⟩ (Le_can [(32, some 32), (33, some 33), (34, some 34), (35, some 35)] [] hρ (by kernel_rfl) ?_ ?_))
         ·simp only [AL, EV, seval, h22a, h22b, h22c]
         ·simp only [AL, EV, seval, h22a, h22b, h22c]
        ·refine AW_skip (show cutK _ _ _ from cutL ⟨_, _, _, _, rfl, h⟩ (Le_can [(32, some 32), (33, some 33), (34, some 34), (35, some 35)] [] hρ (by kernel_rfl) ?_ ?_))
         ·simp only [AL, EV, seval, h20]
         ·simp only [AL, EV, seval, h20]
       ·rintro S ⟨v28, v29, v30, v31, rfl, h⟩; unfold s_ConjugateByTableau_j8 at h; refine AR hN fun K hK => ?_; obtain ⟨h24, h⟩ := gd_inv h; replace h24 := of_decide_eq_true h24; simp only [EV, seval, h24]; refine hK _ _ _ ?_; clear hK K; refine AW_condK (a := .bool ((bits .and .i64 (Int.fdiv a5 (2 ^ min (Int.toNat (IntKind.wrap .u64 v23)) (IntKind.bits .i64))) 1) == 1)) (by simp only [EV, seval, h24]) (brK h (fun hc13 h => ?_) (fun hc13 h => ?_))
        ·refine AS hN fun K hK => ?_; obtain ⟨q6, h25, h⟩ := bO_inv h; obtain ⟨⟨h26a, h26b⟩, h26c⟩ := geti_E EIIIIl h25; (try simp only [EV, seval] at h26c); obtain ⟨x13, h27, h⟩ := bO_inv h; simp only [EV, seval, h26a, h26b, h26c]; refine rC_p (s_MulPauli_ok h27) (by simp only [AL, EV, seval, h26a, h26b, h26c]) (le_d rfl) (no_j rfl) ?_; simp only [EV, seval, h26a, h26b, h26c]; refine hK _ _ _ (show cutK _ _ _ from cutL ⟨_, _, _, _, rfl, h⟩ (Le_can [(32, some 32), (33, some 33), (34, some 34), (35, some 35)] [] hρ (by kernel_rfl) ?_ ?_))
         ·simp only [AL, EV, seval, h26a, h26b, h26c]
         ·simp only [AL, EV, seval, h26a, h26b, h26c]
        ·refine AW_skip (show cutK _ _ _ from cutL ⟨_, _, _, _, rfl, h⟩ (Le_can [(32, some 32), (33, some 33), (34, some 34), (35, some 35)] [] hρ (by kernel_rfl) ?_ ?_))
         ·simp only [AL, EV, seval, h24]
         ·simp only [AL, EV, seval, h24]
      ·rintro S ⟨v32, v33, v34, v35, rfl, h⟩; unfold s_ConjugateByTableau_j7 at h; refine AS hN fun K hK => ?_; simp only [EV, seval]; exact hK _ _ _ (AC ⟨_, _, _, _, _, rfl, h⟩ [(32, some 32), (33, some 33), (34, some 34), (35, some 35)] [] hρ)
     ·exact AW_exit (AC ⟨_, _, _, _, rfl, h⟩ [(32, some 34), (33, some 35)] [] hρ)
   ·rintro S ⟨v36, v37, v38, v39, rfl, h⟩; unfold s_ConjugateByTableau_j2 at h; refine AN hN ?_; injection h with h; subst h; exact AX (b' := 64) [(4, .ptr 32 0), (5, .bool true)] [(32, .box 213 [.int .i64 v36, .int .i64 v37, .int .i64 v38, .int .i64 v39])] [(32, some 32)] [] hρ (EQ [])
/- impl.CosetIndex -/
def i_CosetIndex_j5 (v9 v10 : Int) (v11 : LQ) (kl1 : Int → Int → (LQ) → Option Int) (v12 : Bool) : Option Int :=
  br v12 (some v10) (kl1 v9 (IntKind.wrap .i64 (v10 + 1)) v11)
def i_CosetIndex_j2 : Option Int :=
  some (-1)
def i_CosetIndex_l1 : Nat → Int → Int → (LQ) → Option Int
  | 0, _, _, _ => none
  | n1 + 1, v9, v10, v11 =>
  br (decide (v10 < v9)) (bO (geti v11 v10) fun q5 => bO (br (q5.2.1 == 0) (some (q5.2.2.1 == 1)) (some false)) fun x7 => i_CosetIndex_j5 v9 v10 v11 (i_CosetIndex_l1 n1) x7) (i_CosetIndex_j2)
def i_CosetIndex_j1 (a1 : Int) (a2 : LQ) (v1 : Bool) : Option Int :=
  br v1 (some (-1)) (bO (i_ConjugateByTableau a1 a2 1 1 1 0) fun x4 => bO (geti a2 1) fun q1 => bO (geti a2 0) fun q2 => i_CosetIndex_l1 FU ((([(q1.1, q1.2.1, q1.2.2.1, q1.2.2.2), (q2.1, q2.2.1, q2.2.2.1, q2.2.2.2), (x4.1, x4.2.1, x4.2.2.1, x4.2.2.2.1)]).length : Int)) 0 ([(q1.1, q1.2.1, q1.2.2.1, q1.2.2.2), (q2.1, q2.2.1, q2.2.2.1, q2.2.2.2), (x4.1, x4.2.1, x4.2.2.1, x4.2.2.2.1)]))
def i_CosetIndex (a1 : Int) (a2 : LQ) : Option Int :=
  bO (br (a1 != 1) (some true) (bO (i_IsValidTableau a1 a2) fun x1 => some (!x1))) fun x2 => i_CosetIndex_j1 a1 a2 x2
theorem i_CosetIndex_ok {a1 : Int} {a2 : LQ} {r : Int} (h : i_CosetIndex a1 a2 = some r) :
    Spec Tryz.prog 190 [.agg [.int .i64 a1, .sl (encL EIIII a2) a2.length]] [] (.int .i64 r) [] := by
 unfold i_CosetIndex at h; refine SO Tryz.func190 rfl Tryz.ntmps190 fun C hN hρ => ?_; simp only [st0, tmps0, Nat.zero_add, Nat.reduceAdd]; refine AN hN ?_; refine AW_seq ?_; refine AJ (fun S => ∃ (v1 : Bool), S = ⟨mkT [(1, .ptr 32 0), (14, .bool v1)], mkR [(32, .box 116 [.int .i64 a1, .sl (encL EIIII a2) a2.length])], 64⟩ ∧ i_CosetIndex_j1 a1 a2 v1 = some r) hN ?_ ?_
 ·intro K hK; obtain ⟨x2, hv1, h⟩ := bO_inv h; rcases br_inv hv1 with ⟨hc1, hv1⟩ | ⟨hc1, hv1⟩
  ·cases hv1; simp only [EV, seval, hc1]; refine hK _ _ _ (show cutK _ _ _ from cutL ⟨_, rfl, h⟩ (Le_can [(32, some 64)] [] hρ (by kernel_rfl) ?_ ?_))
   ·simp only [AL, EV, seval, hc1]
   ·simp only [AL, EV, seval, hc1]
  ·obtain ⟨x3, h2, hv1⟩ := bO_inv hv1; simp only [EV, seval, hc1]; refine rC_p (i_IsValidTableau_ok h2) (by simp only [AL, EV, seval, hc1]) (le_d rfl) (no_j rfl) ?_; cases hv1; simp only [EV, seval, hc1]; refine hK _ _ _ (show cutK _ _ _ from cutL ⟨_, rfl, h⟩ (Le_can [(32, some 64)] [] hρ (by kernel_rfl) ?_ ?_))
   ·simp only [AL, EV, seval, hc1]
   ·simp only [AL, EV, seval, hc1]
 ·rintro S ⟨v1, rfl, h⟩; unfold i_CosetIndex_j1 at h; refine AB h (fun hc2 h => ?_) fun hc2 h => ?_
  ·refine AN hN ?_; injection h with h; subst h; exact AX (b' := 64) [(2, .int .i64 (-1))] [] [] [] hρ (EQ [])
  ·refine AW_skip (AK ?_); obtain ⟨x4, h3, h⟩ := bO_inv h; refine AP hN (i_ConjugateByTableau_ok h3) ?_; refine AW_cutK (fun S => S = ⟨mkT [], mkR [], 64⟩ ∧ i_CosetIndex_j2 = some r) ?_ ?_
   ·refine AR hN fun K hK => ?_; obtain ⟨q1, h4, h⟩ := bO_inv h; obtain ⟨⟨h5a, h5b⟩, h5c⟩ := geti_E EIIIIl h4; (try simp only [EV, seval] at h5c); obtain ⟨q2, h6, h⟩ := bO_inv h; obtain ⟨⟨h7a, h7b⟩, h7c⟩ := geti_E EIIIIl h6; (try simp only [EV, seval] at h7c); (try simp only [EV, seval, h7c] at h5c); simp only [EV, seval, h5a, h5b, h5c, h7a, h7b, h7c]; refine hK _ _ _ ?_; clear hK K; refine AW_block ?_; refine AW_loopF (fun n S => ∃ (v9 v10 : Int) (v11 : LQ), S = ⟨mkT [(30, .own 32 v11.length), (31, .int .i64 v9), (32, .int .i64 v10)], mkR [(32, .row 213 4 (encL EIIII v11))], 64⟩ ∧ i_CosetIndex_l1 n v9 v10 v11 = some r) FU ?_ ?_ ?_
    ·refine cutL ⟨_, _, _, rfl, h⟩ (Le_can [(32, some 1232)] [] hρ (by kernel_rfl) ?_ ?_)
     ·simp only [AL, EV, seval, h5a, h5b, h5c, h7a, h7b, h7c]
     ·simp only [AL, EV, seval, h5a, h5b, h5c, h7a, h7b, h7c]
    ·rintro S ⟨_, _, _, _, h⟩; rw [i_CosetIndex_l1] at h; cases h
    ·rintro n1 S ⟨v9, v10, v11, rfl, h⟩; rw [i_CosetIndex_l1] at h; refine AR hN fun K hK => ?_; simp only [EV, seval, h7c]; refine hK _ _ _ ?_; clear hK K; refine AW_seq ?_; refine AW_condK (a := .bool (decide (v10 < v9))) (by simp only [EV, seval, h7c]) (brK h (fun hc9 h => ?_) (fun hc9 h => ?_))
     ·refine AW_skip (AK ?_); refine AW_seq ?_; refine AW_block ?_; refine AR hN fun K hK => ?_; obtain ⟨q5, h12, h⟩ := bO_inv h; obtain ⟨⟨h13a, h13b⟩, h13c⟩ := geti_E EIIIIl h12; (try simp only [EV, seval] at h13c); simp only [EV, seval, h13a, h13b, h13c, h7c]; refine hK _ _ _ ?_; clear hK K; refine AJ (fun S => ∃ (v12 : Bool), S = ⟨mkT [(5, .int .i64 v10), (30, .own 32 v11.length), (31, .int .i64 v9), (32, .int .i64 v10), (44, .bool v12)], mkR [(32, .row 213 4 (encL EIIII v11))], 64⟩ ∧ i_CosetIndex_j5 v9 v10 v11 (i_CosetIndex_l1 n1) v12 = some r) hN ?_ ?_
      ·intro K hK; obtain ⟨x7, hv4, h⟩ := bO_inv h; rcases br_inv hv4 with ⟨hc10, hv4⟩ | ⟨hc10, hv4⟩
       ·cases hv4; simp only [EV, seval, hc10, h7c]; refine hK _ _ _ (show cutK _ _ _ from cutL ⟨_, rfl, h⟩ (Le_can [(32, some 32)] [] hρ (by kernel_rfl) ?_ ?_))
        ·simp only [AL, EV, seval, hc10, h7c]
        ·simp only [AL, EV, seval, hc10, h7c]
       ·cases hv4; simp only [EV, seval, hc10, h7c]; refine hK _ _ _ (show cutK _ _ _ from cutL ⟨_, rfl, h⟩ (Le_can [(32, some 32)] [] hρ (by kernel_rfl) ?_ ?_))
        ·simp only [AL, EV, seval, hc10, h7c]
        ·simp only [AL, EV, seval, hc10, h7c]
      ·rintro S ⟨v12, rfl, h⟩; unfold i_CosetIndex_j5 at h; refine AW_condK (a := .bool v12) (by simp only [EV, seval, h13a, h13b, h13c, h7c]) (brK h (fun hc11 h => ?_) (fun hc11 h => ?_))
       ·refine AR hN fun K hK => ?_; simp only [EV, seval, h7c]; refine hK _ _ _ ?_; clear hK K; injection h with h; subst h; refine AW_le (Le_can (lt := [(2, .int .i64 v10)]) (lr := []) (b' := 64) [] [] hρ (by kernel_rfl) ?_ ?_) (AW_ret (end_q [] (.inr rfl) (by kernel_rfl) (by kernel_rfl) ?_))
        ·simp only [AL, EV, seval, h7c]
        ·simp only [AL, EV, seval, h7c]
        ·simp only [EV, Tryz.results190, seval]
       ·refine AW_skip (AK ?_); refine AS hN fun K hK => ?_; simp only [EV, seval, h7c]; refine hK _ _ _ (show cutK _ _ _ from cutL ⟨_, _, _, rfl, h⟩ (Le_can [(32, some 32)] [] hρ (by kernel_rfl) ?_ ?_))
        ·simp only [AL, EV, seval, h7c]
        ·simp only [AL, EV, seval, h7c]
     ·refine AW_exit (show cutK _ _ _ from cutL ⟨rfl, h⟩ (Le_can [] [] hρ (by kernel_rfl) ?_ ?_))
      ·simp only [AL, EV, seval, h7c]
      ·simp only [AL, EV, seval, h7c]
   ·rintro S ⟨rfl, h⟩; unfold i_CosetIndex_j2 at h; refine AN hN ?_; injection h with h; subst h; exact AX (b' := 64) [(2, .int .i64 (-1))] [] [] [] hρ (EQ [])
/- spec.CosetIndex -/
def s_CosetIndex_j1 (a2 : LQ) (v1 : Bool) : Option Int :=
  br v1 (some (-1)) (bO (geti a2 1) fun q1 => br (q1.2.1 == 0) (some 0) (bO (geti a2 0) fun q2 => br (q2.2.1 == 0) (some 1) (some 2)))
def s_CosetIndex (a1 : Int) (a2 : LQ) : Option Int :=
  bO (s_IsValidTableau a1 a2) fun x1 => bO (br (!x1) (some true) (some (a1 != 1))) fun x2 => s_CosetIndex_j1 a2 x2
theorem s_CosetIndex_ok {a1 : Int} {a2 : LQ} {r : Int} (h : s_CosetIndex a1 a2 = some r) :
    Spec Tryz.prog 200 [.agg [.int .i64 a1, .sl (encL EIIII a2) a2.length]] [] (.int .i64 r) [] := by
 unfold s_CosetIndex at h; refine SO Tryz.func200 rfl Tryz.ntmps200 fun C hN hρ => ?_; simp only [st0, tmps0, Nat.zero_add, Nat.reduceAdd]; refine AN hN ?_; refine AW_seq ?_; refine AJ (fun S => ∃ (v1 : Bool), S = ⟨mkT [(1, .ptr 32 0), (10, .bool v1)], mkR [(32, .box 116 [.int .i64 a1, .sl (encL EIIII a2) a2.length])], 64⟩ ∧ s_CosetIndex_j1 a2 v1 = some r) hN ?_ ?_
 ·intro K hK; obtain ⟨x1, h1, h⟩ := bO_inv h; simp only [EV, seval]; refine CP (s_IsValidTableau_ok h1) ?_; obtain ⟨x2, hv1, h⟩ := bO_inv h; rcases br_inv hv1 with ⟨hc1, hv1⟩ | ⟨hc1, hv1⟩
  ·cases hv1; simp only [EV, seval, hc1]; refine hK _ _ _ (show cutK _ _ _ from cutL ⟨_, rfl, h⟩ (Le_can [(32, some 64)] [] hρ (by kernel_rfl) ?_ ?_))
   ·simp only [AL, EV, seval, hc1]
   ·simp only [AL, EV, seval, hc1]
  ·cases hv1; simp only [EV, seval, hc1]; refine hK _ _ _ (show cutK _ _ _ from cutL ⟨_, rfl, h⟩ (Le_can [(32, some 64)] [] hρ (by kernel_rfl) ?_ ?_))
   ·simp only [AL, EV, seval, hc1]
   ·simp only [AL, EV, seval, hc1]
 ·rintro S ⟨v1, rfl, h⟩; unfold s_CosetIndex_j1 at h; refine AB h (fun hc2 h => ?_) fun hc2 h => ?_
  ·refine AN hN ?_; injection h with h; subst h; exact AX (b' := 64) [(2, .int .i64 (-1))] [] [] [] hρ (EQ [])
  ·refine AW_skip (AK ?_); refine AW_seq ?_; refine AR hN fun K hK => ?_; obtain ⟨q1, h2, h⟩ := bO_inv h; obtain ⟨⟨h3a, h3b⟩, h3c⟩ := geti_E EIIIIl h2; (try simp only [EV, seval] at h3c); simp only [EV, seval, h3a, h3b, h3c]; refine hK _ _ _ ?_; clear hK K; refine AW_condK (a := .bool (q1.2.1 == 0)) (by simp only [EV, seval, h3a, h3b, h3c]) (brK h (fun hc3 h => ?_) (fun hc3 h => ?_))
   ·refine AN hN ?_; injection h with h; subst h; exact AX (b' := 64) [(2, .int .i64 0)] [] [] [] hρ (EQ [])
   ·refine AW_skip (AK ?_); refine AW_seq ?_; refine AR hN fun K hK => ?_; obtain ⟨q2, h4, h⟩ := bO_inv h; obtain ⟨⟨h5a, h5b⟩, h5c⟩ := geti_E EIIIIl h4; (try simp only [EV, seval] at h5c); (try simp only [EV, seval, h5c] at h3c); simp only [EV, seval, h5a, h5b, h5c]; refine hK _ _ _ ?_; clear hK K; refine AW_condK (a := .bool (q2.2.1 == 0)) (by simp only [EV, seval, h5a, h5b, h5c]) (brK h (fun hc4 h => ?_) (fun hc4 h => ?_))
    ·refine AR hN fun K hK => ?_; simp only [EV, seval, h5c]; refine hK _ _ _ ?_; clear hK K; injection h with h; subst h; refine AW_le (Le_can (lt := [(2, .int .i64 1)]) (lr := []) (b' := 64) [] [] hρ (by kernel_rfl) ?_ ?_) (AW_ret (end_q [] (.inr rfl) (by kernel_rfl) (by kernel_rfl) ?_))
     ·simp only [AL, EV, seval, h5c]
     ·simp only [AL, EV, seval, h5c]
     ·simp only [EV, Tryz.results200, seval]
    ·refine AW_skip (AK ?_); refine AR hN fun K hK => ?_; simp only [EV, seval, h5c]; refine hK _ _ _ ?_; clear hK K; injection h with h; subst h; refine AW_le (Le_can (lt := [(2, .int .i64 2)]) (lr := []) (b' := 64) [] [] hρ (by kernel_rfl) ?_ ?_) (AW_ret (end_q [] (.inr rfl) (by kernel_rfl) (by kernel_rfl) ?_))
     ·simp only [AL, EV, seval, h5c]
     ·simp only [AL, EV, seval, h5c]
     ·simp only [EV, Tryz.results200, seval]
end Go.Proofs.YtfjopjalhllplaaGreat
/- Models of functions, and that the functions do what the models say; printed by a program. -/
namespace Go.Proofs.YtfjopjalhllplaaGreat
open Go.RowKit
set_option maxRecDepth 100000
set_option linter.unusedVariables false
set_option linter.unusedSimpArgs false
set_option linter.defProp false
set_option maxHeartbeats 4000000
/- impl.IsValidNormalForm -/
def i_IsValidNormalForm_j4 (v6 v7 : Int) (kl1 : Int → Int → Option Bool) (v8 : Bool) : Option Bool :=
  br v8 (some false) (kl1 v6 (IntKind.wrap .i64 (v7 + 1)))
def i_IsValidNormalForm_j5 (v9 : Bool) : Option Bool :=
  some v9
def i_IsValidNormalForm_j1 (a2 : Int) (a3 : LQ) : Option Bool :=
  bO (br (a2 == 1) (bO (i_IsValidTableau a2 a3) fun x11 => some x11) (some false)) fun x12 => i_IsValidNormalForm_j5 x12
def i_IsValidNormalForm_l1 (a1 : List Int) (a2 : Int) (a3 : LQ) : Nat → Int → Int → Option Bool
  | 0, _, _ => none
  | n1 + 1, v6, v7 =>
  br (decide (v7 < v6)) (bO (geti a1 v7) fun q3 => bO (i_in q3 0 2) fun x7 => bO (br (!x7) (some true) (bO (br (decide (0 < v7)) (some (q3 == 0)) (some false)) fun x8 => some x8)) fun x9 => i_IsValidNormalForm_j4 v6 v7 (i_IsValidNormalForm_l1 a1 a2 a3 n1) x9) (i_IsValidNormalForm_j1 a2 a3)
def i_IsValidNormalForm (a1 : List Int) (a2 : Int) (a3 : LQ) : Option Bool :=
  i_IsValidNormalForm_l1 a1 a2 a3 FU ((a1.length : Int)) 0
theorem i_IsValidNormalForm_ok {a1 : List Int} {a2 : Int} {a3 : LQ} {r : Bool} (h : i_IsValidNormalForm a1 a2 a3 = some r) :
    Spec Tryz.prog 113 [.agg [.sl (encL EI a1) a1.length, .int .i64 a2, .sl (encL EIIII a3) a3.length]] [] (.bool r) [] := by
 unfold i_IsValidNormalForm at h; refine SO Tryz.func113 rfl Tryz.ntmps113 fun C hN hρ => ?_; simp only [st0, tmps0, Nat.zero_add, Nat.reduceAdd]; refine AN hN ?_; refine AW_cutK (fun S => S = ⟨mkT [(1, .ptr 32 0)], mkR [(32, .box 118 [.sl (encL EI a1) a1.length, .int .i64 a2, .sl (encL EIIII a3) a3.length])], 64⟩ ∧ i_IsValidNormalForm_j1 a2 a3 = some r) ?_ ?_
 ·refine AN hN ?_; refine AW_block ?_; refine AW_loopF (fun n S => ∃ (v6 v7 : Int), S = ⟨mkT [(1, .ptr 32 0), (6, .sl (encL EI a1) a1.length), (7, .int .i64 v6), (8, .int .i64 v7)], mkR [(32, .box 118 [.sl (encL EI a1) a1.length, .int .i64 a2, .sl (encL EIIII a3) a3.length])], 64⟩ ∧ i_IsValidNormalForm_l1 a1 a2 a3 n v6 v7 = some r) FU ?_ ?_ ?_
  ·exact AC ⟨_, _, rfl, h⟩ [(32, some 64)] [] hρ
  ·rintro S ⟨_, _, _, h⟩; rw [i_IsValidNormalForm_l1] at h; cases h
  ·rintro n1 S ⟨v6, v7, rfl, h⟩; rw [i_IsValidNormalForm_l1] at h; refine AN hN ?_; refine AW_seq ?_; refine AB h (fun hc9 h => ?_) fun hc9 h => ?_
   ·refine AW_skip (AK ?_); refine AW_seq ?_; refine AW_block ?_; refine AR hN fun K hK => ?_; obtain ⟨q3, h7, h⟩ := bO_inv h; obtain ⟨⟨h8a, h8b⟩, h8c⟩ := geti_E EIl h7; (try simp only [EV, seval] at h8c); simp only [EV, seval, h8a, h8b, h8c]; refine hK _ _ _ ?_; clear hK K; refine AJ (fun S => ∃ (v8 : Bool), S = ⟨mkT [(1, .ptr 32 0), (6, .sl (encL EI a1) a1.length), (7, .int .i64 v6), (8, .int .i64 v7), (23, .bool v8)], mkR [(32, .box 118 [.sl (encL EI a1) a1.length, .int .i64 a2, .sl (encL EIIII a3) a3.length])], 64⟩ ∧ i_IsValidNormalForm_j4 v6 v7 (i_IsValidNormalForm_l1 a1 a2 a3 n1) v8 = some r) hN ?_ ?_
    ·intro K hK; obtain ⟨x7, h9, h⟩ := bO_inv h; simp only [EV, seval]; refine CP (i_in_ok h9) ?_; obtain ⟨x9, hv5, h⟩ := bO_inv h; rcases br_inv hv5 with ⟨hc10, hv5⟩ | ⟨hc10, hv5⟩
     ·cases hv5; simp only [EV, seval, hc10]; refine hK _ _ _ (show cutK _ _ _ from cutL ⟨_, rfl, h⟩ (Le_can [(32, some 32)] [] hρ (by kernel_rfl) ?_ ?_))
      ·simp only [AL, EV, seval, hc10]
      ·simp only [AL, EV, seval, hc10]
     ·obtain ⟨x10, hv7, hv5⟩ := bO_inv hv5; rcases br_inv hv7 with ⟨hc12, hv7⟩ | ⟨hc12, hv7⟩
      ·cases hv7; cases hv5; simp only [EV, seval, hc10, hc12]; refine hK _ _ _ (show cutK _ _ _ from cutL ⟨_, rfl, h⟩ (Le_can [(32, some 32)] [] hρ (by kernel_rfl) ?_ ?_))
       ·simp only [AL, EV, seval, hc10, hc12]
       ·simp only [AL, EV, seval, hc10, hc12]
      ·cases hv7; cases hv5; simp only [EV, seval, hc10, hc12]; refine hK _ _ _ (show cutK _ _ _ from cutL ⟨_, rfl, h⟩ (Le_can [(32, some 32)] [] hρ (by kernel_rfl) ?_ ?_))
       ·simp only [AL, EV, seval, hc10, hc12]
       ·simp only [AL, EV, seval, hc10, hc12]
    ·rintro S ⟨v8, rfl, h⟩; unfold i_IsValidNormalForm_j4 at h; refine AW_condK (a := .bool v8) (by simp only [EV, seval, h8a, h8b, h8c]) (brK h (fun hc13 h => ?_) (fun hc13 h => ?_))
     ·refine AN hN ?_; injection h with h; subst h; exact AX (b' := 64) [(2, .bool false)] [] [] [] hρ (EQ [])
     ·refine AW_skip (AK ?_); refine AS hN fun K hK => ?_; simp only [EV, seval]; exact hK _ _ _ (AC ⟨_, _, rfl, h⟩ [(32, some 32)] [] hρ)
   ·exact AW_exit (AC ⟨rfl, h⟩ [(32, some 32)] [] hρ)
 ·rintro S ⟨rfl, h⟩; unfold i_IsValidNormalForm_j1 at h; refine AJ (fun S => ∃ (v9 : Bool), S = ⟨mkT [(2, .bool v9)], mkR [], 64⟩ ∧ i_IsValidNormalForm_j5 v9 = some r) hN ?_ ?_
  ·intro K hK; obtain ⟨x12, hv8, h⟩ := bO_inv h; rcases br_inv hv8 with ⟨hc14, hv8⟩ | ⟨hc14, hv8⟩
   ·obtain ⟨x13, h11, hv8⟩ := bO_inv hv8; simp only [EV, seval, hc14]; refine rC_p (i_IsValidTableau_ok h11) (by simp only [AL, EV, seval, hc14]) (le_d rfl) (no_j rfl) ?_; cases hv8; simp only [EV, seval, hc14]; refine hK _ _ _ (show cutK _ _ _ from cutL ⟨_, rfl, h⟩ (Le_can [] [] hρ (by kernel_rfl) ?_ ?_))
    ·simp only [AL, EV, seval, hc14]
    ·simp only [AL, EV, seval, hc14]
   ·cases hv8; simp only [EV, seval, hc14]; refine hK _ _ _ (show cutK _ _ _ from cutL ⟨_, rfl, h⟩ (Le_can [] [] hρ (by kernel_rfl) ?_ ?_))
    ·simp only [AL, EV, seval, hc14]
    ·simp only [AL, EV, seval, hc14]
  ·rintro S ⟨v9, rfl, h⟩; unfold i_IsValidNormalForm_j5 at h; injection h with h; subst h; exact AX (b' := 64) [(2, .bool v9)] [] [] [] hρ (EQ [])
/- spec.IsValidNormalForm -/
def s_IsValidNormalForm_j4 (v4 : Int) (kl1 : Int → Option Bool) (v5 : Bool) : Option Bool :=
  br v5 (some false) (kl1 (IntKind.wrap .i64 (v4 + 1)))
def s_IsValidNormalForm_j5 (v6 : Bool) : Option Bool :=
  some v6
def s_IsValidNormalForm_j1 (a2 : Int) (a3 : LQ) : Option Bool :=
  bO (s_IsValidTableau a2 a3) fun x11 => bO (br x11 (some (a2 == 1)) (some false)) fun x12 => s_IsValidNormalForm_j5 x12
def s_IsValidNormalForm_l1 (a1 : List Int) (a2 : Int) (a3 : LQ) : Nat → Int → Option Bool
  | 0, _ => none
  | n1 + 1, v4 =>
  br (decide (v4 < ((a1.length : Int)))) (bO (geti a1 v4) fun q3 => bO (s_l1In q3 0 2) fun x7 => bO (br (!x7) (some true) (bO (br (decide (0 < v4)) (some (q3 == 0)) (some false)) fun x8 => some x8)) fun x9 => s_IsValidNormalForm_j4 v4 (s_IsValidNormalForm_l1 a1 a2 a3 n1) x9) (s_IsValidNormalForm_j1 a2 a3)
def s_IsValidNormalForm (a1 : List Int) (a2 : Int) (a3 : LQ) : Option Bool :=
  s_IsValidNormalForm_l1 a1 a2 a3 FU 0
theorem s_IsValidNormalForm_ok {a1 : List Int} {a2 : Int} {a3 : LQ} {r : Bool} (h : s_IsValidNormalForm a1 a2 a3 = some r) :
    Spec Tryz.prog 118 [.agg [.sl (encL EI a1) a1.length, .int .i64 a2, .sl (encL EIIII a3) a3.length]] [] (.bool r) [] := by
 unfold s_IsValidNormalForm at h; refine SO Tryz.func118 rfl Tryz.ntmps118 fun C hN hρ => ?_; simp only [st0, tmps0, Nat.zero_add, Nat.reduceAdd]; refine AN hN ?_; refine AW_cutK (fun S => S = ⟨mkT [(1, .ptr 32 0)], mkR [(32, .box 118 [.sl (encL EI a1) a1.length, .int .i64 a2, .sl (encL EIIII a3) a3.length])], 64⟩ ∧ s_IsValidNormalForm_j1 a2 a3 = some r) ?_ ?_
 ·refine AN hN ?_; refine AW_block ?_; refine AW_loopF (fun n S => ∃ (v4 : Int), S = ⟨mkT [(1, .ptr 32 0), (3, .int .i64 v4)], mkR [(32, .box 118 [.sl (encL EI a1) a1.length, .int .i64 a2, .sl (encL EIIII a3) a3.length])], 64⟩ ∧ s_IsValidNormalForm_l1 a1 a2 a3 n v4 = some r) FU ?_ ?_ ?_
  ·exact AC ⟨_, rfl, h⟩ [(32, some 64)] [] hρ
  ·rintro S ⟨_, _, h⟩; rw [s_IsValidNormalForm_l1] at h; cases h
  ·rintro n1 S ⟨v4, rfl, h⟩; rw [s_IsValidNormalForm_l1] at h; refine AW_seq ?_; refine AN hN ?_; refine AB h (fun hc9 h => ?_) fun hc9 h => ?_
   ·refine AW_skip (AK ?_); refine AW_seq ?_; refine AW_block ?_; refine AJ (fun S => ∃ (v5 : Bool), S = ⟨mkT [(1, .ptr 32 0), (3, .int .i64 v4), (29, .bool v5)], mkR [(32, .box 118 [.sl (encL EI a1) a1.length, .int .i64 a2, .sl (encL EIIII a3) a3.length])], 64⟩ ∧ s_IsValidNormalForm_j4 v4 (s_IsValidNormalForm_l1 a1 a2 a3 n1) v5 = some r) hN ?_ ?_
    ·intro K hK; obtain ⟨q3, h7, h⟩ := bO_inv h; obtain ⟨⟨h8a, h8b⟩, h8c⟩ := geti_E EIl h7; (try simp only [EV, seval] at h8c); obtain ⟨x7, h9, h⟩ := bO_inv h; simp only [EV, seval, h8a, h8b, h8c]; refine rC_p (s_l1In_ok h9) (by simp only [AL, EV, seval, h8a, h8b, h8c]) (le_d rfl) (no_j rfl) ?_; obtain ⟨x9, hv5, h⟩ := bO_inv h; rcases br_inv hv5 with ⟨hc10, hv5⟩ | ⟨hc10, hv5⟩
     ·cases hv5; simp only [EV, seval, h8a, h8b, h8c, hc10]; refine hK _ _ _ (show cutK _ _ _ from cutL ⟨_, rfl, h⟩ (Le_can [(32, some 32)] [] hρ (by kernel_rfl) ?_ ?_))
      ·simp only [AL, EV, seval, h8a, h8b, h8c, hc10]
      ·simp only [AL, EV, seval, h8a, h8b, h8c, hc10]
     ·obtain ⟨x10, hv7, hv5⟩ := bO_inv hv5; rcases br_inv hv7 with ⟨hc12, hv7⟩ | ⟨hc12, hv7⟩
      ·cases hv7; cases hv5; simp only [EV, seval, h8a, h8b, h8c, hc10, hc12]; refine hK _ _ _ (show cutK _ _ _ from cutL ⟨_, rfl, h⟩ (Le_can [(32, some 32)] [] hρ (by kernel_rfl) ?_ ?_))
       ·simp only [AL, EV, seval, h8a, h8b, h8c, hc10, hc12]
       ·simp only [AL, EV, seval, h8a, h8b, h8c, hc10, hc12]
      ·cases hv7; cases hv5; simp only [EV, seval, h8a, h8b, h8c, hc10, hc12]; refine hK _ _ _ (show cutK _ _ _ from cutL ⟨_, rfl, h⟩ (Le_can [(32, some 32)] [] hρ (by kernel_rfl) ?_ ?_))
       ·simp only [AL, EV, seval, h8a, h8b, h8c, hc10, hc12]
       ·simp only [AL, EV, seval, h8a, h8b, h8c, hc10, hc12]
    ·rintro S ⟨v5, rfl, h⟩; unfold s_IsValidNormalForm_j4 at h; refine AB h (fun hc13 h => ?_) fun hc13 h => ?_
     ·refine AN hN ?_; injection h with h; subst h; exact AX (b' := 64) [(2, .bool false)] [] [] [] hρ (EQ [])
     ·refine AW_skip (AK ?_); refine AS hN fun K hK => ?_; simp only [EV, seval]; exact hK _ _ _ (AC ⟨_, rfl, h⟩ [(32, some 32)] [] hρ)
   ·exact AW_exit (AC ⟨rfl, h⟩ [(32, some 32)] [] hρ)
 ·rintro S ⟨rfl, h⟩; unfold s_IsValidNormalForm_j1 at h; refine AJ (fun S => ∃ (v6 : Bool), S = ⟨mkT [(2, .bool v6)], mkR [], 64⟩ ∧ s_IsValidNormalForm_j5 v6 = some r) hN ?_ ?_
  ·intro K hK; obtain ⟨x11, h10, h⟩ := bO_inv h; simp only [EV, seval]; refine CP (s_IsValidTableau_ok h10) ?_; obtain ⟨x12, hv8, h⟩ := bO_inv h; rcases br_inv hv8 with ⟨hc14, hv8⟩ | ⟨hc14, hv8⟩
   ·cases hv8; simp only [EV, seval, hc14]; refine hK _ _ _ (show cutK _ _ _ from cutL ⟨_, rfl, h⟩ (Le_can [] [] hρ (by kernel_rfl) ?_ ?_))
    ·simp only [AL, EV, seval, hc14]
    ·simp only [AL, EV, seval, hc14]
   ·cases hv8; simp only [EV, seval, hc14]; refine hK _ _ _ (show cutK _ _ _ from cutL ⟨_, rfl, h⟩ (Le_can [] [] hρ (by kernel_rfl) ?_ ?_))
    ·simp only [AL, EV, seval, hc14]
    ·simp only [AL, EV, seval, hc14]
  ·rintro S ⟨v6, rfl, h⟩; unfold s_IsValidNormalForm_j5 at h; injection h with h; subst h; exact AX (b' := 64) [(2, .bool v6)] [] [] [] hρ (EQ [])
end Go.Proofs.YtfjopjalhllplaaGreat
