/- Joined texts: Ma Mb. -/
import Derived.Test.YtoleoojcodlciaaK1
/- Models of functions, and that the functions do what the models say; printed by a program. -/
namespace Go.Proofs.Ytoleoojcodlciaa
open Go.RowKit
set_option maxRecDepth 100000
set_option linter.unusedVariables false
set_option linter.unusedSimpArgs false
set_option linter.defProp false
set_option maxHeartbeats 4000000
/- impl.in -/
def i_in_j1 (v1 : Bool) : Option Bool :=
  some v1
def i_in (a1 a2 a3 : Int) : Option Bool :=
  bO (br (decide (a2 ≤ a1)) (some (decide (a1 ≤ a3))) (some false)) fun x1 => i_in_j1 x1
theorem i_in_ok {a1 a2 a3 : Int} {r : Bool} (h : i_in a1 a2 a3 = some r) :
    Spec Try.prog 83 [.int .i64 a1, .int .i64 a2, .int .i64 a3] [] (.bool r) [] := by
 unfold i_in at h; refine SO Try.func83 rfl Try.ntmps83 fun C hN hρ => ?_; simp only [st0, tmps0, Nat.zero_add, Nat.reduceAdd]; refine AN hN ?_; refine AJ (fun S => ∃ (v1 : Bool), S = ⟨mkT [(6, .bool v1)], mkR [], 64⟩ ∧ i_in_j1 v1 = some r) hN ?_ ?_
 ·intro K hK; obtain ⟨x1, hv1, h⟩ := bO_inv h; rcases br_inv hv1 with ⟨hc1, hv1⟩ | ⟨hc1, hv1⟩
  ·cases hv1; simp only [EV, seval, hc1]; refine hK _ _ _ (show cutK _ _ _ from cutL ⟨_, rfl, h⟩ (Le_can [] [] hρ (by kernel_rfl) ?_ ?_))
   ·simp only [AL, EV, seval, hc1]
   ·simp only [AL, EV, seval, hc1]
  ·cases hv1; simp only [EV, seval, hc1]; refine hK _ _ _ (show cutK _ _ _ from cutL ⟨_, rfl, h⟩ (Le_can [] [] hρ (by kernel_rfl) ?_ ?_))
   ·simp only [AL, EV, seval, hc1]
   ·simp only [AL, EV, seval, hc1]
 ·rintro S ⟨v1, rfl, h⟩; unfold i_in_j1 at h; injection h with h; subst h; exact AX (b' := 64) [(6, .bool v1)] [] [] [] hρ (EQ [])
/- spec.l1In -/
def s_l1In_j1 (v1 : Bool) : Option Bool :=
  some v1
def s_l1In (a1 a2 a3 : Int) : Option Bool :=
  bO (br (decide (a2 ≤ a1)) (some (decide (a1 ≤ a3))) (some false)) fun x1 => s_l1In_j1 x1
theorem s_l1In_ok {a1 a2 a3 : Int} {r : Bool} (h : s_l1In a1 a2 a3 = some r) :
    Spec Try.prog 81 [.int .i64 a1, .int .i64 a2, .int .i64 a3] [] (.bool r) [] := by
 unfold s_l1In at h; refine SO Try.func81 rfl Try.ntmps81 fun C hN hρ => ?_; simp only [st0, tmps0, Nat.zero_add, Nat.reduceAdd]; refine AN hN ?_; refine AJ (fun S => ∃ (v1 : Bool), S = ⟨mkT [(6, .bool v1)], mkR [], 64⟩ ∧ s_l1In_j1 v1 = some r) hN ?_ ?_
 ·intro K hK; obtain ⟨x1, hv1, h⟩ := bO_inv h; rcases br_inv hv1 with ⟨hc1, hv1⟩ | ⟨hc1, hv1⟩
  ·cases hv1; simp only [EV, seval, hc1]; refine hK _ _ _ (show cutK _ _ _ from cutL ⟨_, rfl, h⟩ (Le_can [] [] hρ (by kernel_rfl) ?_ ?_))
   ·simp only [AL, EV, seval, hc1]
   ·simp only [AL, EV, seval, hc1]
  ·cases hv1; simp only [EV, seval, hc1]; refine hK _ _ _ (show cutK _ _ _ from cutL ⟨_, rfl, h⟩ (Le_can [] [] hρ (by kernel_rfl) ?_ ?_))
   ·simp only [AL, EV, seval, hc1]
   ·simp only [AL, EV, seval, hc1]
 ·rintro S ⟨v1, rfl, h⟩; unfold s_l1In_j1 at h; injection h with h; subst h; exact AX (b' := 64) [(6, .bool v1)] [] [] [] hρ (EQ [])
/- impl.IsValidPauli -/
def i_IsValidPauli_j1 (v1 : Bool) : Option Bool :=
  some v1
def i_IsValidPauli (a1 a2 a3 a4 : Int) : Option Bool :=
  bO (i_in a1 1 4) fun x1 => bO (br x1 (gd (decide (¬ a1 < 0)) (bO (i_in a2 0 (IntKind.wrap .i64 ((IntKind.wrap .i64 (1 * 2 ^ min (Int.toNat a1) (IntKind.bits .i64))) - 1))) fun x2 => some x2)) (some false)) fun x3 => bO (br x3 (gd (decide (¬ a1 < 0)) (bO (i_in a3 0 (IntKind.wrap .i64 ((IntKind.wrap .i64 (1 * 2 ^ min (Int.toNat a1) (IntKind.bits .i64))) - 1))) fun x4 => some x4)) (some false)) fun x5 => bO (br x5 (bO (i_in a4 0 3) fun x6 => some x6) (some false)) fun x7 => i_IsValidPauli_j1 x7
theorem i_IsValidPauli_ok {a1 a2 a3 a4 : Int} {r : Bool} (h : i_IsValidPauli a1 a2 a3 a4 = some r) :
    Spec Try.prog 42 [.agg [.int .i64 a1, .int .i64 a2, .int .i64 a3, .int .i64 a4]] [] (.bool r) [] := by
 unfold i_IsValidPauli at h; refine SO Try.func42 rfl Try.ntmps42 fun C hN hρ => ?_; simp only [st0, tmps0, Nat.zero_add, Nat.reduceAdd]; refine AN hN ?_; refine AJ (fun S => ∃ (v1 : Bool), S = ⟨mkT [(2, .bool v1)], mkR [], 64⟩ ∧ i_IsValidPauli_j1 v1 = some r) hN ?_ ?_
 ·intro K hK; obtain ⟨x1, h1, h⟩ := bO_inv h; simp only [EV, seval]; refine CP (i_in_ok h1) ?_; obtain ⟨x3, hv1, h⟩ := bO_inv h; rcases br_inv hv1 with ⟨hc1, hv1⟩ | ⟨hc1, hv1⟩
  ·obtain ⟨h7, hv1⟩ := gd_inv hv1; replace h7 := of_decide_eq_true h7; obtain ⟨x8, h8, hv1⟩ := bO_inv hv1; simp only [EV, seval, hc1, h7]; refine rC_p (i_in_ok h8) (by simp only [AL, EV, seval, hc1, h7]) (le_d rfl) (no_j rfl) ?_; cases hv1; obtain ⟨x10, hv4, h⟩ := bO_inv h; rcases br_inv hv4 with ⟨hc4, hv4⟩ | ⟨hc4, hv4⟩
   ·obtain ⟨h12, hv4⟩ := gd_inv hv4; replace h12 := of_decide_eq_true h12; obtain ⟨x13, h13, hv4⟩ := bO_inv hv4; simp only [EV, seval, hc1, h7, hc4, h12]; refine rC_p (i_in_ok h13) (by simp only [AL, EV, seval, hc1, h7, hc4, h12]) (le_d rfl) (no_j rfl) ?_; cases hv4; obtain ⟨x15, hv6, h⟩ := bO_inv h; rcases br_inv hv6 with ⟨hc6, hv6⟩ | ⟨hc6, hv6⟩
    ·obtain ⟨x16, h15, hv6⟩ := bO_inv hv6; simp only [EV, seval, hc1, h7, hc4, h12, hc6]; refine rC_p (i_in_ok h15) (by simp only [AL, EV, seval, hc1, h7, hc4, h12, hc6]) (le_d rfl) (no_j rfl) ?_; cases hv6; simp only [EV, seval, hc1, h7, hc4, h12, hc6]; refine hK _ _ _ (show cutK _ _ _ from cutL ⟨_, rfl, h⟩ (Le_can [] [] hρ (by kernel_rfl) ?_ ?_))
     ·simp only [AL, EV, seval, hc1, h7, hc4, h12, hc6]
     ·simp only [AL, EV, seval, hc1, h7, hc4, h12, hc6]
    ·cases hv6; simp only [EV, seval, hc1, h7, hc4, h12, hc6]; refine hK _ _ _ (show cutK _ _ _ from cutL ⟨_, rfl, h⟩ (Le_can [] [] hρ (by kernel_rfl) ?_ ?_))
     ·simp only [AL, EV, seval, hc1, h7, hc4, h12, hc6]
     ·simp only [AL, EV, seval, hc1, h7, hc4, h12, hc6]
   ·cases hv4; obtain ⟨x17, hv7, h⟩ := bO_inv h; replace hv7 := br_f hv7; cases hv7; (try dsimp only at h); simp only [EV, seval, hc1, h7, hc4]; refine hK _ _ _ (show cutK _ _ _ from cutL ⟨_, rfl, h⟩ (Le_can [] [] hρ (by kernel_rfl) ?_ ?_))
    ·simp only [AL, EV, seval, hc1, h7, hc4]
    ·simp only [AL, EV, seval, hc1, h7, hc4]
  ·cases hv1; obtain ⟨x18, hv8, h⟩ := bO_inv h; replace hv8 := br_f hv8; cases hv8; (try dsimp only at h); obtain ⟨x19, hv9, h⟩ := bO_inv h; replace hv9 := br_f hv9; cases hv9; (try dsimp only at h); simp only [EV, seval, hc1]; refine hK _ _ _ (show cutK _ _ _ from cutL ⟨_, rfl, h⟩ (Le_can [] [] hρ (by kernel_rfl) ?_ ?_))
   ·simp only [AL, EV, seval, hc1]
   ·simp only [AL, EV, seval, hc1]
 ·rintro S ⟨v1, rfl, h⟩; unfold i_IsValidPauli_j1 at h; injection h with h; subst h; exact AX (b' := 64) [(2, .bool v1)] [] [] [] hρ (EQ [])
/- spec.IsValidPauli -/
def s_IsValidPauli_j1 (v1 : Bool) : Option Bool :=
  some v1
def s_IsValidPauli (a1 a2 a3 a4 : Int) : Option Bool :=
  bO (s_l1In a1 1 4) fun x1 => br (!x1) (some false) (gd (decide (¬ (IntKind.wrap .u64 a1) < 0)) (bO (s_l1In a2 0 (IntKind.wrap .i64 ((IntKind.wrap .i64 (1 * 2 ^ min (Int.toNat (IntKind.wrap .u64 a1)) (IntKind.bits .i64))) - 1))) fun x2 => bO (br x2 (bO (s_l1In a3 0 (IntKind.wrap .i64 ((IntKind.wrap .i64 (1 * 2 ^ min (Int.toNat (IntKind.wrap .u64 a1)) (IntKind.bits .i64))) - 1))) fun x3 => some x3) (some false)) fun x4 => bO (br x4 (bO (s_l1In a4 0 3) fun x5 => some x5) (some false)) fun x6 => s_IsValidPauli_j1 x6))
theorem s_IsValidPauli_ok {a1 a2 a3 a4 : Int} {r : Bool} (h : s_IsValidPauli a1 a2 a3 a4 = some r) :
    Spec Try.prog 38 [.agg [.int .i64 a1, .int .i64 a2, .int .i64 a3, .int .i64 a4]] [] (.bool r) [] := by
 unfold s_IsValidPauli at h; refine SO Try.func38 rfl Try.ntmps38 fun C hN hρ => ?_; simp only [st0, tmps0, Nat.zero_add, Nat.reduceAdd]; refine AN hN ?_; refine AW_seq ?_; obtain ⟨x1, h1, h⟩ := bO_inv h; refine AP hN (s_l1In_ok h1) ?_; refine AB h (fun hc1 h => ?_) fun hc1 h => ?_
 ·refine AN hN ?_; injection h with h; subst h; exact AX (b' := 64) [(2, .bool false)] [] [] [] hρ (EQ [])
 ·refine AW_skip (AK ?_); refine AR hN fun K hK => ?_; obtain ⟨h2, h⟩ := gd_inv h; replace h2 := of_decide_eq_true h2; simp only [EV, seval, h2]; refine hK _ _ _ ?_; clear hK K; refine AJ (fun S => ∃ (v1 : Bool), S = ⟨mkT [(2, .bool v1)], mkR [], 64⟩ ∧ s_IsValidPauli_j1 v1 = some r) hN ?_ ?_
  ·intro K hK; obtain ⟨x2, h3, h⟩ := bO_inv h; simp only [EV, seval]; refine CP (s_l1In_ok h3) ?_; obtain ⟨x4, hv1, h⟩ := bO_inv h; rcases br_inv hv1 with ⟨hc2, hv1⟩ | ⟨hc2, hv1⟩
   ·obtain ⟨x7, h6, hv1⟩ := bO_inv hv1; simp only [EV, seval, hc2]; refine rC_p (s_l1In_ok h6) (by simp only [AL, EV, seval, hc2]) (le_d rfl) (no_j rfl) ?_; cases hv1; obtain ⟨x9, hv3, h⟩ := bO_inv h; rcases br_inv hv3 with ⟨hc4, hv3⟩ | ⟨hc4, hv3⟩
    ·obtain ⟨x10, h8, hv3⟩ := bO_inv hv3; simp only [EV, seval, hc2, hc4]; refine rC_p (s_l1In_ok h8) (by simp only [AL, EV, seval, hc2, hc4]) (le_d rfl) (no_j rfl) ?_; cases hv3; simp only [EV, seval, hc2, hc4]; refine hK _ _ _ (show cutK _ _ _ from cutL ⟨_, rfl, h⟩ (Le_can [] [] hρ (by kernel_rfl) ?_ ?_))
     ·simp only [AL, EV, seval, hc2, hc4]
     ·simp only [AL, EV, seval, hc2, hc4]
    ·cases hv3; simp only [EV, seval, hc2, hc4]; refine hK _ _ _ (show cutK _ _ _ from cutL ⟨_, rfl, h⟩ (Le_can [] [] hρ (by kernel_rfl) ?_ ?_))
     ·simp only [AL, EV, seval, hc2, hc4]
     ·simp only [AL, EV, seval, hc2, hc4]
   ·cases hv1; obtain ⟨x11, hv4, h⟩ := bO_inv h; replace hv4 := br_f hv4; cases hv4; (try dsimp only at h); simp only [EV, seval, hc2]; refine hK _ _ _ (show cutK _ _ _ from cutL ⟨_, rfl, h⟩ (Le_can [] [] hρ (by kernel_rfl) ?_ ?_))
    ·simp only [AL, EV, seval, hc2]
    ·simp only [AL, EV, seval, hc2]
  ·rintro S ⟨v1, rfl, h⟩; unfold s_IsValidPauli_j1 at h; injection h with h; subst h; refine AW_le (Le_can (lt := [(2, .bool v1)]) (lr := []) (b' := 64) [] [] hρ (by kernel_rfl) ?_ ?_) (AW_ret (end_q [] (.inr rfl) (by kernel_rfl) (by kernel_rfl) ?_))
   ·simp only [AL, EV, seval, h2]
   ·simp only [AL, EV, seval, h2]
   ·simp only [EV, Try.results38, seval]
/- math/bits.OnesCount64 -/
def math_bits_OnesCount64 (a1 : Int) : Option Int :=
  some (bits .and .i64 (IntKind.wrap .i64 (IntKind.wrap .u64 ((IntKind.wrap .u64 ((IntKind.wrap .u64 ((bits .and .u64 (IntKind.wrap .u64 ((Int.fdiv (IntKind.wrap .u64 ((bits .and .u64 (Int.fdiv (IntKind.wrap .u64 ((bits .and .u64 (Int.fdiv a1 (2 ^ min (Int.toNat 1) (IntKind.bits .u64))) 6148914691236517205) + (bits .and .u64 a1 6148914691236517205))) (2 ^ min (Int.toNat 2) (IntKind.bits .u64))) 3689348814741910323) + (bits .and .u64 (IntKind.wrap .u64 ((bits .and .u64 (Int.fdiv a1 (2 ^ min (Int.toNat 1) (IntKind.bits .u64))) 6148914691236517205) + (bits .and .u64 a1 6148914691236517205))) 3689348814741910323))) (2 ^ min (Int.toNat 4) (IntKind.bits .u64))) + (IntKind.wrap .u64 ((bits .and .u64 (Int.fdiv (IntKind.wrap .u64 ((bits .and .u64 (Int.fdiv a1 (2 ^ min (Int.toNat 1) (IntKind.bits .u64))) 6148914691236517205) + (bits .and .u64 a1 6148914691236517205))) (2 ^ min (Int.toNat 2) (IntKind.bits .u64))) 3689348814741910323) + (bits .and .u64 (IntKind.wrap .u64 ((bits .and .u64 (Int.fdiv a1 (2 ^ min (Int.toNat 1) (IntKind.bits .u64))) 6148914691236517205) + (bits .and .u64 a1 6148914691236517205))) 3689348814741910323))))) 1085102592571150095) + (Int.fdiv (bits .and .u64 (IntKind.wrap .u64 ((Int.fdiv (IntKind.wrap .u64 ((bits .and .u64 (Int.fdiv (IntKind.wrap .u64 ((bits .and .u64 (Int.fdiv a1 (2 ^ min (Int.toNat 1) (IntKind.bits .u64))) 6148914691236517205) + (bits .and .u64 a1 6148914691236517205))) (2 ^ min (Int.toNat 2) (IntKind.bits .u64))) 3689348814741910323) + (bits .and .u64 (IntKind.wrap .u64 ((bits .and .u64 (Int.fdiv a1 (2 ^ min (Int.toNat 1) (IntKind.bits .u64))) 6148914691236517205) + (bits .and .u64 a1 6148914691236517205))) 3689348814741910323))) (2 ^ min (Int.toNat 4) (IntKind.bits .u64))) + (IntKind.wrap .u64 ((bits .and .u64 (Int.fdiv (IntKind.wrap .u64 ((bits .and .u64 (Int.fdiv a1 (2 ^ min (Int.toNat 1) (IntKind.bits .u64))) 6148914691236517205) + (bits .and .u64 a1 6148914691236517205))) (2 ^ min (Int.toNat 2) (IntKind.bits .u64))) 3689348814741910323) + (bits .and .u64 (IntKind.wrap .u64 ((bits .and .u64 (Int.fdiv a1 (2 ^ min (Int.toNat 1) (IntKind.bits .u64))) 6148914691236517205) + (bits .and .u64 a1 6148914691236517205))) 3689348814741910323))))) 1085102592571150095) (2 ^ min (Int.toNat 8) (IntKind.bits .u64))))) + (Int.fdiv (IntKind.wrap .u64 ((bits .and .u64 (IntKind.wrap .u64 ((Int.fdiv (IntKind.wrap .u64 ((bits .and .u64 (Int.fdiv (IntKind.wrap .u64 ((bits .and .u64 (Int.fdiv a1 (2 ^ min (Int.toNat 1) (IntKind.bits .u64))) 6148914691236517205) + (bits .and .u64 a1 6148914691236517205))) (2 ^ min (Int.toNat 2) (IntKind.bits .u64))) 3689348814741910323) + (bits .and .u64 (IntKind.wrap .u64 ((bits .and .u64 (Int.fdiv a1 (2 ^ min (Int.toNat 1) (IntKind.bits .u64))) 6148914691236517205) + (bits .and .u64 a1 6148914691236517205))) 3689348814741910323))) (2 ^ min (Int.toNat 4) (IntKind.bits .u64))) + (IntKind.wrap .u64 ((bits .and .u64 (Int.fdiv (IntKind.wrap .u64 ((bits .and .u64 (Int.fdiv a1 (2 ^ min (Int.toNat 1) (IntKind.bits .u64))) 6148914691236517205) + (bits .and .u64 a1 6148914691236517205))) (2 ^ min (Int.toNat 2) (IntKind.bits .u64))) 3689348814741910323) + (bits .and .u64 (IntKind.wrap .u64 ((bits .and .u64 (Int.fdiv a1 (2 ^ min (Int.toNat 1) (IntKind.bits .u64))) 6148914691236517205) + (bits .and .u64 a1 6148914691236517205))) 3689348814741910323))))) 1085102592571150095) + (Int.fdiv (bits .and .u64 (IntKind.wrap .u64 ((Int.fdiv (IntKind.wrap .u64 ((bits .and .u64 (Int.fdiv (IntKind.wrap .u64 ((bits .and .u64 (Int.fdiv a1 (2 ^ min (Int.toNat 1) (IntKind.bits .u64))) 6148914691236517205) + (bits .and .u64 a1 6148914691236517205))) (2 ^ min (Int.toNat 2) (IntKind.bits .u64))) 3689348814741910323) + (bits .and .u64 (IntKind.wrap .u64 ((bits .and .u64 (Int.fdiv a1 (2 ^ min (Int.toNat 1) (IntKind.bits .u64))) 6148914691236517205) + (bits .and .u64 a1 6148914691236517205))) 3689348814741910323))) (2 ^ min (Int.toNat 4) (IntKind.bits .u64))) + (IntKind.wrap .u64 ((bits .and .u64 (Int.fdiv (IntKind.wrap .u64 ((bits .and .u64 (Int.fdiv a1 (2 ^ min (Int.toNat 1) (IntKind.bits .u64))) 6148914691236517205) + (bits .and .u64 a1 6148914691236517205))) (2 ^ min (Int.toNat 2) (IntKind.bits .u64))) 3689348814741910323) + (bits .and .u64 (IntKind.wrap .u64 ((bits .and .u64 (Int.fdiv a1 (2 ^ min (Int.toNat 1) (IntKind.bits .u64))) 6148914691236517205) + (bits .and .u64 a1 6148914691236517205))) 3689348814741910323))))) 1085102592571150095) (2 ^ min (Int.toNat 8) (IntKind.bits .u64))))) (2 ^ min (Int.toNat 16) (IntKind.bits .u64))))) + (Int.fdiv (IntKind.wrap .u64 ((IntKind.wrap .u64 ((bits .and .u64 (IntKind.wrap .u64 ((Int.fdiv (IntKind.wrap .u64 ((bits .and .u64 (Int.fdiv (IntKind.wrap .u64 ((bits .and .u64 (Int.fdiv a1 (2 ^ min (Int.toNat 1) (IntKind.bits .u64))) 6148914691236517205) + (bits .and .u64 a1 6148914691236517205))) (2 ^ min (Int.toNat 2) (IntKind.bits .u64))) 3689348814741910323) + (bits .and .u64 (IntKind.wrap .u64 ((bits .and .u64 (Int.fdiv a1 (2 ^ min (Int.toNat 1) (IntKind.bits .u64))) 6148914691236517205) + (bits .and .u64 a1 6148914691236517205))) 3689348814741910323))) (2 ^ min (Int.toNat 4) (IntKind.bits .u64))) + (IntKind.wrap .u64 ((bits .and .u64 (Int.fdiv (IntKind.wrap .u64 ((bits .and .u64 (Int.fdiv a1 (2 ^ min (Int.toNat 1) (IntKind.bits .u64))) 6148914691236517205) + (bits .and .u64 a1 6148914691236517205))) (2 ^ min (Int.toNat 2) (IntKind.bits .u64))) 3689348814741910323) + (bits .and .u64 (IntKind.wrap .u64 ((bits .and .u64 (Int.fdiv a1 (2 ^ min (Int.toNat 1) (IntKind.bits .u64))) 6148914691236517205) + (bits .and .u64 a1 6148914691236517205))) 3689348814741910323))))) 1085102592571150095) + (Int.fdiv (bits .and .u64 (IntKind.wrap .u64 ((Int.fdiv (IntKind.wrap .u64 ((bits .and .u64 (Int.fdiv (IntKind.wrap .u64 ((bits .and .u64 (Int.fdiv a1 (2 ^ min (Int.toNat 1) (IntKind.bits .u64))) 6148914691236517205) + (bits .and .u64 a1 6148914691236517205))) (2 ^ min (Int.toNat 2) (IntKind.bits .u64))) 3689348814741910323) + (bits .and .u64 (IntKind.wrap .u64 ((bits .and .u64 (Int.fdiv a1 (2 ^ min (Int.toNat 1) (IntKind.bits .u64))) 6148914691236517205) + (bits .and .u64 a1 6148914691236517205))) 3689348814741910323))) (2 ^ min (Int.toNat 4) (IntKind.bits .u64))) + (IntKind.wrap .u64 ((bits .and .u64 (Int.fdiv (IntKind.wrap .u64 ((bits .and .u64 (Int.fdiv a1 (2 ^ min (Int.toNat 1) (IntKind.bits .u64))) 6148914691236517205) + (bits .and .u64 a1 6148914691236517205))) (2 ^ min (Int.toNat 2) (IntKind.bits .u64))) 3689348814741910323) + (bits .and .u64 (IntKind.wrap .u64 ((bits .and .u64 (Int.fdiv a1 (2 ^ min (Int.toNat 1) (IntKind.bits .u64))) 6148914691236517205) + (bits .and .u64 a1 6148914691236517205))) 3689348814741910323))))) 1085102592571150095) (2 ^ min (Int.toNat 8) (IntKind.bits .u64))))) + (Int.fdiv (IntKind.wrap .u64 ((bits .and .u64 (IntKind.wrap .u64 ((Int.fdiv (IntKind.wrap .u64 ((bits .and .u64 (Int.fdiv (IntKind.wrap .u64 ((bits .and .u64 (Int.fdiv a1 (2 ^ min (Int.toNat 1) (IntKind.bits .u64))) 6148914691236517205) + (bits .and .u64 a1 6148914691236517205))) (2 ^ min (Int.toNat 2) (IntKind.bits .u64))) 3689348814741910323) + (bits .and .u64 (IntKind.wrap .u64 ((bits .and .u64 (Int.fdiv a1 (2 ^ min (Int.toNat 1) (IntKind.bits .u64))) 6148914691236517205) + (bits .and .u64 a1 6148914691236517205))) 3689348814741910323))) (2 ^ min (Int.toNat 4) (IntKind.bits .u64))) + (IntKind.wrap .u64 ((bits .and .u64 (Int.fdiv (IntKind.wrap .u64 ((bits .and .u64 (Int.fdiv a1 (2 ^ min (Int.toNat 1) (IntKind.bits .u64))) 6148914691236517205) + (bits .and .u64 a1 6148914691236517205))) (2 ^ min (Int.toNat 2) (IntKind.bits .u64))) 3689348814741910323) + (bits .and .u64 (IntKind.wrap .u64 ((bits .and .u64 (Int.fdiv a1 (2 ^ min (Int.toNat 1) (IntKind.bits .u64))) 6148914691236517205) + (bits .and .u64 a1 6148914691236517205))) 3689348814741910323))))) 1085102592571150095) + (Int.fdiv (bits .and .u64 (IntKind.wrap .u64 ((Int.fdiv (IntKind.wrap .u64 ((bits .and .u64 (Int.fdiv (IntKind.wrap .u64 ((bits .and .u64 (Int.fdiv a1 (2 ^ min (Int.toNat 1) (IntKind.bits .u64))) 6148914691236517205) + (bits .and .u64 a1 6148914691236517205))) (2 ^ min (Int.toNat 2) (IntKind.bits .u64))) 3689348814741910323) + (bits .and .u64 (IntKind.wrap .u64 ((bits .and .u64 (Int.fdiv a1 (2 ^ min (Int.toNat 1) (IntKind.bits .u64))) 6148914691236517205) + (bits .and .u64 a1 6148914691236517205))) 3689348814741910323))) (2 ^ min (Int.toNat 4) (IntKind.bits .u64))) + (IntKind.wrap .u64 ((bits .and .u64 (Int.fdiv (IntKind.wrap .u64 ((bits .and .u64 (Int.fdiv a1 (2 ^ min (Int.toNat 1) (IntKind.bits .u64))) 6148914691236517205) + (bits .and .u64 a1 6148914691236517205))) (2 ^ min (Int.toNat 2) (IntKind.bits .u64))) 3689348814741910323) + (bits .and .u64 (IntKind.wrap .u64 ((bits .and .u64 (Int.fdiv a1 (2 ^ min (Int.toNat 1) (IntKind.bits .u64))) 6148914691236517205) + (bits .and .u64 a1 6148914691236517205))) 3689348814741910323))))) 1085102592571150095) (2 ^ min (Int.toNat 8) (IntKind.bits .u64))))) (2 ^ min (Int.toNat 16) (IntKind.bits .u64))))) (2 ^ min (Int.toNat 32) (IntKind.bits .u64)))))) 127)
theorem math_bits_OnesCount64_ok {a1 r : Int} (h : math_bits_OnesCount64 a1 = some r) :
    Spec Try.prog 113 [.int .u64 a1] [] (.int .i64 r) [] := by
 unfold math_bits_OnesCount64 at h; refine SO Try.func113 rfl Try.ntmps113 fun C hN hρ => ?_; simp only [st0, tmps0, Nat.zero_add, Nat.reduceAdd]; refine AN hN ?_; refine AN hN ?_; refine AN hN ?_; refine AN hN ?_; refine AN hN ?_; refine AN hN ?_; refine AN hN ?_; refine AN hN ?_; injection h with h; subst h; exact AX (b' := 64) [(2, .int .i64 (bits .and .i64 (IntKind.wrap .i64 (IntKind.wrap .u64 ((IntKind.wrap .u64 ((IntKind.wrap .u64 ((bits .and .u64 (IntKind.wrap .u64 ((Int.fdiv (IntKind.wrap .u64 ((bits .and .u64 (Int.fdiv (IntKind.wrap .u64 ((bits .and .u64 (Int.fdiv a1 (2 ^ min (Int.toNat 1) (IntKind.bits .u64))) 6148914691236517205) + (bits .and .u64 a1 6148914691236517205))) (2 ^ min (Int.toNat 2) (IntKind.bits .u64))) 3689348814741910323) + (bits .and .u64 (IntKind.wrap .u64 ((bits .and .u64 (Int.fdiv a1 (2 ^ min (Int.toNat 1) (IntKind.bits .u64))) 6148914691236517205) + (bits .and .u64 a1 6148914691236517205))) 3689348814741910323))) (2 ^ min (Int.toNat 4) (IntKind.bits .u64))) + (IntKind.wrap .u64 ((bits .and .u64 (Int.fdiv (IntKind.wrap .u64 ((bits .and .u64 (Int.fdiv a1 (2 ^ min (Int.toNat 1) (IntKind.bits .u64))) 6148914691236517205) + (bits .and .u64 a1 6148914691236517205))) (2 ^ min (Int.toNat 2) (IntKind.bits .u64))) 3689348814741910323) + (bits .and .u64 (IntKind.wrap .u64 ((bits .and .u64 (Int.fdiv a1 (2 ^ min (Int.toNat 1) (IntKind.bits .u64))) 6148914691236517205) + (bits .and .u64 a1 6148914691236517205))) 3689348814741910323))))) 1085102592571150095) + (Int.fdiv (bits .and .u64 (IntKind.wrap .u64 ((Int.fdiv (IntKind.wrap .u64 ((bits .and .u64 (Int.fdiv (IntKind.wrap .u64 ((bits .and .u64 (Int.fdiv a1 (2 ^ min (Int.toNat 1) (IntKind.bits .u64))) 6148914691236517205) + (bits .and .u64 a1 6148914691236517205))) (2 ^ min (Int.toNat 2) (IntKind.bits .u64))) 3689348814741910323) + (bits .and .u64 (IntKind.wrap .u64 ((bits .and .u64 (Int.fdiv a1 (2 ^ min (Int.toNat 1) (IntKind.bits .u64))) 6148914691236517205) + (bits .and .u64 a1 6148914691236517205))) 3689348814741910323))) (2 ^ min (Int.toNat 4) (IntKind.bits .u64))) + (IntKind.wrap .u64 ((bits .and .u64 (Int.fdiv (IntKind.wrap .u64 ((bits .and .u64 (Int.fdiv a1 (2 ^ min (Int.toNat 1) (IntKind.bits .u64))) 6148914691236517205) + (bits .and .u64 a1 6148914691236517205))) (2 ^ min (Int.toNat 2) (IntKind.bits .u64))) 3689348814741910323) + (bits .and .u64 (IntKind.wrap .u64 ((bits .and .u64 (Int.fdiv a1 (2 ^ min (Int.toNat 1) (IntKind.bits .u64))) 6148914691236517205) + (bits .and .u64 a1 6148914691236517205))) 3689348814741910323))))) 1085102592571150095) (2 ^ min (Int.toNat 8) (IntKind.bits .u64))))) + (Int.fdiv (IntKind.wrap .u64 ((bits .and .u64 (IntKind.wrap .u64 ((Int.fdiv (IntKind.wrap .u64 ((bits .and .u64 (Int.fdiv (IntKind.wrap .u64 ((bits .and .u64 (Int.fdiv a1 (2 ^ min (Int.toNat 1) (IntKind.bits .u64))) 6148914691236517205) + (bits .and .u64 a1 6148914691236517205))) (2 ^ min (Int.toNat 2) (IntKind.bits .u64))) 3689348814741910323) + (bits .and .u64 (IntKind.wrap .u64 ((bits .and .u64 (Int.fdiv a1 (2 ^ min (Int.toNat 1) (IntKind.bits .u64))) 6148914691236517205) + (bits .and .u64 a1 6148914691236517205))) 3689348814741910323))) (2 ^ min (Int.toNat 4) (IntKind.bits .u64))) + (IntKind.wrap .u64 ((bits .and .u64 (Int.fdiv (IntKind.wrap .u64 ((bits .and .u64 (Int.fdiv a1 (2 ^ min (Int.toNat 1) (IntKind.bits .u64))) 6148914691236517205) + (bits .and .u64 a1 6148914691236517205))) (2 ^ min (Int.toNat 2) (IntKind.bits .u64))) 3689348814741910323) + (bits .and .u64 (IntKind.wrap .u64 ((bits .and .u64 (Int.fdiv a1 (2 ^ min (Int.toNat 1) (IntKind.bits .u64))) 6148914691236517205) + (bits .and .u64 a1 6148914691236517205))) 3689348814741910323))))) 1085102592571150095) + (Int.fdiv (bits .and .u64 (IntKind.wrap .u64 ((Int.fdiv (IntKind.wrap .u64 ((bits .and .u64 (Int.fdiv (IntKind.wrap .u64 ((bits .and .u64 (Int.fdiv a1 (2 ^ min (Int.toNat 1) (IntKind.bits .u64))) 6148914691236517205) + (bits .and .u64 a1 6148914691236517205))) (2 ^ min (Int.toNat 2) (IntKind.bits .u64))) 3689348814741910323) + (bits .and .u64 (IntKind.wrap .u64 ((bits .and .u64 (Int.fdiv a1 (2 ^ min (Int.toNat 1) (IntKind.bits .u64))) 6148914691236517205) + (bits .and .u64 a1 6148914691236517205))) 3689348814741910323))) (2 ^ min (Int.toNat 4) (IntKind.bits .u64))) + (IntKind.wrap .u64 ((bits .and .u64 (Int.fdiv (IntKind.wrap .u64 ((bits .and .u64 (Int.fdiv a1 (2 ^ min (Int.toNat 1) (IntKind.bits .u64))) 6148914691236517205) + (bits .and .u64 a1 6148914691236517205))) (2 ^ min (Int.toNat 2) (IntKind.bits .u64))) 3689348814741910323) + (bits .and .u64 (IntKind.wrap .u64 ((bits .and .u64 (Int.fdiv a1 (2 ^ min (Int.toNat 1) (IntKind.bits .u64))) 6148914691236517205) + (bits .and .u64 a1 6148914691236517205))) 3689348814741910323))))) 1085102592571150095) (2 ^ min (Int.toNat 8) (IntKind.bits .u64))))) (2 ^ min (Int.toNat 16) (IntKind.bits .u64))))) + (Int.fdiv (IntKind.wrap .u64 ((IntKind.wrap .u64 ((bits .and .u64 (IntKind.wrap .u64 ((Int.fdiv (IntKind.wrap .u64 ((bits .and .u64 (Int.fdiv (IntKind.wrap .u64 ((bits .and .u64 (Int.fdiv a1 (2 ^ min (Int.toNat 1) (IntKind.bits .u64))) 6148914691236517205) + (bits .and .u64 a1 6148914691236517205))) (2 ^ min (Int.toNat 2) (IntKind.bits .u64))) 3689348814741910323) + (bits .and .u64 (IntKind.wrap .u64 ((bits .and .u64 (Int.fdiv a1 (2 ^ min (Int.toNat 1) (IntKind.bits .u64))) 6148914691236517205) + (bits .and .u64 a1 6148914691236517205))) 3689348814741910323))) (2 ^ min (Int.toNat 4) (IntKind.bits .u64))) + (IntKind.wrap .u64 ((bits .and .u64 (Int.fdiv (IntKind.wrap .u64 ((bits .and .u64 (Int.fdiv a1 (2 ^ min (Int.toNat 1) (IntKind.bits .u64))) 6148914691236517205) + (bits .and .u64 a1 6148914691236517205))) (2 ^ min (Int.toNat 2) (IntKind.bits .u64))) 3689348814741910323) + (bits .and .u64 (IntKind.wrap .u64 ((bits .and .u64 (Int.fdiv a1 (2 ^ min (Int.toNat 1) (IntKind.bits .u64))) 6148914691236517205) + (bits .and .u64 a1 6148914691236517205))) 3689348814741910323))))) 1085102592571150095) + (Int.fdiv (bits .and .u64 (IntKind.wrap .u64 ((Int.fdiv (IntKind.wrap .u64 ((bits .and .u64 (Int.fdiv (IntKind.wrap .u64 ((bits .and .u64 (Int.fdiv a1 (2 ^ min (Int.toNat 1) (IntKind.bits .u64))) 6148914691236517205) + (bits .and .u64 a1 6148914691236517205))) (2 ^ min (Int.toNat 2) (IntKind.bits .u64))) 3689348814741910323) + (bits .and .u64 (IntKind.wrap .u64 ((bits .and .u64 (Int.fdiv a1 (2 ^ min (Int.toNat 1) (IntKind.bits .u64))) 6148914691236517205) + (bits .and .u64 a1 6148914691236517205))) 3689348814741910323))) (2 ^ min (Int.toNat 4) (IntKind.bits .u64))) + (IntKind.wrap .u64 ((bits .and .u64 (Int.fdiv (IntKind.wrap .u64 ((bits .and .u64 (Int.fdiv a1 (2 ^ min (Int.toNat 1) (IntKind.bits .u64))) 6148914691236517205) + (bits .and .u64 a1 6148914691236517205))) (2 ^ min (Int.toNat 2) (IntKind.bits .u64))) 3689348814741910323) + (bits .and .u64 (IntKind.wrap .u64 ((bits .and .u64 (Int.fdiv a1 (2 ^ min (Int.toNat 1) (IntKind.bits .u64))) 6148914691236517205) + (bits .and .u64 a1 6148914691236517205))) 3689348814741910323))))) 1085102592571150095) (2 ^ min (Int.toNat 8) (IntKind.bits .u64))))) + (Int.fdiv (IntKind.wrap .u64 ((bits .and .u64 (IntKind.wrap .u64 ((Int.fdiv (IntKind.wrap .u64 ((bits .and .u64 (Int.fdiv (IntKind.wrap .u64 ((bits .and .u64 (Int.fdiv a1 (2 ^ min (Int.toNat 1) (IntKind.bits .u64))) 6148914691236517205) + (bits .and .u64 a1 6148914691236517205))) (2 ^ min (Int.toNat 2) (IntKind.bits .u64))) 3689348814741910323) + (bits .and .u64 (IntKind.wrap .u64 ((bits .and .u64 (Int.fdiv a1 (2 ^ min (Int.toNat 1) (IntKind.bits .u64))) 6148914691236517205) + (bits .and .u64 a1 6148914691236517205))) 3689348814741910323))) (2 ^ min (Int.toNat 4) (IntKind.bits .u64))) + (IntKind.wrap .u64 ((bits .and .u64 (Int.fdiv (IntKind.wrap .u64 ((bits .and .u64 (Int.fdiv a1 (2 ^ min (Int.toNat 1) (IntKind.bits .u64))) 6148914691236517205) + (bits .and .u64 a1 6148914691236517205))) (2 ^ min (Int.toNat 2) (IntKind.bits .u64))) 3689348814741910323) + (bits .and .u64 (IntKind.wrap .u64 ((bits .and .u64 (Int.fdiv a1 (2 ^ min (Int.toNat 1) (IntKind.bits .u64))) 6148914691236517205) + (bits .and .u64 a1 6148914691236517205))) 3689348814741910323))))) 1085102592571150095) + (Int.fdiv (bits .and .u64 (IntKind.wrap .u64 ((Int.fdiv (IntKind.wrap .u64 ((bits .and .u64 (Int.fdiv (IntKind.wrap .u64 ((bits .and .u64 (Int.fdiv a1 (2 ^ min (Int.toNat 1) (IntKind.bits .u64))) 6148914691236517205) + (bits .and .u64 a1 6148914691236517205))) (2 ^ min (Int.toNat 2) (IntKind.bits .u64))) 3689348814741910323) + (bits .and .u64 (IntKind.wrap .u64 ((bits .and .u64 (Int.fdiv a1 (2 ^ min (Int.toNat 1) (IntKind.bits .u64))) 6148914691236517205) + (bits .and .u64 a1 6148914691236517205))) 3689348814741910323))) (2 ^ min (Int.toNat 4) (IntKind.bits .u64))) + (IntKind.wrap .u64 ((bits .and .u64 (Int.fdiv (IntKind.wrap .u64 ((bits .and .u64 (Int.fdiv a1 (2 ^ min (Int.toNat 1) (IntKind.bits .u64))) 6148914691236517205) + (bits .and .u64 a1 6148914691236517205))) (2 ^ min (Int.toNat 2) (IntKind.bits .u64))) 3689348814741910323) + (bits .and .u64 (IntKind.wrap .u64 ((bits .and .u64 (Int.fdiv a1 (2 ^ min (Int.toNat 1) (IntKind.bits .u64))) 6148914691236517205) + (bits .and .u64 a1 6148914691236517205))) 3689348814741910323))))) 1085102592571150095) (2 ^ min (Int.toNat 8) (IntKind.bits .u64))))) (2 ^ min (Int.toNat 16) (IntKind.bits .u64))))) (2 ^ min (Int.toNat 32) (IntKind.bits .u64)))))) 127))] [] [] [] hρ (EQ [])
/- math/bits.OnesCount -/
def math_bits_OnesCount (a1 : Int) : Option Int :=
  bO (math_bits_OnesCount64 a1) fun x1 => some x1
theorem math_bits_OnesCount_ok {a1 r : Int} (h : math_bits_OnesCount a1 = some r) :
    Spec Try.prog 84 [.int .u64 a1] [] (.int .i64 r) [] := by
 unfold math_bits_OnesCount at h; refine SO Try.func84 rfl Try.ntmps84 fun C hN hρ => ?_; simp only [st0, tmps0, Nat.zero_add, Nat.reduceAdd]; refine AN hN ?_; refine AW_seq ?_; refine AW_condK (a := .bool false) (by simp only [EV, seval]) (condK_false ?_); refine AW_skip (AK ?_); obtain ⟨x1, h1, h⟩ := bO_inv h; refine AP hN (math_bits_OnesCount64_ok h1) ?_; injection h with h; subst h; exact AX (b' := 64) [(2, .int .i64 x1)] [] [] [] hρ (EQ [])
/- impl.ones -/
def i_ones (a1 : Int) : Option Int :=
  bO (math_bits_OnesCount (IntKind.wrap .u64 a1)) fun x1 => some x1
theorem i_ones_ok {a1 r : Int} (h : i_ones a1 = some r) :
    Spec Try.prog 44 [.int .i64 a1] [] (.int .i64 r) [] := by
 unfold i_ones at h; refine SO Try.func44 rfl Try.ntmps44 fun C hN hρ => ?_; simp only [st0, tmps0, Nat.zero_add, Nat.reduceAdd]; refine AN hN ?_; obtain ⟨x1, h1, h⟩ := bO_inv h; refine AP hN (math_bits_OnesCount_ok h1) ?_; injection h with h; subst h; exact AX (b' := 64) [(2, .int .i64 x1)] [] [] [] hρ (EQ [])
/- spec.l25Ones -/
def s_l25Ones_j1 (v5 : Int) : Option Int :=
  some v5
def s_l25Ones_l1 (a1 : Int) : Nat → Int → Int → Option Int
  | 0, _, _ => none
  | n1 + 1, v3, v4 =>
  br (decide (v4 < 64)) (gd (decide (¬ (IntKind.wrap .u64 v4) < 0)) ((s_l25Ones_l1 a1 n1) (IntKind.wrap .i64 (v3 + (bits .and .i64 (Int.fdiv a1 (2 ^ min (Int.toNat (IntKind.wrap .u64 v4)) (IntKind.bits .i64))) 1))) (IntKind.wrap .i64 (v4 + 1)))) (s_l25Ones_j1 v3)
def s_l25Ones (a1 : Int) : Option Int :=
  s_l25Ones_l1 a1 FU 0 0
theorem s_l25Ones_ok {a1 r : Int} (h : s_l25Ones a1 = some r) :
    Spec Try.prog 40 [.int .i64 a1] [] (.int .i64 r) [] := by
 unfold s_l25Ones at h; refine SO Try.func40 rfl Try.ntmps40 fun C hN hρ => ?_; simp only [st0, tmps0, Nat.zero_add, Nat.reduceAdd]; refine AN hN ?_; refine AN hN ?_; refine AW_cutK (fun S => ∃ (v5 : Int), S = ⟨mkT [(3, .int .i64 v5)], mkR [], 64⟩ ∧ s_l25Ones_j1 v5 = some r) ?_ ?_
 ·refine AN hN ?_; refine AW_block ?_; refine AW_loopF (fun n S => ∃ (v3 v4 : Int), S = ⟨mkT [(0, .int .i64 a1), (3, .int .i64 v3), (4, .int .i64 v4)], mkR [], 64⟩ ∧ s_l25Ones_l1 a1 n v3 v4 = some r) FU ?_ ?_ ?_
  ·exact AC ⟨_, _, rfl, h⟩ [] [] hρ
  ·rintro S ⟨_, _, _, h⟩; rw [s_l25Ones_l1] at h; cases h
  ·rintro n1 S ⟨v3, v4, rfl, h⟩; rw [s_l25Ones_l1] at h; refine AW_seq ?_; refine AN hN ?_; refine AB h (fun hc3 h => ?_) fun hc3 h => ?_
   ·refine AW_skip (AK ?_); refine AW_seq ?_; refine AW_block ?_; refine AS hN fun K hK => ?_; obtain ⟨h3, h⟩ := gd_inv h; replace h3 := of_decide_eq_true h3; simp only [EV, seval, h3]; refine hK _ _ _ (show AW _ _ _ _ _ from ?_); refine AS hN fun K hK => ?_; simp only [EV, seval]; exact hK _ _ _ (AC ⟨_, _, rfl, h⟩ [] [] hρ)
   ·exact AW_exit (AC ⟨_, rfl, h⟩ [] [] hρ)
 ·rintro S ⟨v5, rfl, h⟩; unfold s_l25Ones_j1 at h; refine AN hN ?_; injection h with h; subst h; exact AX (b' := 64) [(2, .int .i64 v5)] [] [] [] hρ (EQ [])
/- impl.IsHermitianPauli -/
def i_IsHermitianPauli_j1 (v1 : Bool) : Option Bool :=
  some v1
def i_IsHermitianPauli (a1 a2 a3 a4 : Int) : Option Bool :=
  bO (i_IsValidPauli a1 a2 a3 a4) fun x1 => bO (br x1 (bO (i_ones (bits .and .i64 a2 a3)) fun x2 => some ((Int.tmod a4 2) == (Int.tmod x2 2))) (some false)) fun x3 => i_IsHermitianPauli_j1 x3
theorem i_IsHermitianPauli_ok {a1 a2 a3 a4 : Int} {r : Bool} (h : i_IsHermitianPauli a1 a2 a3 a4 = some r) :
    Spec Try.prog 117 [.agg [.int .i64 a1, .int .i64 a2, .int .i64 a3, .int .i64 a4]] [] (.bool r) [] := by
 unfold i_IsHermitianPauli at h; refine SO Try.func117 rfl Try.ntmps117 fun C hN hρ => ?_; simp only [st0, tmps0, Nat.zero_add, Nat.reduceAdd]; refine AN hN ?_; refine AJ (fun S => ∃ (v1 : Bool), S = ⟨mkT [(2, .bool v1)], mkR [], 64⟩ ∧ i_IsHermitianPauli_j1 v1 = some r) hN ?_ ?_
 ·intro K hK; obtain ⟨x1, h1, h⟩ := bO_inv h; simp only [EV, seval]; refine CP (i_IsValidPauli_ok h1) ?_; obtain ⟨x3, hv1, h⟩ := bO_inv h; rcases br_inv hv1 with ⟨hc1, hv1⟩ | ⟨hc1, hv1⟩
  ·obtain ⟨x4, h3, hv1⟩ := bO_inv hv1; simp only [EV, seval, hc1]; refine rC_p (i_ones_ok h3) (by simp only [AL, EV, seval, hc1]) (le_d rfl) (no_j rfl) ?_; cases hv1; simp only [EV, seval, hc1]; refine hK _ _ _ (show cutK _ _ _ from cutL ⟨_, rfl, h⟩ (Le_can [] [] hρ (by kernel_rfl) ?_ ?_))
   ·simp only [AL, EV, seval, hc1]
   ·simp only [AL, EV, seval, hc1]
  ·cases hv1; simp only [EV, seval, hc1]; refine hK _ _ _ (show cutK _ _ _ from cutL ⟨_, rfl, h⟩ (Le_can [] [] hρ (by kernel_rfl) ?_ ?_))
   ·simp only [AL, EV, seval, hc1]
   ·simp only [AL, EV, seval, hc1]
 ·rintro S ⟨v1, rfl, h⟩; unfold i_IsHermitianPauli_j1 at h; injection h with h; subst h; exact AX (b' := 64) [(2, .bool v1)] [] [] [] hρ (EQ [])
/- spec.IsHermitianPauli -/
def s_IsHermitianPauli_j1 (v1 : Bool) : Option Bool :=
  some v1
def s_IsHermitianPauli (a1 a2 a3 a4 : Int) : Option Bool :=
  bO (s_IsValidPauli a1 a2 a3 a4) fun x1 => bO (br x1 (bO (s_l25Ones (bits .and .i64 a2 a3)) fun x2 => some ((Int.tmod (IntKind.wrap .i64 (a4 + x2)) 2) == 0)) (some false)) fun x3 => s_IsHermitianPauli_j1 x3
theorem s_IsHermitianPauli_ok {a1 a2 a3 a4 : Int} {r : Bool} (h : s_IsHermitianPauli a1 a2 a3 a4 = some r) :
    Spec Try.prog 92 [.agg [.int .i64 a1, .int .i64 a2, .int .i64 a3, .int .i64 a4]] [] (.bool r) [] := by
 unfold s_IsHermitianPauli at h; refine SO Try.func92 rfl Try.ntmps92 fun C hN hρ => ?_; simp only [st0, tmps0, Nat.zero_add, Nat.reduceAdd]; refine AN hN ?_; refine AJ (fun S => ∃ (v1 : Bool), S = ⟨mkT [(2, .bool v1)], mkR [], 64⟩ ∧ s_IsHermitianPauli_j1 v1 = some r) hN ?_ ?_
 ·intro K hK; obtain ⟨x1, h1, h⟩ := bO_inv h; simp only [EV, seval]; refine CP (s_IsValidPauli_ok h1) ?_; obtain ⟨x3, hv1, h⟩ := bO_inv h; rcases br_inv hv1 with ⟨hc1, hv1⟩ | ⟨hc1, hv1⟩
  ·obtain ⟨x4, h3, hv1⟩ := bO_inv hv1; simp only [EV, seval, hc1]; refine rC_p (s_l25Ones_ok h3) (by simp only [AL, EV, seval, hc1]) (le_d rfl) (no_j rfl) ?_; cases hv1; simp only [EV, seval, hc1]; refine hK _ _ _ (show cutK _ _ _ from cutL ⟨_, rfl, h⟩ (Le_can [] [] hρ (by kernel_rfl) ?_ ?_))
   ·simp only [AL, EV, seval, hc1]
   ·simp only [AL, EV, seval, hc1]
  ·cases hv1; simp only [EV, seval, hc1]; refine hK _ _ _ (show cutK _ _ _ from cutL ⟨_, rfl, h⟩ (Le_can [] [] hρ (by kernel_rfl) ?_ ?_))
   ·simp only [AL, EV, seval, hc1]
   ·simp only [AL, EV, seval, hc1]
 ·rintro S ⟨v1, rfl, h⟩; unfold s_IsHermitianPauli_j1 at h; injection h with h; subst h; exact AX (b' := 64) [(2, .bool v1)] [] [] [] hρ (EQ [])
/- impl.PaulisCommute -/
def i_PaulisCommute (a1 a2 a3 a4 a5 a6 a7 a8 : Int) : Option Bool :=
  bO (i_ones (bits .and .i64 a2 a7)) fun x1 => bO (i_ones (bits .and .i64 a3 a6)) fun x2 => some ((Int.tmod (IntKind.wrap .i64 (x1 + x2)) 2) == 0)
theorem i_PaulisCommute_ok {a1 a2 a3 a4 a5 a6 a7 a8 : Int} {r : Bool} (h : i_PaulisCommute a1 a2 a3 a4 a5 a6 a7 a8 = some r) :
    Spec Try.prog 118 [.agg [.int .i64 a1, .int .i64 a2, .int .i64 a3, .int .i64 a4], .agg [.int .i64 a5, .int .i64 a6, .int .i64 a7, .int .i64 a8]] [] (.bool r) [] := by
 unfold i_PaulisCommute at h; refine SO Try.func118 rfl Try.ntmps118 fun C hN hρ => ?_; simp only [st0, tmps0, Nat.zero_add, Nat.reduceAdd]; refine AN hN ?_; refine AR hN fun K hK => ?_; obtain ⟨x1, h1, h⟩ := bO_inv h; simp only [EV, seval]; refine CP (i_ones_ok h1) ?_; obtain ⟨x2, h2, h⟩ := bO_inv h; simp only [EV, seval]; refine CP (i_ones_ok h2) ?_; simp only [EV, seval]; refine hK _ _ _ ?_; clear hK K; injection h with h; subst h; exact AX (b' := 64) [(4, .bool ((Int.tmod (IntKind.wrap .i64 (x1 + x2)) 2) == 0))] [] [] [] hρ (EQ [])
/- spec.PaulisCommute -/
def s_PaulisCommute (a1 a2 a3 a4 a5 a6 a7 a8 : Int) : Option Bool :=
  bO (s_l25Ones (bits .and .i64 a2 a7)) fun x1 => bO (s_l25Ones (bits .and .i64 a3 a6)) fun x2 => some ((Int.tmod (IntKind.wrap .i64 (x1 + x2)) 2) == 0)
theorem s_PaulisCommute_ok {a1 a2 a3 a4 a5 a6 a7 a8 : Int} {r : Bool} (h : s_PaulisCommute a1 a2 a3 a4 a5 a6 a7 a8 = some r) :
    Spec Try.prog 93 [.agg [.int .i64 a1, .int .i64 a2, .int .i64 a3, .int .i64 a4], .agg [.int .i64 a5, .int .i64 a6, .int .i64 a7, .int .i64 a8]] [] (.bool r) [] := by
 unfold s_PaulisCommute at h; refine SO Try.func93 rfl Try.ntmps93 fun C hN hρ => ?_; simp only [st0, tmps0, Nat.zero_add, Nat.reduceAdd]; refine AN hN ?_; refine AR hN fun K hK => ?_; obtain ⟨x1, h1, h⟩ := bO_inv h; simp only [EV, seval]; refine CP (s_l25Ones_ok h1) ?_; obtain ⟨x2, h2, h⟩ := bO_inv h; simp only [EV, seval]; refine CP (s_l25Ones_ok h2) ?_; simp only [EV, seval]; refine hK _ _ _ ?_; clear hK K; injection h with h; subst h; exact AX (b' := 64) [(4, .bool ((Int.tmod (IntKind.wrap .i64 (x1 + x2)) 2) == 0))] [] [] [] hρ (EQ [])
/- impl.MulPauli -/
def i_MulPauli_j1 (a1 a2 a3 a4 a6 a7 a8 : Int) (v1 : Bool) : Option (Int × Int × Int × Int × Bool) :=
  br v1 (some (0, 0, 0, 0, false)) (bO (i_ones (bits .and .i64 a3 a6)) fun x8 => some (a1, bits .xor .i64 a2 a6, bits .xor .i64 a3 a7, Int.tmod (IntKind.wrap .i64 ((IntKind.wrap .i64 (a4 + a8)) + (IntKind.wrap .i64 (2 * x8)))) 4, true))
def i_MulPauli (a1 a2 a3 a4 a5 a6 a7 a8 : Int) : Option (Int × Int × Int × Int × Bool) :=
  bO (i_IsValidPauli a1 a2 a3 a4) fun x1 => bO (br (!x1) (some true) (bO (i_IsValidPauli a5 a6 a7 a8) fun x2 => some (!x2))) fun x3 => bO (br x3 (some true) (some (a1 != a5))) fun x4 => i_MulPauli_j1 a1 a2 a3 a4 a6 a7 a8 x4
theorem i_MulPauli_ok {a1 a2 a3 a4 a5 a6 a7 a8 : Int} {r : Int × Int × Int × Int × Bool} (h : i_MulPauli a1 a2 a3 a4 a5 a6 a7 a8 = some r) :
    Spec Try.prog 121 [.agg [.int .i64 a1, .int .i64 a2, .int .i64 a3, .int .i64 a4], .agg [.int .i64 a5, .int .i64 a6, .int .i64 a7, .int .i64 a8]] [] (.tup [.agg [.int .i64 r.1, .int .i64 r.2.1, .int .i64 r.2.2.1, .int .i64 r.2.2.2.1], .bool r.2.2.2.2]) [] := by
 unfold i_MulPauli at h; refine SO Try.func121 rfl Try.ntmps121 fun C hN hρ => ?_; simp only [st0, tmps0, Nat.zero_add, Nat.reduceAdd]; refine AN hN ?_; refine AW_seq ?_; refine AJ (fun S => ∃ (v1 : Bool), S = ⟨mkT [(2, .ptr 32 0), (3, .ptr 33 0), (4, .ptr 34 0), (20, .bool v1)], mkR [(32, .box 26 [.int .i64 a1, .int .i64 a2, .int .i64 a3, .int .i64 a4]), (33, .box 26 [.int .i64 a5, .int .i64 a6, .int .i64 a7, .int .i64 a8]), (34, .box 26 [.int .i64 0, .int .i64 0, .int .i64 0, .int .i64 0])], 64⟩ ∧ i_MulPauli_j1 a1 a2 a3 a4 a6 a7 a8 v1 = some r) hN ?_ ?_
 ·intro K hK; obtain ⟨x1, h1, h⟩ := bO_inv h; simp only [EV, seval]; refine CP (i_IsValidPauli_ok h1) ?_; obtain ⟨x3, hv1, h⟩ := bO_inv h; rcases br_inv hv1 with ⟨hc1, hv1⟩ | ⟨hc1, hv1⟩
  ·cases hv1; obtain ⟨x5, hv3, h⟩ := bO_inv h; replace hv3 := br_t hv3; cases hv3; (try dsimp only at h); simp only [EV, seval, hc1]; refine hK _ _ _ (show cutK _ _ _ from cutL ⟨_, rfl, h⟩ (Le_can [(32, some 64), (33, some 80), (34, some 96)] [] hρ (by kernel_rfl) ?_ ?_))
   ·simp only [AL, EV, seval, hc1]
   ·simp only [AL, EV, seval, hc1]
  ·obtain ⟨x6, h3, hv1⟩ := bO_inv hv1; simp only [EV, seval, hc1]; refine rC_p (i_IsValidPauli_ok h3) (by simp only [AL, EV, seval, hc1]) (le_d rfl) (no_j rfl) ?_; cases hv1; obtain ⟨x7, hv4, h⟩ := bO_inv h; rcases br_inv hv4 with ⟨hc3, hv4⟩ | ⟨hc3, hv4⟩
   ·cases hv4; simp only [EV, seval, hc1, hc3]; refine hK _ _ _ (show cutK _ _ _ from cutL ⟨_, rfl, h⟩ (Le_can [(32, some 64), (33, some 80), (34, some 96)] [] hρ (by kernel_rfl) ?_ ?_))
    ·simp only [AL, EV, seval, hc1, hc3]
    ·simp only [AL, EV, seval, hc1, hc3]
   ·cases hv4; simp only [EV, seval, hc1, hc3]; refine hK _ _ _ (show cutK _ _ _ from cutL ⟨_, rfl, h⟩ (Le_can [(32, some 64), (33, some 80), (34, some 96)] [] hρ (by kernel_rfl) ?_ ?_))
    ·simp only [AL, EV, seval, hc1, hc3]
    ·simp only [AL, EV, seval, hc1, hc3]
 ·rintro S ⟨v1, rfl, h⟩; unfold i_MulPauli_j1 at h; refine AB h (fun hc4 h => ?_) fun hc4 h => ?_
  ·refine AN hN ?_; injection h with h; subst h; exact AX (b' := 64) [(4, .ptr 32 0), (5, .bool false)] [(32, .box 26 [.int .i64 0, .int .i64 0, .int .i64 0, .int .i64 0])] [(32, some 34)] [] hρ (EQ [])
  ·refine AW_skip (AK ?_); obtain ⟨x8, h4, h⟩ := bO_inv h; refine AP hN (i_ones_ok h4) ?_; injection h with h; subst h; exact AX (b' := 64) [(4, .ptr 32 0), (5, .bool true)] [(32, .box 26 [.int .i64 a1, .int .i64 (bits .xor .i64 a2 a6), .int .i64 (bits .xor .i64 a3 a7), .int .i64 (Int.tmod (IntKind.wrap .i64 ((IntKind.wrap .i64 (a4 + a8)) + (IntKind.wrap .i64 (2 * x8)))) 4)])] [(32, some 34)] [] hρ (EQ [])
/- spec.MulPauli -/
def s_MulPauli_j1 (a1 a2 a3 a4 a6 a7 a8 : Int) (v1 : Bool) : Option (Int × Int × Int × Int × Bool) :=
  br v1 (some (0, 0, 0, 0, false)) (bO (s_l25Ones (bits .and .i64 a3 a6)) fun x8 => some (a1, bits .xor .i64 a2 a6, bits .xor .i64 a3 a7, Int.tmod (IntKind.wrap .i64 ((IntKind.wrap .i64 (a4 + a8)) + (IntKind.wrap .i64 (2 * x8)))) 4, true))
def s_MulPauli (a1 a2 a3 a4 a5 a6 a7 a8 : Int) : Option (Int × Int × Int × Int × Bool) :=
  bO (s_IsValidPauli a1 a2 a3 a4) fun x1 => bO (br (!x1) (some true) (bO (s_IsValidPauli a5 a6 a7 a8) fun x2 => some (!x2))) fun x3 => bO (br x3 (some true) (some (a1 != a5))) fun x4 => s_MulPauli_j1 a1 a2 a3 a4 a6 a7 a8 x4
theorem s_MulPauli_ok {a1 a2 a3 a4 a5 a6 a7 a8 : Int} {r : Int × Int × Int × Int × Bool} (h : s_MulPauli a1 a2 a3 a4 a5 a6 a7 a8 = some r) :
    Spec Try.prog 142 [.agg [.int .i64 a1, .int .i64 a2, .int .i64 a3, .int .i64 a4], .agg [.int .i64 a5, .int .i64 a6, .int .i64 a7, .int .i64 a8]] [] (.tup [.agg [.int .i64 r.1, .int .i64 r.2.1, .int .i64 r.2.2.1, .int .i64 r.2.2.2.1], .bool r.2.2.2.2]) [] := by
 unfold s_MulPauli at h; refine SO Try.func142 rfl Try.ntmps142 fun C hN hρ => ?_; simp only [st0, tmps0, Nat.zero_add, Nat.reduceAdd]; refine AN hN ?_; refine AW_seq ?_; refine AJ (fun S => ∃ (v1 : Bool), S = ⟨mkT [(2, .ptr 32 0), (3, .ptr 33 0), (4, .ptr 34 0), (20, .bool v1)], mkR [(32, .box 26 [.int .i64 a1, .int .i64 a2, .int .i64 a3, .int .i64 a4]), (33, .box 26 [.int .i64 a5, .int .i64 a6, .int .i64 a7, .int .i64 a8]), (34, .box 26 [.int .i64 0, .int .i64 0, .int .i64 0, .int .i64 0])], 64⟩ ∧ s_MulPauli_j1 a1 a2 a3 a4 a6 a7 a8 v1 = some r) hN ?_ ?_
 ·intro K hK; obtain ⟨x1, h1, h⟩ := bO_inv h; simp only [EV, seval]; refine CP (s_IsValidPauli_ok h1) ?_; obtain ⟨x3, hv1, h⟩ := bO_inv h; rcases br_inv hv1 with ⟨hc1, hv1⟩ | ⟨hc1, hv1⟩
  ·cases hv1; obtain ⟨x5, hv3, h⟩ := bO_inv h; replace hv3 := br_t hv3; cases hv3; (try dsimp only at h); simp only [EV, seval, hc1]; refine hK _ _ _ (show cutK _ _ _ from cutL ⟨_, rfl, h⟩ (Le_can [(32, some 64), (33, some 80), (34, some 96)] [] hρ (by kernel_rfl) ?_ ?_))
   ·simp only [AL, EV, seval, hc1]
   ·simp only [AL, EV, seval, hc1]
  ·obtain ⟨x6, h3, hv1⟩ := bO_inv hv1; simp only [EV, seval, hc1]; refine rC_p (s_IsValidPauli_ok h3) (by simp only [AL, EV, seval, hc1]) (le_d rfl) (no_j rfl) ?_; cases hv1; obtain ⟨x7, hv4, h⟩ := bO_inv h; rcases br_inv hv4 with ⟨hc3, hv4⟩ | ⟨hc3, hv4⟩
   ·cases hv4; simp only [EV, seval, hc1, hc3]; refine hK _ _ _ (show cutK _ _ _ from cutL ⟨_, rfl, h⟩ (Le_can [(32, some 64), (33, some 80), (34, some 96)] [] hρ (by kernel_rfl) ?_ ?_))
    ·simp only [AL, EV, seval, hc1, hc3]
    ·simp only [AL, EV, seval, hc1, hc3]
   ·cases hv4; simp only [EV, seval, hc1, hc3]; refine hK _ _ _ (show cutK _ _ _ from cutL ⟨_, rfl, h⟩ (Le_can [(32, some 64), (33, some 80), (34, some 96)] [] hρ (by kernel_rfl) ?_ ?_))
    ·simp only [AL, EV, seval, hc1, hc3]
    ·simp only [AL, EV, seval, hc1, hc3]
 ·rintro S ⟨v1, rfl, h⟩; unfold s_MulPauli_j1 at h; refine AB h (fun hc4 h => ?_) fun hc4 h => ?_
  ·refine AN hN ?_; injection h with h; subst h; exact AX (b' := 64) [(4, .ptr 32 0), (5, .bool false)] [(32, .box 26 [.int .i64 0, .int .i64 0, .int .i64 0, .int .i64 0])] [(32, some 34)] [] hρ (EQ [])
  ·refine AW_skip (AK ?_); obtain ⟨x8, h4, h⟩ := bO_inv h; refine AP hN (s_l25Ones_ok h4) ?_; injection h with h; subst h; exact AX (b' := 64) [(4, .ptr 32 0), (5, .bool true)] [(32, .box 26 [.int .i64 a1, .int .i64 (bits .xor .i64 a2 a6), .int .i64 (bits .xor .i64 a3 a7), .int .i64 (Int.tmod (IntKind.wrap .i64 ((IntKind.wrap .i64 (a4 + a8)) + (IntKind.wrap .i64 (2 * x8)))) 4)])] [(32, some 34)] [] hρ (EQ [])
/- spec.l25Single -/
def s_l25Single (a1 a2 : Int) (a3 : Bool) : Option (Int × Int × Int × Int) :=
  br a3 (gd (decide (¬ (IntKind.wrap .u64 a2) < 0)) (some (a1, 0, IntKind.wrap .i64 (1 * 2 ^ min (Int.toNat (IntKind.wrap .u64 a2)) (IntKind.bits .i64)), 0))) (gd (decide (¬ (IntKind.wrap .u64 a2) < 0)) (some (a1, IntKind.wrap .i64 (1 * 2 ^ min (Int.toNat (IntKind.wrap .u64 a2)) (IntKind.bits .i64)), 0, 0)))
theorem s_l25Single_ok {a1 a2 : Int} {a3 : Bool} {r : Int × Int × Int × Int} (h : s_l25Single a1 a2 a3 = some r) :
    Spec Try.prog 115 [.int .i64 a1, .int .i64 a2, .bool a3] [] (.agg [.int .i64 r.1, .int .i64 r.2.1, .int .i64 r.2.2.1, .int .i64 r.2.2.2]) [] := by
 unfold s_l25Single at h; refine SO Try.func115 rfl Try.ntmps115 fun C hN hρ => ?_; simp only [st0, tmps0, Nat.zero_add, Nat.reduceAdd]; refine AN hN ?_; refine AW_seq ?_; refine AN hN ?_; refine AB h (fun hc1 h => ?_) fun hc1 h => ?_
 ·refine AR hN fun K hK => ?_; obtain ⟨h1, h⟩ := gd_inv h; replace h1 := of_decide_eq_true h1; simp only [EV, seval, h1]; refine hK _ _ _ ?_; clear hK K; injection h with h; subst h; refine AW_le (Le_can (lt := [(6, .ptr 32 0)]) (lr := [(32, .box 26 [.int .i64 a1, .int .i64 0, .int .i64 (IntKind.wrap .i64 (1 * 2 ^ min (Int.toNat (IntKind.wrap .u64 a2)) (IntKind.bits .i64))), .int .i64 0])]) (b' := 64) [(32, some 64)] [] hρ (by kernel_rfl) ?_ ?_) (AW_ret (end_q [] (.inr rfl) (by kernel_rfl) (by kernel_rfl) ?_))
  ·simp only [AL, EV, seval, h1]
  ·simp only [AL, EV, seval, h1]
  ·simp only [EV, Try.results115, seval]
 ·refine AW_skip (AK ?_); refine AR hN fun K hK => ?_; obtain ⟨h2, h⟩ := gd_inv h; replace h2 := of_decide_eq_true h2; simp only [EV, seval, h2]; refine hK _ _ _ ?_; clear hK K; injection h with h; subst h; refine AW_le (Le_can (lt := [(6, .ptr 32 0)]) (lr := [(32, .box 26 [.int .i64 a1, .int .i64 (IntKind.wrap .i64 (1 * 2 ^ min (Int.toNat (IntKind.wrap .u64 a2)) (IntKind.bits .i64))), .int .i64 0, .int .i64 0])]) (b' := 64) [(32, some 64)] [] hρ (by kernel_rfl) ?_ ?_) (AW_ret (end_q [] (.inr rfl) (by kernel_rfl) (by kernel_rfl) ?_))
  ·simp only [AL, EV, seval, h2]
  ·simp only [AL, EV, seval, h2]
  ·simp only [EV, Try.results115, seval]
end Go.Proofs.Ytoleoojcodlciaa
/- Models of functions, and that the functions do what the models say; printed by a program. -/
namespace Go.Proofs.Ytoleoojcodlciaa
open Go.RowKit
set_option maxRecDepth 100000
set_option linter.unusedVariables false
set_option linter.unusedSimpArgs false
set_option linter.defProp false
set_option maxHeartbeats 4000000
/- impl.IsValidTableau -/
def i_IsValidTableau_j7 (v17 v18 : Int) (kl3 : Int → Int → Option Bool) : Option Bool :=
  kl3 v17 (IntKind.wrap .i64 (v18 + 1))
def i_IsValidTableau_l7 (a1 v17 v18 : Int) (kl3 : Int → Int → Option Bool) (q9 : Int × Int × Int × Int) (l6 : LQ) : Nat → Int → Int → Option Bool
  | 0, _, _ => none
  | n4 + 1, v23, v24 =>
  br (decide (v24 < v23)) (bO (geti l6 v24) fun q12 => bO (i_PaulisCommute q12.1 q12.2.1 q12.2.2.1 q12.2.2.2 q9.1 q9.2.1 q9.2.2.1 q9.2.2.2) fun x18 => br (x18 == (v18 == (IntKind.wrap .i64 (v24 + a1)))) (some false) ((i_IsValidTableau_l7 a1 v17 v18 kl3 q9 l6 n4) v23 (IntKind.wrap .i64 (v24 + 1)))) (i_IsValidTableau_j7 v17 v18 kl3)
def i_IsValidTableau_j8 (a1 : Int) (a2 : LQ) (v17 v18 : Int) (kl3 : Int → Int → Option Bool) (q9 : Int × Int × Int × Int) (v19 : Bool) : Option Bool :=
  br v19 (some false) (bO (slc a2 0 v18) fun l6 => i_IsValidTableau_l7 a1 v17 v18 kl3 q9 l6 FU ((l6.length : Int)) 0)
def i_IsValidTableau_j2 : Option Bool :=
  some true
def i_IsValidTableau_l1 (a1 : Int) (a2 : LQ) : Nat → Int → Int → Option Bool
  | 0, _, _ => none
  | n3 + 1, v17, v18 =>
  br (decide (v18 < v17)) (bO (geti a2 v18) fun q9 => bO (br (q9.1 != a1) (some true) (bO (i_IsHermitianPauli q9.1 q9.2.1 q9.2.2.1 q9.2.2.2) fun x13 => some (!x13))) fun x14 => i_IsValidTableau_j8 a1 a2 v17 v18 (i_IsValidTableau_l1 a1 a2 n3) q9 x14) (i_IsValidTableau_j2)
def i_IsValidTableau_j1 (a1 : Int) (a2 : LQ) (v1 : Bool) : Option Bool :=
  br v1 (some false) (i_IsValidTableau_l1 a1 a2 FU ((a2.length : Int)) 0)
def i_IsValidTableau (a1 : Int) (a2 : LQ) : Option Bool :=
  bO (i_in a1 1 4) fun x1 => bO (br (!x1) (some true) (some (((a2.length : Int)) != (IntKind.wrap .i64 (2 * a1))))) fun x2 => i_IsValidTableau_j1 a1 a2 x2
theorem i_IsValidTableau_ok {a1 : Int} {a2 : LQ} {r : Bool} (h : i_IsValidTableau a1 a2 = some r) :
    Spec Try.prog 89 [.agg [.int .i64 a1, .sl (encL EIIII a2) a2.length]] [] (.bool r) [] := by
 unfold i_IsValidTableau at h; refine SO Try.func89 rfl Try.ntmps89 fun C hN hρ => ?_; simp only [st0, tmps0, Nat.zero_add, Nat.reduceAdd]; refine AN hN ?_; refine AW_seq ?_; refine AJ (fun S => ∃ (v1 : Bool), S = ⟨mkT [(1, .ptr 32 0), (19, .bool v1)], mkR [(32, .box 45 [.int .i64 a1, .sl (encL EIIII a2) a2.length])], 64⟩ ∧ i_IsValidTableau_j1 a1 a2 v1 = some r) hN ?_ ?_
 ·intro K hK; obtain ⟨x1, h1, h⟩ := bO_inv h; simp only [EV, seval]; refine CP (i_in_ok h1) ?_; obtain ⟨x2, hv1, h⟩ := bO_inv h; rcases br_inv hv1 with ⟨hc1, hv1⟩ | ⟨hc1, hv1⟩
  ·cases hv1; simp only [EV, seval, hc1]; refine hK _ _ _ (show cutK _ _ _ from cutL ⟨_, rfl, h⟩ (Le_can [(32, some 64)] [] hρ (by kernel_rfl) ?_ ?_))
   ·simp only [AL, EV, seval, hc1]
   ·simp only [AL, EV, seval, hc1]
  ·cases hv1; simp only [EV, seval, hc1]; refine hK _ _ _ (show cutK _ _ _ from cutL ⟨_, rfl, h⟩ (Le_can [(32, some 64)] [] hρ (by kernel_rfl) ?_ ?_))
   ·simp only [AL, EV, seval, hc1]
   ·simp only [AL, EV, seval, hc1]
 ·rintro S ⟨v1, rfl, h⟩; unfold i_IsValidTableau_j1 at h; refine AB h (fun hc2 h => ?_) fun hc2 h => ?_
  ·refine AN hN ?_; injection h with h; subst h; exact AX (b' := 64) [(2, .bool false)] [] [] [] hρ (EQ [])
  ·refine AW_skip (AK ?_); refine AW_cutK (fun S => S = ⟨mkT [], mkR [], 64⟩ ∧ i_IsValidTableau_j2 = some r) ?_ ?_
   ·refine AN hN ?_; refine AW_block ?_; refine AW_loopF (fun n S => ∃ (v17 v18 : Int), S = ⟨mkT [(1, .ptr 32 0), (21, .sl (encL EIIII a2) a2.length), (22, .int .i64 v17), (23, .int .i64 v18)], mkR [(32, .box 45 [.int .i64 a1, .sl (encL EIIII a2) a2.length])], 64⟩ ∧ i_IsValidTableau_l1 a1 a2 n v17 v18 = some r) FU ?_ ?_ ?_
    ·exact AC ⟨_, _, rfl, h⟩ [(32, some 32)] [] hρ
    ·rintro S ⟨_, _, _, h⟩; rw [i_IsValidTableau_l1] at h; cases h
    ·rintro n3 S ⟨v17, v18, rfl, h⟩; rw [i_IsValidTableau_l1] at h; refine AN hN ?_; refine AW_seq ?_; refine AB h (fun hc21 h => ?_) fun hc21 h => ?_
     ·refine AW_skip (AK ?_); refine AW_cutK (fun S => S = ⟨mkT [(1, .ptr 32 0), (21, .sl (encL EIIII a2) a2.length), (22, .int .i64 v17), (23, .int .i64 v18)], mkR [(32, .box 45 [.int .i64 a1, .sl (encL EIIII a2) a2.length])], 64⟩ ∧ i_IsValidTableau_j7 v17 v18 (i_IsValidTableau_l1 a1 a2 n3) = some r) ?_ ?_
      ·refine AW_block ?_; refine AR hN fun K hK => ?_; obtain ⟨q9, h30, h⟩ := bO_inv h; obtain ⟨⟨h31a, h31b⟩, h31c⟩ := geti_E EIIIIl h30; (try simp only [EV, seval] at h31c); simp only [EV, seval, h31a, h31b, h31c]; refine hK _ _ _ ?_; clear hK K; refine AW_seq ?_; refine AJ (fun S => ∃ (v19 : Bool), S = ⟨mkT [(1, .ptr 32 0), (3, .int .i64 v18), (4, .ptr 33 0), (21, .sl (encL EIIII a2) a2.length), (22, .int .i64 v17), (23, .int .i64 v18), (37, .bool v19)], mkR [(32, .box 45 [.int .i64 a1, .sl (encL EIIII a2) a2.length]), (33, .box 26 [.int .i64 q9.1, .int .i64 q9.2.1, .int .i64 q9.2.2.1, .int .i64 q9.2.2.2])], 64⟩ ∧ i_IsValidTableau_j8 a1 a2 v17 v18 (i_IsValidTableau_l1 a1 a2 n3) q9 v19 = some r) hN ?_ ?_
       ·intro K hK; obtain ⟨x14, hv4, h⟩ := bO_inv h; rcases br_inv hv4 with ⟨hc22, hv4⟩ | ⟨hc22, hv4⟩
        ·cases hv4; simp only [EV, seval, hc22]; refine hK _ _ _ (show cutK _ _ _ from cutL ⟨_, rfl, h⟩ (Le_can [(32, some 32), (33, some 1136)] [] hρ (by kernel_rfl) ?_ ?_))
         ·simp only [AL, EV, seval, hc22]
         ·simp only [AL, EV, seval, hc22]
        ·obtain ⟨x15, h33, hv4⟩ := bO_inv hv4; simp only [EV, seval, hc22]; refine rC_p (i_IsHermitianPauli_ok h33) (by simp only [AL, EV, seval, hc22]) (le_d rfl) (no_j rfl) ?_; cases hv4; simp only [EV, seval, hc22]; refine hK _ _ _ (show cutK _ _ _ from cutL ⟨_, rfl, h⟩ (Le_can [(32, some 32), (33, some 1136)] [] hρ (by kernel_rfl) ?_ ?_))
         ·simp only [AL, EV, seval, hc22]
         ·simp only [AL, EV, seval, hc22]
       ·rintro S ⟨v19, rfl, h⟩; unfold i_IsValidTableau_j8 at h; refine AW_condK (a := .bool v19) (by simp only [EV, seval, h31a, h31b, h31c]) (brK h (fun hc23 h => ?_) (fun hc23 h => ?_))
        ·refine AN hN ?_; injection h with h; subst h; exact AX (b' := 64) [(2, .bool false)] [] [] [] hρ (EQ [])
        ·refine AW_skip (AK ?_); refine AR hN fun K hK => ?_; obtain ⟨l6, h34, h⟩ := bO_inv h; obtain ⟨⟨h35a, h35b, h35c⟩, h35d, h35e⟩ := slc_E EIIIIl h34; (try simp only [EV, seval] at h35d); (try simp only [EV, seval] at h35e); (try simp only [EV, seval] at h35a); (try simp only [EV, seval] at h35b); (try simp only [EV, seval] at h35c); simp only [EV, seval, h35a, h35b, h35c, h35d, h35e]; refine hK _ _ _ ?_; clear hK K; refine AW_block ?_; refine AW_loopF (fun n S => ∃ (v23 v24 : Int), S = ⟨mkT [(1, .ptr 32 0), (3, .int .i64 v18), (4, .ptr 33 0), (21, .sl (encL EIIII a2) a2.length), (22, .int .i64 v17), (23, .int .i64 v18), (41, .sl (encL EIIII l6) l6.length), (42, .int .i64 v23), (43, .int .i64 v24)], mkR [(32, .box 45 [.int .i64 a1, .sl (encL EIIII a2) a2.length]), (33, .box 26 [.int .i64 q9.1, .int .i64 q9.2.1, .int .i64 q9.2.2.1, .int .i64 q9.2.2.2])], 64⟩ ∧ i_IsValidTableau_l7 a1 v17 v18 (i_IsValidTableau_l1 a1 a2 n3) q9 l6 n v23 v24 = some r) FU ?_ ?_ ?_
         ·refine cutL ⟨_, _, rfl, h⟩ (Le_can [(32, some 32), (33, some 33)] [] hρ (by kernel_rfl) ?_ ?_)
          ·simp only [AL, EV, seval, h35a, h35b, h35c, h35d, h35e]
          ·simp only [AL, EV, seval, h35a, h35b, h35c, h35d, h35e]
         ·rintro S ⟨_, _, _, h⟩; rw [i_IsValidTableau_l7] at h; cases h
         ·rintro n4 S ⟨v23, v24, rfl, h⟩; rw [i_IsValidTableau_l7] at h; refine AN hN ?_; refine AW_seq ?_; refine AB h (fun hc28 h => ?_) fun hc28 h => ?_
          ·refine AW_skip (AK ?_); refine AW_seq ?_; refine AW_block ?_; refine AR hN fun K hK => ?_; obtain ⟨q12, h42, h⟩ := bO_inv h; obtain ⟨⟨h43a, h43b⟩, h43c⟩ := geti_E EIIIIl h42; (try simp only [EV, seval] at h43c); simp only [EV, seval, h43a, h43b, h43c]; refine hK _ _ _ ?_; clear hK K; obtain ⟨x18, h44, h⟩ := bO_inv h; refine AP hN (i_PaulisCommute_ok h44) ?_; refine AB h (fun hc29 h => ?_) fun hc29 h => ?_
           ·refine AN hN ?_; injection h with h; subst h; exact AX (b' := 64) [(2, .bool false)] [] [] [] hρ (EQ [])
           ·refine AW_skip (AK ?_); refine AS hN fun K hK => ?_; simp only [EV, seval]; exact hK _ _ _ (AC ⟨_, _, rfl, h⟩ [(32, some 32), (33, some 33)] [] hρ)
          ·exact AW_exit (AC ⟨rfl, h⟩ [(32, some 32)] [] hρ)
      ·rintro S ⟨rfl, h⟩; unfold i_IsValidTableau_j7 at h; refine AS hN fun K hK => ?_; simp only [EV, seval]; exact hK _ _ _ (AC ⟨_, _, rfl, h⟩ [(32, some 32)] [] hρ)
     ·exact AW_exit (AC ⟨rfl, h⟩ [] [] hρ)
   ·rintro S ⟨rfl, h⟩; unfold i_IsValidTableau_j2 at h; refine AN hN ?_; injection h with h; subst h; exact AX (b' := 64) [(2, .bool true)] [] [] [] hρ (EQ [])
/- spec.IsValidTableau -/
def s_IsValidTableau_j7 (v9 : Int) (kl3 : Int → Option Bool) : Option Bool :=
  kl3 (IntKind.wrap .i64 (v9 + 1))
def s_IsValidTableau_l4 (a1 : Int) (a2 : LQ) (v9 : Int) (kl3 : Int → Option Bool) : Nat → Int → Option Bool
  | 0, _ => none
  | n4 + 1, v12 =>
  br (decide (v12 < v9)) (bO (geti a2 v12) fun q19 => bO (geti a2 v9) fun q20 => bO (s_PaulisCommute q19.1 q19.2.1 q19.2.2.1 q19.2.2.2 q20.1 q20.2.1 q20.2.2.1 q20.2.2.2) fun x18 => br (x18 == (v9 == (IntKind.wrap .i64 (v12 + a1)))) (some false) ((s_IsValidTableau_l4 a1 a2 v9 kl3 n4) (IntKind.wrap .i64 (v12 + 1)))) (s_IsValidTableau_j7 v9 kl3)
def s_IsValidTableau_j8 (a1 : Int) (a2 : LQ) (v9 : Int) (kl3 : Int → Option Bool) (v10 : Bool) : Option Bool :=
  br v10 (some false) (s_IsValidTableau_l4 a1 a2 v9 kl3 FU 0)
def s_IsValidTableau_j2 : Option Bool :=
  some true
def s_IsValidTableau_l1 (a1 : Int) (a2 : LQ) : Nat → Int → Option Bool
  | 0, _ => none
  | n3 + 1, v9 =>
  br (decide (v9 < ((a2.length : Int)))) (bO (geti a2 v9) fun q14 => bO (br (q14.1 != a1) (some true) (bO (s_IsHermitianPauli q14.1 q14.2.1 q14.2.2.1 q14.2.2.2) fun x13 => some (!x13))) fun x14 => s_IsValidTableau_j8 a1 a2 v9 (s_IsValidTableau_l1 a1 a2 n3) x14) (s_IsValidTableau_j2)
def s_IsValidTableau_j1 (a1 : Int) (a2 : LQ) (v1 : Bool) : Option Bool :=
  br v1 (some false) (s_IsValidTableau_l1 a1 a2 FU 0)
def s_IsValidTableau (a1 : Int) (a2 : LQ) : Option Bool :=
  bO (s_l1In a1 1 4) fun x1 => bO (br (!x1) (some true) (some (((a2.length : Int)) != (IntKind.wrap .i64 (2 * a1))))) fun x2 => s_IsValidTableau_j1 a1 a2 x2
theorem s_IsValidTableau_ok {a1 : Int} {a2 : LQ} {r : Bool} (h : s_IsValidTableau a1 a2 = some r) :
    Spec Try.prog 56 [.agg [.int .i64 a1, .sl (encL EIIII a2) a2.length]] [] (.bool r) [] := by
 unfold s_IsValidTableau at h; refine SO Try.func56 rfl Try.ntmps56 fun C hN hρ => ?_; simp only [st0, tmps0, Nat.zero_add, Nat.reduceAdd]; refine AN hN ?_; refine AW_seq ?_; refine AJ (fun S => ∃ (v1 : Bool), S = ⟨mkT [(1, .ptr 32 0), (17, .bool v1)], mkR [(32, .box 45 [.int .i64 a1, .sl (encL EIIII a2) a2.length])], 64⟩ ∧ s_IsValidTableau_j1 a1 a2 v1 = some r) hN ?_ ?_
 ·intro K hK; obtain ⟨x1, h1, h⟩ := bO_inv h; simp only [EV, seval]; refine CP (s_l1In_ok h1) ?_; obtain ⟨x2, hv1, h⟩ := bO_inv h; rcases br_inv hv1 with ⟨hc1, hv1⟩ | ⟨hc1, hv1⟩
  ·cases hv1; simp only [EV, seval, hc1]; refine hK _ _ _ (show cutK _ _ _ from cutL ⟨_, rfl, h⟩ (Le_can [(32, some 64)] [] hρ (by kernel_rfl) ?_ ?_))
   ·simp only [AL, EV, seval, hc1]
   ·simp only [AL, EV, seval, hc1]
  ·cases hv1; simp only [EV, seval, hc1]; refine hK _ _ _ (show cutK _ _ _ from cutL ⟨_, rfl, h⟩ (Le_can [(32, some 64)] [] hρ (by kernel_rfl) ?_ ?_))
   ·simp only [AL, EV, seval, hc1]
   ·simp only [AL, EV, seval, hc1]
 ·rintro S ⟨v1, rfl, h⟩; unfold s_IsValidTableau_j1 at h; refine AB h (fun hc2 h => ?_) fun hc2 h => ?_
  ·refine AN hN ?_; injection h with h; subst h; exact AX (b' := 64) [(2, .bool false)] [] [] [] hρ (EQ [])
  ·refine AW_skip (AK ?_); refine AW_cutK (fun S => S = ⟨mkT [], mkR [], 64⟩ ∧ s_IsValidTableau_j2 = some r) ?_ ?_
   ·refine AN hN ?_; refine AW_block ?_; refine AW_loopF (fun n S => ∃ (v9 : Int), S = ⟨mkT [(1, .ptr 32 0), (3, .int .i64 v9)], mkR [(32, .box 45 [.int .i64 a1, .sl (encL EIIII a2) a2.length])], 64⟩ ∧ s_IsValidTableau_l1 a1 a2 n v9 = some r) FU ?_ ?_ ?_
    ·exact AC ⟨_, rfl, h⟩ [(32, some 32)] [] hρ
    ·rintro S ⟨_, _, h⟩; rw [s_IsValidTableau_l1] at h; cases h
    ·rintro n3 S ⟨v9, rfl, h⟩; rw [s_IsValidTableau_l1] at h; refine AW_seq ?_; refine AN hN ?_; refine AB h (fun hc21 h => ?_) fun hc21 h => ?_
     ·refine AW_skip (AK ?_); refine AW_cutK (fun S => S = ⟨mkT [(1, .ptr 32 0), (3, .int .i64 v9)], mkR [(32, .box 45 [.int .i64 a1, .sl (encL EIIII a2) a2.length])], 64⟩ ∧ s_IsValidTableau_j7 v9 (s_IsValidTableau_l1 a1 a2 n3) = some r) ?_ ?_
      ·refine AW_block ?_; refine AW_seq ?_; refine AJ (fun S => ∃ (v10 : Bool), S = ⟨mkT [(1, .ptr 32 0), (3, .int .i64 v9), (42, .bool v10)], mkR [(32, .box 45 [.int .i64 a1, .sl (encL EIIII a2) a2.length])], 64⟩ ∧ s_IsValidTableau_j8 a1 a2 v9 (s_IsValidTableau_l1 a1 a2 n3) v10 = some r) hN ?_ ?_
       ·intro K hK; obtain ⟨q14, h36, h⟩ := bO_inv h; obtain ⟨⟨h37a, h37b⟩, h37c⟩ := geti_E EIIIIl h36; (try simp only [EV, seval] at h37c); obtain ⟨x14, hv4, h⟩ := bO_inv h; rcases br_inv hv4 with ⟨hc22, hv4⟩ | ⟨hc22, hv4⟩
        ·cases hv4; simp only [EV, seval, h37a, h37b, h37c, hc22]; refine hK _ _ _ (show cutK _ _ _ from cutL ⟨_, rfl, h⟩ (Le_can [(32, some 32)] [] hρ (by kernel_rfl) ?_ ?_))
         ·simp only [AL, EV, seval, h37a, h37b, h37c, hc22]
         ·simp only [AL, EV, seval, h37a, h37b, h37c, hc22]
        ·obtain ⟨x15, h39, hv4⟩ := bO_inv hv4; simp only [EV, seval, h37a, h37b, h37c, hc22]; refine rC_p (s_IsHermitianPauli_ok h39) (by simp only [AL, EV, seval, h37a, h37b, h37c, hc22]) (le_d rfl) (no_j rfl) ?_; cases hv4; simp only [EV, seval, h37a, h37b, h37c, hc22]; refine hK _ _ _ (show cutK _ _ _ from cutL ⟨_, rfl, h⟩ (Le_can [(32, some 32)] [] hρ (by kernel_rfl) ?_ ?_))
         ·simp only [AL, EV, seval, h37a, h37b, h37c, hc22]
         ·simp only [AL, EV, seval, h37a, h37b, h37c, hc22]
       ·rintro S ⟨v10, rfl, h⟩; unfold s_IsValidTableau_j8 at h; refine AB h (fun hc23 h => ?_) fun hc23 h => ?_
        ·refine AN hN ?_; injection h with h; subst h; exact AX (b' := 64) [(2, .bool false)] [] [] [] hρ (EQ [])
        ·refine AW_skip (AK ?_); refine AN hN ?_; refine AW_block ?_; refine AW_loopF (fun n S => ∃ (v12 : Int), S = ⟨mkT [(1, .ptr 32 0), (3, .int .i64 v9), (4, .int .i64 v12)], mkR [(32, .box 45 [.int .i64 a1, .sl (encL EIIII a2) a2.length])], 64⟩ ∧ s_IsValidTableau_l4 a1 a2 v9 (s_IsValidTableau_l1 a1 a2 n3) n v12 = some r) FU ?_ ?_ ?_
         ·exact AC ⟨_, rfl, h⟩ [(32, some 32)] [] hρ
         ·rintro S ⟨_, _, h⟩; rw [s_IsValidTableau_l4] at h; cases h
         ·rintro n4 S ⟨v12, rfl, h⟩; rw [s_IsValidTableau_l4] at h; refine AW_seq ?_; refine AN hN ?_; refine AB h (fun hc28 h => ?_) fun hc28 h => ?_
          ·refine AW_skip (AK ?_); refine AW_seq ?_; refine AW_block ?_; refine AR hN fun K hK => ?_; obtain ⟨q19, h50, h⟩ := bO_inv h; obtain ⟨⟨h51a, h51b⟩, h51c⟩ := geti_E EIIIIl h50; (try simp only [EV, seval] at h51c); obtain ⟨q20, h52, h⟩ := bO_inv h; obtain ⟨⟨h53a, h53b⟩, h53c⟩ := geti_E EIIIIl h52; (try simp only [EV, seval] at h53c); obtain ⟨x18, h54, h⟩ := bO_inv h; simp only [EV, seval, h51a, h51b, h51c, h53a, h53b, h53c]; refine rC_p (s_PaulisCommute_ok h54) (by simp only [AL, EV, seval, h51a, h51b, h51c, h53a, h53b, h53c]) (le_d rfl) (no_j rfl) ?_; simp only [EV, seval, h51a, h51b, h51c, h53a, h53b, h53c]; refine hK _ _ _ ?_; clear hK K; refine AW_condK (a := .bool (x18 == (v9 == (IntKind.wrap .i64 (v12 + a1))))) (by simp only [EV, seval, h51a, h51b, h51c, h53a, h53b, h53c]) (brK h (fun hc29 h => ?_) (fun hc29 h => ?_))
           ·refine AN hN ?_; injection h with h; subst h; exact AX (b' := 64) [(2, .bool false)] [] [] [] hρ (EQ [])
           ·refine AW_skip (AK ?_); refine AS hN fun K hK => ?_; simp only [EV, seval]; exact hK _ _ _ (AC ⟨_, rfl, h⟩ [(32, some 32)] [] hρ)
          ·exact AW_exit (AC ⟨rfl, h⟩ [(32, some 32)] [] hρ)
      ·rintro S ⟨rfl, h⟩; unfold s_IsValidTableau_j7 at h; refine AS hN fun K hK => ?_; simp only [EV, seval]; exact hK _ _ _ (AC ⟨_, rfl, h⟩ [(32, some 32)] [] hρ)
     ·exact AW_exit (AC ⟨rfl, h⟩ [] [] hρ)
   ·rintro S ⟨rfl, h⟩; unfold s_IsValidTableau_j2 at h; refine AN hN ?_; injection h with h; subst h; exact AX (b' := 64) [(2, .bool true)] [] [] [] hρ (EQ [])
end Go.Proofs.Ytoleoojcodlciaa
