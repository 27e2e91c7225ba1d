/- Models of functions, and that the functions do what the models say; printed by a program. -/
import Derived.Test.YtfjopjalhllplaaK1
import Derived.Test.YtfjopjalhllplaaKMa
import Derived.Test.YtfjopjalhllplaaKMf
namespace Go.Proofs.Ytfjopjalhllplaa
open Go.RowKit
set_option maxRecDepth 100000
set_option linter.unusedVariables false
set_option linter.unusedSimpArgs false
set_option linter.defProp false
set_option maxHeartbeats 4000000
/- spec.l1New -/
def s_l1New_j1 (a1 : List Int) (v9 : Int) : Option (List Int × Int × Int) :=
  some (a1, 0, v9)
def s_l1New_j4 (a1 : List Int) (v6 v7 : Int) (kl1 : Int → Int → Option (List Int × Int × Int)) (v8 : Bool) : Option (List Int × Int × Int) :=
  br v8 (bO (geti a1 v7) fun q3 => kl1 (bits .and .i64 (IntKind.wrap .i64 ((IntKind.wrap .i64 ((IntKind.wrap .i64 (v6 * 131)) + (IntKind.wrap .i64 q3))) + 7)) 1073741823) (IntKind.wrap .i64 (v7 + 1))) (s_l1New_j1 a1 v6)
def s_l1New_l1 (a1 : List Int) : Nat → Int → Int → Option (List Int × Int × Int)
  | 0, _, _ => none
  | n1 + 1, v6, v7 =>
  bO (br (decide (v7 < ((a1.length : Int)))) (some (decide (v7 < 4000))) (some false)) fun x3 => s_l1New_j4 a1 v6 v7 (s_l1New_l1 a1 n1) x3
def s_l1New (a1 : List Int) : Option (List Int × Int × Int) :=
  s_l1New_l1 a1 FU (IntKind.wrap .i64 (28729 + ((a1.length : Int)))) 0
theorem s_l1New_ok {a1 : List Int} {r : List Int × Int × Int} (h : s_l1New a1 = some r) :
    Spec Try.prog 10 [.sl (encL EB a1) a1.length] [] (.ptr 0 0) [.box 52 [.sl (encL EB r.1) r.1.length, .int .i64 r.2.1, .int .i64 r.2.2]] := by
 unfold s_l1New at h; refine SO Try.func10 rfl Try.ntmps10 fun C hN hρ => ?_; simp only [st0, tmps0, Nat.zero_add, Nat.reduceAdd]; refine AN hN ?_; refine AN hN ?_; refine AW_cutK (fun S => ∃ (v9 : Int), S = ⟨mkT [(0, .sl (encL EB a1) a1.length), (3, .int .i64 v9)], mkR [], 64⟩ ∧ s_l1New_j1 a1 v9 = some r) ?_ ?_
 ·refine AN hN ?_; refine AW_block ?_; refine AW_loopF (fun n S => ∃ (v6 v7 : Int), S = ⟨mkT [(0, .sl (encL EB a1) a1.length), (3, .int .i64 v6), (4, .int .i64 v7)], mkR [], 64⟩ ∧ s_l1New_l1 a1 n v6 v7 = some r) FU ?_ ?_ ?_
  ·exact AC ⟨_, _, rfl, h⟩ [] [] hρ
  ·rintro S ⟨_, _, _, h⟩; rw [s_l1New_l1] at h; cases h
  ·rintro n1 S ⟨v6, v7, rfl, h⟩; rw [s_l1New_l1] at h; refine AW_seq ?_; refine AJ (fun S => ∃ (v8 : Bool), S = ⟨mkT [(0, .sl (encL EB a1) a1.length), (3, .int .i64 v6), (4, .int .i64 v7), (15, .bool v8)], mkR [], 64⟩ ∧ s_l1New_j4 a1 v6 v7 (s_l1New_l1 a1 n1) v8 = some r) hN ?_ ?_
   ·intro K hK; obtain ⟨x3, hv3, h⟩ := bO_inv h; rcases br_inv hv3 with ⟨hc5, hv3⟩ | ⟨hc5, hv3⟩
    ·cases hv3; simp only [EV, seval, hc5]; refine hK _ _ _ (show cutK _ _ _ from cutL ⟨_, rfl, h⟩ (Le_can [] [] hρ (by kernel_rfl) ?_ ?_))
     ·simp only [AL, EV, seval, hc5]
     ·simp only [AL, EV, seval, hc5]
    ·cases hv3; simp only [EV, seval, hc5]; refine hK _ _ _ (show cutK _ _ _ from cutL ⟨_, rfl, h⟩ (Le_can [] [] hρ (by kernel_rfl) ?_ ?_))
     ·simp only [AL, EV, seval, hc5]
     ·simp only [AL, EV, seval, hc5]
   ·rintro S ⟨v8, rfl, h⟩; unfold s_l1New_j4 at h; refine AB h (fun hc6 h => ?_) fun hc6 h => ?_
    ·refine AW_skip (AK ?_); refine AW_seq ?_; refine AW_block ?_; refine AS hN fun K hK => ?_; obtain ⟨q3, h5, h⟩ := bO_inv h; obtain ⟨⟨h6a, h6b⟩, h6c⟩ := geti_E EBl h5; (try simp only [EV, seval] at h6c); simp only [EV, seval, h6a, h6b, h6c]; refine hK _ _ _ (show AW _ _ _ _ _ from ?_); refine AS hN fun K hK => ?_; simp only [EV, seval]; exact hK _ _ _ (AC ⟨_, _, rfl, h⟩ [] [] hρ)
    ·exact AW_exit (AC ⟨_, rfl, h⟩ [] [] hρ)
 ·rintro S ⟨v9, rfl, h⟩; unfold s_l1New_j1 at h; refine AN hN ?_; injection h with h; subst h; exact AX (b' := 64) [(2, .ptr 32 0)] [(32, .box 52 [.sl (encL EB a1) a1.length, .int .i64 0, .int .i64 v9])] [(32, some 112)] [] hρ (EQ [32])
/- spec.l1Byte -/
def s_l1Byte_j1 (a1 : List Int) (v1 v2 v3 : Int) : Option (Int × List Int × Int × Int) :=
  some (v3, a1, v1, v2)
def s_l1Byte (a1 : List Int) (a2 a3 : Int) : Option (Int × List Int × Int × Int) :=
  br (decide (a2 < ((a1.length : Int)))) (bO (geti a1 a2) fun q1 => s_l1Byte_j1 a1 (IntKind.wrap .i64 (a2 + 1)) (IntKind.wrap .i64 ((IntKind.wrap .i64 (a3 * 6364136223846793005)) + 1442695040888963407)) (bits .and .i64 (IntKind.wrap .i64 ((bits .and .i64 (bits .xor .i64 (Int.fdiv (IntKind.wrap .i64 ((IntKind.wrap .i64 (a3 * 6364136223846793005)) + 1442695040888963407)) (2 ^ min (Int.toNat 33) (IntKind.bits .i64))) (Int.fdiv (IntKind.wrap .i64 ((IntKind.wrap .i64 (a3 * 6364136223846793005)) + 1442695040888963407)) (2 ^ min (Int.toNat 45) (IntKind.bits .i64)))) 255) + (IntKind.wrap .i64 q1))) 255)) (s_l1Byte_j1 a1 a2 (IntKind.wrap .i64 ((IntKind.wrap .i64 (a3 * 6364136223846793005)) + 1442695040888963407)) (bits .and .i64 (bits .xor .i64 (Int.fdiv (IntKind.wrap .i64 ((IntKind.wrap .i64 (a3 * 6364136223846793005)) + 1442695040888963407)) (2 ^ min (Int.toNat 33) (IntKind.bits .i64))) (Int.fdiv (IntKind.wrap .i64 ((IntKind.wrap .i64 (a3 * 6364136223846793005)) + 1442695040888963407)) (2 ^ min (Int.toNat 45) (IntKind.bits .i64)))) 255))
theorem s_l1Byte_ok {a1 : List Int} {a2 a3 : Int} {r : Int × List Int × Int × Int} (h : s_l1Byte a1 a2 a3 = some r) :
    Spec Try.prog 22 [.ptr 0 0] [.box 52 [.sl (encL EB a1) a1.length, .int .i64 a2, .int .i64 a3]] (.int .i64 r.1) [.box 52 [.sl (encL EB r.2.1) r.2.1.length, .int .i64 r.2.2.1, .int .i64 r.2.2.2]] := by
 unfold s_l1Byte at h; refine SO Try.func22 rfl Try.ntmps22 fun C hN hρ => ?_; simp only [st0, tmps0, Nat.zero_add, Nat.reduceAdd]; refine AN hN ?_; refine AN hN ?_; refine AN hN ?_; refine AW_cutK (fun S => ∃ (v1 v2 v3 : Int), S = ⟨mkT [(3, .int .i64 v3)], mkR [(0, .box 52 [.sl (encL EB a1) a1.length, .int .i64 v1, .int .i64 v2])], 64⟩ ∧ s_l1Byte_j1 a1 v1 v2 v3 = some r) ?_ ?_
 ·refine AN hN ?_; refine AB h (fun hc1 h => ?_) fun hc1 h => ?_
  ·refine AR hN fun K hK => ?_; obtain ⟨q1, h1, h⟩ := bO_inv h; obtain ⟨⟨h2a, h2b⟩, h2c⟩ := geti_E EBl h1; (try simp only [EV, seval] at h2c); simp only [EV, seval, h2a, h2b, h2c]; refine hK _ _ _ ?_; clear hK K; refine AS hN fun K hK => ?_; simp only [EV, seval]; exact hK _ _ _ (AC ⟨_, _, _, rfl, h⟩ [(0, some 0)] [] hρ)
  ·refine AW_skip (show cutK _ _ _ from cutL ⟨_, _, _, rfl, h⟩ (Le_can [(0, some 0)] [] hρ (by kernel_rfl) ?_ ?_))
   ·simp only [AL, EV, seval]
   ·simp only [AL, EV, seval]
 ·rintro S ⟨v1, v2, v3, rfl, h⟩; unfold s_l1Byte_j1 at h; refine AN hN ?_; injection h with h; subst h; exact AX (b' := 64) [(2, .int .i64 v3)] [(0, .box 52 [.sl (encL EB a1) a1.length, .int .i64 v1, .int .i64 v2])] [(0, some 0)] [] hρ (EQ [0])
/- spec.l1Below -/
def s_l1Below (a1 : List Int) (a2 a3 a4 : Int) : Option (Int × List Int × Int × Int) :=
  br (decide (a4 ≤ 0)) (some (0, a1, a2, a3)) (br (decide (a4 ≤ 256)) (bO (s_l1Byte a1 a2 a3) fun x1 => gd (decide (a4 ≠ 0)) (some (Int.tmod x1.1 a4, x1.2.1, x1.2.2.1, x1.2.2.2))) (bO (s_l1Byte a1 a2 a3) fun x2 => bO (s_l1Byte x2.2.1 x2.2.2.1 x2.2.2.2) fun x3 => bO (s_l1Byte x3.2.1 x3.2.2.1 x3.2.2.2) fun x4 => bO (s_l1Byte x4.2.1 x4.2.2.1 x4.2.2.2) fun x5 => gd (decide (a4 ≠ 0)) (some (Int.tmod (IntKind.wrap .i64 ((IntKind.wrap .i64 ((IntKind.wrap .i64 ((IntKind.wrap .i64 (x2.1 * 16777216)) + (IntKind.wrap .i64 (x3.1 * 65536)))) + (IntKind.wrap .i64 (x4.1 * 256)))) + x5.1)) a4, x5.2.1, x5.2.2.1, x5.2.2.2))))
theorem s_l1Below_ok {a1 : List Int} {a2 a3 a4 : Int} {r : Int × List Int × Int × Int} (h : s_l1Below a1 a2 a3 a4 = some r) :
    Spec Try.prog 13 [.ptr 0 0, .int .i64 a4] [.box 52 [.sl (encL EB a1) a1.length, .int .i64 a2, .int .i64 a3]] (.int .i64 r.1) [.box 52 [.sl (encL EB r.2.1) r.2.1.length, .int .i64 r.2.2.1, .int .i64 r.2.2.2]] := by
 unfold s_l1Below at h; refine SO Try.func13 rfl Try.ntmps13 fun C hN hρ => ?_; simp only [st0, tmps0, Nat.zero_add, Nat.reduceAdd]; refine AN hN ?_; refine AW_seq ?_; refine AN hN ?_; refine AB h (fun hc1 h => ?_) fun hc1 h => ?_
 ·refine AN hN ?_; injection h with h; subst h; exact AX (b' := 64) [(4, .int .i64 0)] [(0, .box 52 [.sl (encL EB a1) a1.length, .int .i64 a2, .int .i64 a3])] [(0, some 0)] [] hρ (EQ [0])
 ·refine AW_skip (AK ?_); refine AW_seq ?_; refine AN hN ?_; refine AB h (fun hc2 h => ?_) fun hc2 h => ?_
  ·refine AR hN fun K hK => ?_; obtain ⟨x1, h1, h⟩ := bO_inv h; simp only [EV, seval]; refine rR_p [0] (s_l1Byte_ok h1) (by simp only [AL, EV, seval]) (by simp only [AL, EV, seval]) (by kernel_rfl) (by simp only [EV, solidO, List.mem_cons, List.not_mem_nil, or_false, forall_eq_or_imp, forall_eq, seval]) (le_d rfl) (le_d rfl) (no_j rfl) ?_; obtain ⟨h2, h⟩ := gd_inv h; replace h2 := of_decide_eq_true h2; simp only [EV, seval, h2]; refine hK _ _ _ ?_; clear hK K; injection h with h; subst h; refine AW_le (Le_can (lt := [(4, .int .i64 (Int.tmod x1.1 a4))]) (lr := [(0, .box 52 [.sl (encL EB x1.2.1) x1.2.1.length, .int .i64 x1.2.2.1, .int .i64 x1.2.2.2])]) (b' := 64) [(0, some 0)] [] hρ (by kernel_rfl) ?_ ?_) (AW_ret (end_q [0] (.inr rfl) (by kernel_rfl) (by kernel_rfl) ?_))
   ·simp only [AL, EV, seval, h2]
   ·simp only [AL, EV, seval, h2]
   ·simp only [EV, Try.results13, seval]
  ·refine AW_skip (AK ?_); refine AR hN fun K hK => ?_; obtain ⟨x2, h3, h⟩ := bO_inv h; simp only [EV, seval]; refine rR_p [0] (s_l1Byte_ok h3) (by simp only [AL, EV, seval]) (by simp only [AL, EV, seval]) (by kernel_rfl) (by simp only [EV, solidO, List.mem_cons, List.not_mem_nil, or_false, forall_eq_or_imp, forall_eq, seval]) (le_d rfl) (le_d rfl) (no_j rfl) ?_; simp only [EV, seval]; refine hK _ _ _ ?_; clear hK K; refine AR hN fun K hK => ?_; obtain ⟨x3, h4, h⟩ := bO_inv h; simp only [EV, seval]; refine rR_p [0] (s_l1Byte_ok h4) (by simp only [AL, EV, seval]) (by simp only [AL, EV, seval]) (by kernel_rfl) (by simp only [EV, solidO, List.mem_cons, List.not_mem_nil, or_false, forall_eq_or_imp, forall_eq, seval]) (le_d rfl) (le_d rfl) (no_j rfl) ?_; simp only [EV, seval]; refine hK _ _ _ ?_; clear hK K; refine AR hN fun K hK => ?_; obtain ⟨x4, h5, h⟩ := bO_inv h; simp only [EV, seval]; refine rR_p [0] (s_l1Byte_ok h5) (by simp only [AL, EV, seval]) (by simp only [AL, EV, seval]) (by kernel_rfl) (by simp only [EV, solidO, List.mem_cons, List.not_mem_nil, or_false, forall_eq_or_imp, forall_eq, seval]) (le_d rfl) (le_d rfl) (no_j rfl) ?_; simp only [EV, seval]; refine hK _ _ _ ?_; clear hK K; refine AR hN fun K hK => ?_; obtain ⟨x5, h6, h⟩ := bO_inv h; simp only [EV, seval]; refine rR_p [0] (s_l1Byte_ok h6) (by simp only [AL, EV, seval]) (by simp only [AL, EV, seval]) (by kernel_rfl) (by simp only [EV, solidO, List.mem_cons, List.not_mem_nil, or_false, forall_eq_or_imp, forall_eq, seval]) (le_d rfl) (le_d rfl) (no_j rfl) ?_; simp only [EV, seval]; refine hK _ _ _ ?_; clear hK K; refine AR hN fun K hK => ?_; obtain ⟨h7, h⟩ := gd_inv h; replace h7 := of_decide_eq_true h7; simp only [EV, seval, h7]; refine hK _ _ _ ?_; clear hK K; injection h with h; subst h; refine AW_le (Le_can (lt := [(4, .int .i64 (Int.tmod (IntKind.wrap .i64 ((IntKind.wrap .i64 ((IntKind.wrap .i64 ((IntKind.wrap .i64 (x2.1 * 16777216)) + (IntKind.wrap .i64 (x3.1 * 65536)))) + (IntKind.wrap .i64 (x4.1 * 256)))) + x5.1)) a4))]) (lr := [(0, .box 52 [.sl (encL EB x5.2.1) x5.2.1.length, .int .i64 x5.2.2.1, .int .i64 x5.2.2.2])]) (b' := 64) [(0, some 0)] [] hρ (by kernel_rfl) ?_ ?_) (AW_ret (end_q [0] (.inr rfl) (by kernel_rfl) (by kernel_rfl) ?_))
   ·simp only [AL, EV, seval, h7]
   ·simp only [AL, EV, seval, h7]
   ·simp only [EV, Try.results13, seval]
/- spec.l1Once -/
def s_l1Once (a1 : List Int) (a2 a3 a4 : Int) : Option (Bool × List Int × Int × Int) :=
  bO (s_l1Below a1 a2 a3 a4) fun x1 => some (x1.1 == 0, x1.2.1, x1.2.2.1, x1.2.2.2)
theorem s_l1Once_ok {a1 : List Int} {a2 a3 a4 : Int} {r : Bool × List Int × Int × Int} (h : s_l1Once a1 a2 a3 a4 = some r) :
    Spec Try.prog 12 [.ptr 0 0, .int .i64 a4] [.box 52 [.sl (encL EB a1) a1.length, .int .i64 a2, .int .i64 a3]] (.bool r.1) [.box 52 [.sl (encL EB r.2.1) r.2.1.length, .int .i64 r.2.2.1, .int .i64 r.2.2.2]] := by
 unfold s_l1Once at h; refine SO Try.func12 rfl Try.ntmps12 fun C hN hρ => ?_; simp only [st0, tmps0, Nat.zero_add, Nat.reduceAdd]; refine AN hN ?_; refine AR hN fun K hK => ?_; obtain ⟨x1, h1, h⟩ := bO_inv h; simp only [EV, seval]; refine rR_p [0] (s_l1Below_ok h1) (by simp only [AL, EV, seval]) (by simp only [AL, EV, seval]) (by kernel_rfl) (by simp only [EV, solidO, List.mem_cons, List.not_mem_nil, or_false, forall_eq_or_imp, forall_eq, seval]) (le_d rfl) (le_d rfl) (no_j rfl) ?_; simp only [EV, seval]; refine hK _ _ _ ?_; clear hK K; injection h with h; subst h; exact AX (b' := 64) [(4, .bool (x1.1 == 0))] [(0, .box 52 [.sl (encL EB x1.2.1) x1.2.1.length, .int .i64 x1.2.2.1, .int .i64 x1.2.2.2])] [(0, some 0)] [] hρ (EQ [0])
/- spec.l1PickInt -/
def s_l1PickInt (a1 : List Int) (a2 a3 : Int) (a4 : List Int) : Option (Int × List Int × Int × Int) :=
  bO (s_l1Below a1 a2 a3 ((a4.length : Int))) fun x1 => bO (geti a4 x1.1) fun q1 => some (q1, x1.2.1, x1.2.2.1, x1.2.2.2)
theorem s_l1PickInt_ok {a1 : List Int} {a2 a3 : Int} {a4 : List Int} {r : Int × List Int × Int × Int} (h : s_l1PickInt a1 a2 a3 a4 = some r) :
    Spec Try.prog 41 [.ptr 0 0, .sl (encL EI a4) a4.length] [.box 52 [.sl (encL EB a1) a1.length, .int .i64 a2, .int .i64 a3]] (.int .i64 r.1) [.box 52 [.sl (encL EB r.2.1) r.2.1.length, .int .i64 r.2.2.1, .int .i64 r.2.2.2]] := by
 unfold s_l1PickInt at h; refine SO Try.func41 rfl Try.ntmps41 fun C hN hρ => ?_; simp only [st0, tmps0, Nat.zero_add, Nat.reduceAdd]; refine AN hN ?_; refine AR hN fun K hK => ?_; obtain ⟨x1, h1, h⟩ := bO_inv h; simp only [EV, seval]; refine rR_p [0] (s_l1Below_ok h1) (by simp only [AL, EV, seval]) (by simp only [AL, EV, seval]) (by kernel_rfl) (by simp only [EV, solidO, List.mem_cons, List.not_mem_nil, or_false, forall_eq_or_imp, forall_eq, seval]) (le_d rfl) (le_d rfl) (no_j rfl) ?_; obtain ⟨q1, h2, h⟩ := bO_inv h; obtain ⟨⟨h3a, h3b⟩, h3c⟩ := geti_E EIl h2; (try simp only [EV, seval] at h3c); simp only [EV, seval, h3a, h3b, h3c]; refine hK _ _ _ ?_; clear hK K; injection h with h; subst h; refine AW_le (Le_can (lt := [(4, .int .i64 q1)]) (lr := [(0, .box 52 [.sl (encL EB x1.2.1) x1.2.1.length, .int .i64 x1.2.2.1, .int .i64 x1.2.2.2])]) (b' := 64) [(0, some 0)] [] hρ (by kernel_rfl) ?_ ?_) (AW_ret (end_q [0] (.inr rfl) (by kernel_rfl) (by kernel_rfl) ?_))
 ·simp only [AL, EV, seval, h3a, h3b, h3c]
 ·simp only [AL, EV, seval, h3a, h3b, h3c]
 ·simp only [EV, Try.results41, seval]
/- spec.IdentityPermutation -/
def s_IdentityPermutation_j1 (v9 : List Int) : Option (List Int) :=
  some v9
def s_IdentityPermutation_j4 (v6 : Int) (v7 : List Int) (kl1 : Int → (List Int) → Option (List Int)) (v8 : Bool) : Option (List Int) :=
  br v8 (gd (decide (v7.length + ([v6]).length ≤ 16777216)) (kl1 (IntKind.wrap .i64 (v6 + 1)) (v7 ++ ([v6])))) (s_IdentityPermutation_j1 v7)
def s_IdentityPermutation_l1 (a1 : Int) : Nat → Int → (List Int) → Option (List Int)
  | 0, _, _ => none
  | n1 + 1, v6, v7 =>
  bO (s_l1In a1 1 4) fun x5 => bO (br x5 (some (decide (v6 < a1))) (some false)) fun x6 => s_IdentityPermutation_j4 v6 v7 (s_IdentityPermutation_l1 a1 n1) x6
def s_IdentityPermutation (a1 : Int) : Option (List Int) :=
  s_IdentityPermutation_l1 a1 FU 0 ([] : List Int)
theorem s_IdentityPermutation_ok {a1 : Int} {r : List Int} (h : s_IdentityPermutation a1 = some r) :
    Spec Try.prog 62 [.int .i64 a1] [] (.own 0 r.length) [.row 3 1 (encL EI r)] := by
 unfold s_IdentityPermutation at h; refine SO Try.func62 rfl Try.ntmps62 fun C hN hρ => ?_; simp only [st0, tmps0, Nat.zero_add, Nat.reduceAdd]; refine AN hN ?_; refine AN hN ?_; refine AW_cutK (fun S => ∃ (v9 : List Int), S = ⟨mkT [(3, .own 32 v9.length)], mkR [(32, .row 3 1 (encL EI v9))], 64⟩ ∧ s_IdentityPermutation_j1 v9 = some r) ?_ ?_
 ·refine AN hN ?_; refine AW_block ?_; refine AW_loopF (fun n S => ∃ (v6 : Int) (v7 : List Int), S = ⟨mkT [(0, .int .i64 a1), (3, .own 32 v7.length), (4, .int .i64 v6)], mkR [(32, .row 3 1 (encL EI v7))], 64⟩ ∧ s_IdentityPermutation_l1 a1 n v6 v7 = some r) FU ?_ ?_ ?_
  ·exact AC ⟨_, _, rfl, h⟩ [(32, some 1088)] [] hρ
  ·rintro S ⟨_, _, _, h⟩; rw [s_IdentityPermutation_l1] at h; cases h
  ·rintro n1 S ⟨v6, v7, rfl, h⟩; rw [s_IdentityPermutation_l1] at h; refine AW_seq ?_; refine AJ (fun S => ∃ (v8 : Bool), S = ⟨mkT [(0, .int .i64 a1), (3, .own 32 v7.length), (4, .int .i64 v6), (12, .bool v8)], mkR [(32, .row 3 1 (encL EI v7))], 64⟩ ∧ s_IdentityPermutation_j4 v6 v7 (s_IdentityPermutation_l1 a1 n1) v8 = some r) hN ?_ ?_
   ·intro K hK; obtain ⟨x5, h5, h⟩ := bO_inv h; simp only [EV, seval]; refine CP (s_l1In_ok h5) ?_; obtain ⟨x6, hv3, h⟩ := bO_inv h; rcases br_inv hv3 with ⟨hc5, hv3⟩ | ⟨hc5, hv3⟩
    ·cases hv3; simp only [EV, seval, hc5]; refine hK _ _ _ (show cutK _ _ _ from cutL ⟨_, rfl, h⟩ (Le_can [(32, some 32)] [] hρ (by kernel_rfl) ?_ ?_))
     ·simp only [AL, EV, seval, hc5]
     ·simp only [AL, EV, seval, hc5]
    ·cases hv3; simp only [EV, seval, hc5]; refine hK _ _ _ (show cutK _ _ _ from cutL ⟨_, rfl, h⟩ (Le_can [(32, some 32)] [] hρ (by kernel_rfl) ?_ ?_))
     ·simp only [AL, EV, seval, hc5]
     ·simp only [AL, EV, seval, hc5]
   ·rintro S ⟨v8, rfl, h⟩; unfold s_IdentityPermutation_j4 at h; refine AB h (fun hc6 h => ?_) fun hc6 h => ?_
    ·refine AW_skip (AK ?_); refine AW_seq ?_; refine AW_block ?_; refine AS hN fun K hK => ?_; obtain ⟨h6, h⟩ := gd_inv h; replace h6 := of_decide_eq_true h6; (try simp only [EV, seval] at h6); simp only [EV, seval, h6]; refine hK _ _ _ (show AW _ _ _ _ _ from ?_); refine AS hN fun K hK => ?_; simp only [EV, seval]; exact hK _ _ _ (AC ⟨_, _, rfl, h⟩ [(32, some 112)] [] hρ)
    ·exact AW_exit (AC ⟨_, rfl, h⟩ [(32, some 32)] [] hρ)
 ·rintro S ⟨v9, rfl, h⟩; unfold s_IdentityPermutation_j1 at h; refine AN hN ?_; injection h with h; subst h; exact AX (b' := 64) [(2, .own 32 v9.length)] [(32, .row 3 1 (encL EI v9))] [(32, some 32)] [] hρ (EQ [32])
/- spec.l8Perm -/
def s_l8Perm_j1 (v12 : List Int) (v13 v14 : Int) (v15 : List Int) : Option (List Int × List Int × Int × Int) :=
  some (v15, v12, v13, v14)
def s_l8Perm_l1 : Nat → (List Int) → Int → Int → Int → (List Int) → Option (List Int × List Int × Int × Int)
  | 0, _, _, _, _, _ => none
  | n1 + 1, v7, v8, v9, v10, v11 =>
  br (decide (0 < v10)) (bO (s_l1Below v7 v8 v9 (IntKind.wrap .i64 (v10 + 1))) fun x4 => bO (geti v11 v10) fun q7 => bO (geti v11 x4.1) fun q8 => bO (geti (v11.set (Int.toNat v10) q8) x4.1) fun q9 => (s_l8Perm_l1 n1) x4.2.1 x4.2.2.1 x4.2.2.2 (IntKind.wrap .i64 (v10 - 1)) ((v11.set (Int.toNat v10) q8).set (Int.toNat x4.1) q7)) (s_l8Perm_j1 v7 v8 v9 v11)
def s_l8Perm (a1 : List Int) (a2 a3 a4 : Int) : Option (List Int × List Int × Int × Int) :=
  bO (s_IdentityPermutation a4) fun x1 => s_l8Perm_l1 FU a1 a2 a3 (IntKind.wrap .i64 (a4 - 1)) x1
theorem s_l8Perm_ok {a1 : List Int} {a2 a3 a4 : Int} {r : List Int × List Int × Int × Int} (h : s_l8Perm a1 a2 a3 a4 = some r) :
    Spec Try.prog 56 [.ptr 0 0, .int .i64 a4] [.box 52 [.sl (encL EB a1) a1.length, .int .i64 a2, .int .i64 a3]] (.own 1 r.1.length) [.box 52 [.sl (encL EB r.2.1) r.2.1.length, .int .i64 r.2.2.1, .int .i64 r.2.2.2], .row 3 1 (encL EI r.1)] := by
 unfold s_l8Perm at h; refine SO Try.func56 rfl Try.ntmps56 fun C hN hρ => ?_; simp only [st0, tmps0, Nat.zero_add, Nat.reduceAdd]; refine AN hN ?_; refine AR hN fun K hK => ?_; obtain ⟨x1, h1, h⟩ := bO_inv h; simp only [EV, seval]; refine rC_p (s_IdentityPermutation_ok h1) (by simp only [AL, EV, seval]) (le_d rfl) (site_1 (by simp only [EV, seval])) ?_; simp only [EV, seval]; refine hK _ _ _ ?_; clear hK K; refine AW_cutK (fun S => ∃ (v12 : List Int) (v13 v14 : Int) (v15 : List Int), S = ⟨mkT [(5, .own 32 v15.length)], mkR [(0, .box 52 [.sl (encL EB v12) v12.length, .int .i64 v13, .int .i64 v14]), (32, .row 3 1 (encL EI v15))], 64⟩ ∧ s_l8Perm_j1 v12 v13 v14 v15 = some r) ?_ ?_
 ·refine AN hN ?_; refine AW_block ?_; refine AW_loopF (fun n S => ∃ (v7 : List Int) (v8 v9 v10 : Int) (v11 : List Int), S = ⟨mkT [(0, .ptr 0 0), (5, .own 32 v11.length), (6, .int .i64 v10)], mkR [(0, .box 52 [.sl (encL EB v7) v7.length, .int .i64 v8, .int .i64 v9]), (32, .row 3 1 (encL EI v11))], 64⟩ ∧ s_l8Perm_l1 n v7 v8 v9 v10 v11 = some r) FU ?_ ?_ ?_
  ·exact AC ⟨_, _, _, _, _, rfl, h⟩ [(0, some 0), (32, some 1104)] [] hρ
  ·rintro S ⟨_, _, _, _, _, _, h⟩; rw [s_l8Perm_l1] at h; cases h
  ·rintro n1 S ⟨v7, v8, v9, v10, v11, rfl, h⟩; rw [s_l8Perm_l1] at h; refine AW_seq ?_; refine AN hN ?_; refine AB h (fun hc3 h => ?_) fun hc3 h => ?_
   ·refine AW_skip (AK ?_); refine AW_seq ?_; refine AW_block ?_; refine AR hN fun K hK => ?_; obtain ⟨x4, h20, h⟩ := bO_inv h; simp only [EV, seval]; refine rR_p [0] (s_l1Below_ok h20) (by simp only [AL, EV, seval]) (by simp only [AL, EV, seval]) (by kernel_rfl) (by simp only [EV, solidO, List.mem_cons, List.not_mem_nil, or_false, forall_eq_or_imp, forall_eq, seval]) (le_d rfl) (le_d rfl) (no_j rfl) ?_; simp only [EV, seval]; refine hK _ _ _ ?_; clear hK K; refine AR hN fun K hK => ?_; obtain ⟨q7, h21, h⟩ := bO_inv h; obtain ⟨⟨h22a, h22b⟩, h22c⟩ := geti_E EIl h21; (try simp only [EV, seval] at h22c); simp only [EV, seval, h22a, h22b, h22c]; refine hK _ _ _ ?_; clear hK K; refine AR hN fun K hK => ?_; obtain ⟨q8, h23, h⟩ := bO_inv h; obtain ⟨⟨h24a, h24b⟩, h24c⟩ := geti_E EIl h23; (try simp only [EV, seval] at h24c); have h25 := set_E EIl q8 0 [.int .i64 q8] h21 (Nat.le_of_ble_eq_true rfl) rfl; obtain ⟨h25a, h25b⟩ := h25; (try simp only [EV, seval] at h25a); (try simp only [EV, seval] at h25b); simp only [EV, seval, h24a, h24b, h24c, h22a, h22b, h22c, h25a, h25b]; refine hK _ _ _ ?_; clear hK K; refine AS hN fun K hK => ?_; obtain ⟨q9, h26, h⟩ := bO_inv h; obtain ⟨⟨h27a, h27b⟩, h27c⟩ := geti_E EIl h26; (try simp only [EV, seval] at h27c); (try simp only [EV, seval] at h27b); have h28 := set_E EIl q7 0 [.int .i64 q7] h26 (Nat.le_of_ble_eq_true rfl) rfl; obtain ⟨h28a, h28b⟩ := h28; (try simp only [EV, seval] at h28a); (try simp only [EV, seval] at h28b); simp only [EV, seval, h27a, h27b, h27c, h28a, h28b]; refine hK _ _ _ (show AW _ _ _ _ _ from ?_); refine AS hN fun K hK => ?_; simp only [EV, seval]; exact hK _ _ _ (AC ⟨_, _, _, _, _, rfl, h⟩ [(0, some 0), (32, some 32)] [] hρ)
   ·exact AW_exit (AC ⟨_, _, _, _, rfl, h⟩ [(0, some 0), (32, some 32)] [] hρ)
 ·rintro S ⟨v12, v13, v14, v15, rfl, h⟩; unfold s_l8Perm_j1 at h; refine AN hN ?_; injection h with h; subst h; exact AX (b' := 64) [(4, .own 32 v15.length)] [(0, .box 52 [.sl (encL EB v12) v12.length, .int .i64 v13, .int .i64 v14]), (32, .row 3 1 (encL EI v15))] [(0, some 0), (32, some 32)] [] hρ (EQ [0, 32])
/- spec.l9On -/
def s_l9On_j2 (a4 : Int) (x1 : List Int × List Int × Int × Int) (q1 v1 v2 : Int) : Option (Int × Int × Int × Int × List Int × Int × Int) :=
  some (a4, q1, v1, v2, x1.2.1, x1.2.2.1, x1.2.2.2)
def s_l9On_j1 (a4 : Int) (x1 : List Int × List Int × Int × Int) (q1 v1 : Int) : Option (Int × Int × Int × Int × List Int × Int × Int) :=
  bO (s_Arity a4) fun x3 => br (decide (2 < x3)) (bO (geti x1.1 2) fun q3 => s_l9On_j2 a4 x1 q1 v1 q3) (s_l9On_j2 a4 x1 q1 v1 0)
def s_l9On (a1 : List Int) (a2 a3 a4 a5 : Int) : Option (Int × Int × Int × Int × List Int × Int × Int) :=
  bO (s_l8Perm a1 a2 a3 a5) fun x1 => bO (geti x1.1 0) fun q1 => bO (s_Arity a4) fun x2 => br (decide (1 < x2)) (bO (geti x1.1 1) fun q2 => s_l9On_j1 a4 x1 q1 q2) (s_l9On_j1 a4 x1 q1 0)
theorem s_l9On_ok {a1 : List Int} {a2 a3 a4 a5 : Int} {r : Int × Int × Int × Int × List Int × Int × Int} (h : s_l9On a1 a2 a3 a4 a5 = some r) :
    Spec Try.prog 43 [.ptr 0 0, .int .i64 a4, .int .i64 a5] [.box 52 [.sl (encL EB a1) a1.length, .int .i64 a2, .int .i64 a3]] (.agg [.int .i64 r.1, .int .i64 r.2.1, .int .i64 r.2.2.1, .int .i64 r.2.2.2.1]) [.box 52 [.sl (encL EB r.2.2.2.2.1) r.2.2.2.2.1.length, .int .i64 r.2.2.2.2.2.1, .int .i64 r.2.2.2.2.2.2]] := by
 unfold s_l9On at h; refine SO Try.func43 rfl Try.ntmps43 fun C hN hρ => ?_; simp only [st0, tmps0, Nat.zero_add, Nat.reduceAdd]; refine AN hN ?_; refine AR hN fun K hK => ?_; obtain ⟨x1, h1, h⟩ := bO_inv h; simp only [EV, seval]; refine rR_p [0] (s_l8Perm_ok h1) (by simp only [AL, EV, seval]) (by simp only [AL, EV, seval]) (by kernel_rfl) (by simp only [EV, solidO, List.mem_cons, List.not_mem_nil, or_false, forall_eq_or_imp, forall_eq, seval]) (le_d rfl) (le_d rfl) (site_1 (by simp only [EV, seval])) ?_; simp only [EV, seval]; refine hK _ _ _ ?_; clear hK K; refine AR hN fun K hK => ?_; obtain ⟨q1, h2, h⟩ := bO_inv h; obtain ⟨⟨h3a, h3b⟩, h3c⟩ := geti_E EIl h2; (try simp only [EV, seval] at h3c); simp only [EV, seval, h3a, h3b, h3c]; refine hK _ _ _ ?_; clear hK K; refine AW_cutK (fun S => ∃ (v1 : Int), S = ⟨mkT [(1, .int .i64 a4), (6, .ptr 32 0), (7, .own 33 x1.1.length), (8, .ptr 34 0)], mkR [(0, .box 52 [.sl (encL EB x1.2.1) x1.2.1.length, .int .i64 x1.2.2.1, .int .i64 x1.2.2.2]), (32, .box 68 [.int .i64 0, .int .i64 0, .int .i64 0, .int .i64 0]), (33, .row 3 1 (encL EI x1.1)), (34, .box 68 [.int .i64 a4, .int .i64 q1, .int .i64 v1, .int .i64 0])], 64⟩ ∧ s_l9On_j1 a4 x1 q1 v1 = some r) ?_ ?_
 ·refine AR hN fun K hK => ?_; obtain ⟨x2, h4, h⟩ := bO_inv h; simp only [EV, seval, h3c]; refine rC_p (s_Arity_ok h4) (by simp only [AL, EV, seval, h3c]) (le_d rfl) (no_j rfl) ?_; simp only [EV, seval, h3c]; refine hK _ _ _ ?_; clear hK K; refine AW_condK (a := .bool (decide (1 < x2))) (by simp only [EV, seval, h3c]) (brK h (fun hc1 h => ?_) (fun hc1 h => ?_))
  ·refine AS hN fun K hK => ?_; obtain ⟨q2, h5, h⟩ := bO_inv h; obtain ⟨⟨h6a, h6b⟩, h6c⟩ := geti_E EIl h5; (try simp only [EV, seval, h3c] at h6c); simp only [EV, seval, h6a, h6b, h6c, h3c]; refine hK _ _ _ (show cutK _ _ _ from cutL ⟨_, rfl, h⟩ (Le_can [(0, some 0), (32, some 64), (33, some 1120), (34, some 2192)] [] hρ (by kernel_rfl) ?_ ?_))
   ·simp only [AL, EV, seval, h6a, h6b, h6c, h3c]
   ·simp only [AL, EV, seval, h6a, h6b, h6c, h3c]
  ·refine AW_skip (show cutK _ _ _ from cutL ⟨_, rfl, h⟩ (Le_can [(0, some 0), (32, some 64), (33, some 1120), (34, some 2192)] [] hρ (by kernel_rfl) ?_ ?_))
   ·simp only [AL, EV, seval, h3c]
   ·simp only [AL, EV, seval, h3c]
 ·rintro S ⟨v1, rfl, h⟩; unfold s_l9On_j1 at h; refine AW_cutK (fun S => ∃ (v2 : Int), S = ⟨mkT [(6, .ptr 32 0), (8, .ptr 33 0)], mkR [(0, .box 52 [.sl (encL EB x1.2.1) x1.2.1.length, .int .i64 x1.2.2.1, .int .i64 x1.2.2.2]), (32, .box 68 [.int .i64 0, .int .i64 0, .int .i64 0, .int .i64 0]), (33, .box 68 [.int .i64 a4, .int .i64 q1, .int .i64 v1, .int .i64 v2])], 64⟩ ∧ s_l9On_j2 a4 x1 q1 v1 v2 = some r) ?_ ?_
  ·refine AR hN fun K hK => ?_; obtain ⟨x3, h7, h⟩ := bO_inv h; simp only [EV, seval, h3c]; refine rC_p (s_Arity_ok h7) (by simp only [AL, EV, seval, h3c]) (le_d rfl) (no_j rfl) ?_; simp only [EV, seval, h3c]; refine hK _ _ _ ?_; clear hK K; refine AW_condK (a := .bool (decide (2 < x3))) (by simp only [EV, seval, h3c]) (brK h (fun hc2 h => ?_) (fun hc2 h => ?_))
   ·refine AS hN fun K hK => ?_; obtain ⟨q3, h8, h⟩ := bO_inv h; obtain ⟨⟨h9a, h9b⟩, h9c⟩ := geti_E EIl h8; (try simp only [EV, seval, h3c] at h9c); simp only [EV, seval, h9a, h9b, h9c, h3c]; refine hK _ _ _ (show cutK _ _ _ from cutL ⟨_, rfl, h⟩ (Le_can [(0, some 0), (32, some 32), (33, some 34)] [] hρ (by kernel_rfl) ?_ ?_))
    ·simp only [AL, EV, seval, h9a, h9b, h9c, h3c]
    ·simp only [AL, EV, seval, h9a, h9b, h9c, h3c]
   ·refine AW_skip (show cutK _ _ _ from cutL ⟨_, rfl, h⟩ (Le_can [(0, some 0), (32, some 32), (33, some 34)] [] hρ (by kernel_rfl) ?_ ?_))
    ·simp only [AL, EV, seval, h3c]
    ·simp only [AL, EV, seval, h3c]
  ·rintro S ⟨v2, rfl, h⟩; unfold s_l9On_j2 at h; refine AR hN fun K hK => ?_; simp only [EV, seval, h3c]; refine hK _ _ _ ?_; clear hK K; injection h with h; subst h; refine AW_le (Le_can (lt := [(6, .ptr 32 0)]) (lr := [(0, .box 52 [.sl (encL EB x1.2.1) x1.2.1.length, .int .i64 x1.2.2.1, .int .i64 x1.2.2.2]), (32, .box 68 [.int .i64 a4, .int .i64 q1, .int .i64 v1, .int .i64 v2])]) (b' := 64) [(0, some 0), (32, some 32)] [] hρ (by kernel_rfl) ?_ ?_) (AW_ret (end_q [0] (.inr rfl) (by kernel_rfl) (by kernel_rfl) ?_))
   ·simp only [AL, EV, seval, h3c]
   ·simp only [AL, EV, seval, h3c]
   ·simp only [EV, Try.results43, seval]
/- spec.l9Gate -/
def s_l9Gate_j2 (a4 : Int) (v1 : List Int) (v2 v3 v5 : Int) : Option (Int × Int × Int × Int × List Int × Int × Int) :=
  bO (s_l9On v1 v2 v3 v5 a4) fun x5 => some (x5.1, x5.2.1, x5.2.2.1, x5.2.2.2.1, x5.2.2.2.2.1, x5.2.2.2.2.2.1, x5.2.2.2.2.2.2)
def s_l9Gate_j1 (a4 : Int) (v1 : List Int) (v2 v3 v4 : Int) : Option (Int × Int × Int × Int × List Int × Int × Int) :=
  bO (s_Arity v4) fun x4 => br (decide (a4 < x4)) (s_l9Gate_j2 a4 v1 v2 v3 4) (s_l9Gate_j2 a4 v1 v2 v3 v4)
def s_l9Gate (a1 : List Int) (a2 a3 a4 : Int) : Option (Int × Int × Int × Int × List Int × Int × Int) :=
  bO (geti ([0, 8, 11, 12, 12]) a4) fun q1 => bO (s_l1Below a1 a2 a3 q1) fun x1 => bO (s_l1Once x1.2.1 x1.2.2.1 x1.2.2.2 2) fun x2 => br x2.1 (bO (s_l1PickInt x2.2.1 x2.2.2.1 x2.2.2.2 ([4, 7, 5, 8, 9, 9, 9, 9])) fun x3 => s_l9Gate_j1 a4 x3.2.1 x3.2.2.1 x3.2.2.2 x3.1) (s_l9Gate_j1 a4 x2.2.1 x2.2.2.1 x2.2.2.2 (IntKind.wrap .i64 (1 + x1.1)))
theorem s_l9Gate_ok {a1 : List Int} {a2 a3 a4 : Int} {r : Int × Int × Int × Int × List Int × Int × Int} (h : s_l9Gate a1 a2 a3 a4 = some r) :
    Spec Try.prog 29 [.ptr 0 0, .int .i64 a4] [.box 52 [.sl (encL EB a1) a1.length, .int .i64 a2, .int .i64 a3]] (.agg [.int .i64 r.1, .int .i64 r.2.1, .int .i64 r.2.2.1, .int .i64 r.2.2.2.1]) [.box 52 [.sl (encL EB r.2.2.2.2.1) r.2.2.2.2.1.length, .int .i64 r.2.2.2.2.2.1, .int .i64 r.2.2.2.2.2.2]] := by
 unfold s_l9Gate at h; refine SO Try.func29 rfl Try.ntmps29 fun C hN hρ => ?_; simp only [st0, tmps0, Nat.zero_add, Nat.reduceAdd]; refine AN hN ?_; refine AR hN fun K hK => ?_; obtain ⟨q1, h1, h⟩ := bO_inv h; obtain ⟨⟨h2a, h2b⟩, h2c⟩ := geti_E EIl h1; (try simp only [EV, seval] at h2c); (try simp only [EV, seval] at h2b); simp only [EV, seval, h2a, h2b, h2c]; refine hK _ _ _ ?_; clear hK K; refine AR hN fun K hK => ?_; obtain ⟨x1, h3, h⟩ := bO_inv h; simp only [EV, seval]; refine rR_p [0] (s_l1Below_ok h3) (by simp only [AL, EV, seval]) (by simp only [AL, EV, seval]) (by kernel_rfl) (by simp only [EV, solidO, List.mem_cons, List.not_mem_nil, or_false, forall_eq_or_imp, forall_eq, seval]) (le_d rfl) (le_d rfl) (no_j rfl) ?_; simp only [EV, seval]; refine hK _ _ _ ?_; clear hK K; refine AW_cutK (fun S => ∃ (v1 : List Int) (v2 v3 v4 : Int), S = ⟨mkT [(0, .ptr 0 0), (1, .int .i64 a4), (4, .ptr 32 0), (6, .int .i64 v4)], mkR [(0, .box 52 [.sl (encL EB v1) v1.length, .int .i64 v2, .int .i64 v3]), (32, .box 68 [.int .i64 0, .int .i64 0, .int .i64 0, .int .i64 0])], 64⟩ ∧ s_l9Gate_j1 a4 v1 v2 v3 v4 = some r) ?_ ?_
 ·refine AR hN fun K hK => ?_; obtain ⟨x2, h4, h⟩ := bO_inv h; simp only [EV, seval]; refine rR_p [0] (s_l1Once_ok h4) (by simp only [AL, EV, seval]) (by simp only [AL, EV, seval]) (by kernel_rfl) (by simp only [EV, solidO, List.mem_cons, List.not_mem_nil, or_false, forall_eq_or_imp, forall_eq, seval]) (le_d rfl) (le_d rfl) (no_j rfl) ?_; simp only [EV, seval]; refine hK _ _ _ ?_; clear hK K; refine AB h (fun hc1 h => ?_) fun hc1 h => ?_
  ·refine AS hN fun K hK => ?_; obtain ⟨x3, h5, h⟩ := bO_inv h; simp only [EV, seval]; refine rR_p [0] (s_l1PickInt_ok h5) (by simp only [AL, EV, seval]) (by simp only [AL, EV, seval]) (by kernel_rfl) (by simp only [EV, solidO, List.mem_cons, List.not_mem_nil, or_false, forall_eq_or_imp, forall_eq, seval]) (le_d rfl) (le_d rfl) (no_j rfl) ?_; simp only [EV, seval]; exact hK _ _ _ (AC ⟨_, _, _, _, rfl, h⟩ [(0, some 0), (32, some 64)] [] hρ)
  ·refine AW_skip (show cutK _ _ _ from cutL ⟨_, _, _, _, rfl, h⟩ (Le_can [(0, some 0), (32, some 64)] [] hρ (by kernel_rfl) ?_ ?_))
   ·simp only [AL, EV, seval]
   ·simp only [AL, EV, seval]
 ·rintro S ⟨v1, v2, v3, v4, rfl, h⟩; unfold s_l9Gate_j1 at h; refine AW_cutK (fun S => ∃ (v5 : Int), S = ⟨mkT [(0, .ptr 0 0), (1, .int .i64 a4), (4, .ptr 32 0), (6, .int .i64 v5)], mkR [(0, .box 52 [.sl (encL EB v1) v1.length, .int .i64 v2, .int .i64 v3]), (32, .box 68 [.int .i64 0, .int .i64 0, .int .i64 0, .int .i64 0])], 64⟩ ∧ s_l9Gate_j2 a4 v1 v2 v3 v5 = some r) ?_ ?_
  ·obtain ⟨x4, h6, h⟩ := bO_inv h; refine AP hN (s_Arity_ok h6) ?_; refine AB h (fun hc2 h => ?_) fun hc2 h => ?_
   ·refine AS hN fun K hK => ?_; simp only [EV, seval]; exact hK _ _ _ (AC ⟨_, rfl, h⟩ [(0, some 0), (32, some 32)] [] hρ)
   ·refine AW_skip (show cutK _ _ _ from cutL ⟨_, rfl, h⟩ (Le_can [(0, some 0), (32, some 32)] [] hρ (by kernel_rfl) ?_ ?_))
    ·simp only [AL, EV, seval]
    ·simp only [AL, EV, seval]
  ·rintro S ⟨v5, rfl, h⟩; unfold s_l9Gate_j2 at h; refine AR hN fun K hK => ?_; obtain ⟨x5, h7, h⟩ := bO_inv h; simp only [EV, seval]; refine rR_p [0] (s_l9On_ok h7) (by simp only [AL, EV, seval]) (by simp only [AL, EV, seval]) (by kernel_rfl) (by simp only [EV, solidO, List.mem_cons, List.not_mem_nil, or_false, forall_eq_or_imp, forall_eq, seval]) (le_d rfl) (le_d rfl) (no_j rfl) ?_; simp only [EV, seval]; refine hK _ _ _ ?_; clear hK K; injection h with h; subst h; exact AX (b' := 64) [(4, .ptr 32 0)] [(0, .box 52 [.sl (encL EB x5.2.2.2.2.1) x5.2.2.2.2.1.length, .int .i64 x5.2.2.2.2.2.1, .int .i64 x5.2.2.2.2.2.2]), (32, .box 68 [.int .i64 x5.1, .int .i64 x5.2.1, .int .i64 x5.2.2.1, .int .i64 x5.2.2.2.1])] [(0, some 0), (32, some 32)] [] hρ (EQ [0])
/- spec.l1Max -/
def s_l1Max (a1 a2 : Int) : Option Int :=
  br (decide (a2 < a1)) (some a1) (some a2)
theorem s_l1Max_ok {a1 a2 r : Int} (h : s_l1Max a1 a2 = some r) :
    Spec Try.prog 71 [.int .i64 a1, .int .i64 a2] [] (.int .i64 r) [] := by
 unfold s_l1Max at h; refine SO Try.func71 rfl Try.ntmps71 fun C hN hρ => ?_; simp only [st0, tmps0, Nat.zero_add, Nat.reduceAdd]; refine AN hN ?_; refine AW_seq ?_; refine AN hN ?_; refine AB h (fun hc1 h => ?_) fun hc1 h => ?_
 ·refine AN hN ?_; injection h with h; subst h; exact AX (b' := 64) [(4, .int .i64 a1)] [] [] [] hρ (EQ [])
 ·refine AW_skip (AK ?_); refine AN hN ?_; injection h with h; subst h; exact AX (b' := 64) [(4, .int .i64 a2)] [] [] [] hρ (EQ [])
end Go.Proofs.Ytfjopjalhllplaa
