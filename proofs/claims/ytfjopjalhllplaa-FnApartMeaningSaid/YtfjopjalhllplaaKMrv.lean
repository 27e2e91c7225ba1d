/- Models of functions, and that the functions do what the models say; printed by a program. -/
import Derived.Test.YtfjopjalhllplaaK1
import Derived.Test.YtfjopjalhllplaaKMa
import Derived.Test.YtfjopjalhllplaaKMf
namespace Go.Proofs.Ytfjopjalhllplaa
open Go.RowKit
set_option maxRecDepth 100000
set_option linter.unusedVariables false
set_option linter.unusedSimpArgs false
set_option linter.defProp false
set_option maxHeartbeats 4000000
/- spec.IsValidOp -/
def s_IsValidOp_j2 (v2 : Bool) : Option Bool :=
  some v2
def s_IsValidOp_j3 (v3 : Bool) : Option Bool :=
  some v3
def s_IsValidOp_j4 (v4 : Bool) : Option Bool :=
  some v4
def s_IsValidOp_j1 (a1 a2 a3 a4 a5 a6 a7 a8 a9 a10 : Int) (v1 : Bool) : Option Bool :=
  br v1 (some false) (br (a1 == 1) (bO (br (((a1 == a1) && ((a2 == a2) && ((a3 == a3) && ((a4 == a4) && ((a5 == a5) && ((a6 == 0) && ((a7 == 0) && (a8 == a8))))))))) (bO (s_IsValidGate a2 a3 a4 a5 a9) fun x5 => some x5) (some false)) fun x6 => bO (br x6 (bO (s_l1In a8 0 a10) fun x7 => some x7) (some false)) fun x8 => s_IsValidOp_j2 x8) (br (a1 == 2) (bO (br (((a1 == a1) && ((a2 == 0) && ((a3 == 0) && ((a4 == 0) && ((a5 == 0) && ((a6 == a6) && ((a7 == a7) && (a8 == 0))))))))) (bO (s_l1In a6 0 (IntKind.wrap .i64 (a9 - 1))) fun x14 => some x14) (some false)) fun x15 => bO (br x15 (bO (s_l1In a7 0 (IntKind.wrap .i64 (a10 - 1))) fun x16 => some x16) (some false)) fun x17 => s_IsValidOp_j3 x17) (br (a1 == 3) (bO (br (((a1 == a1) && ((a2 == 0) && ((a3 == 0) && ((a4 == 0) && ((a5 == 0) && ((a6 == a6) && ((a7 == 0) && (a8 == 0))))))))) (bO (s_l1In a6 0 (IntKind.wrap .i64 (a9 - 1))) fun x23 => some x23) (some false)) fun x24 => s_IsValidOp_j4 x24) (some false))))
def s_IsValidOp (a1 a2 a3 a4 a5 a6 a7 a8 a9 a10 : Int) : Option Bool :=
  bO (s_l1In a9 1 4) fun x1 => bO (br (!x1) (some true) (bO (s_l1In a10 0 3) fun x2 => some (!x2))) fun x3 => s_IsValidOp_j1 a1 a2 a3 a4 a5 a6 a7 a8 a9 a10 x3
theorem s_IsValidOp_ok {a1 a2 a3 a4 a5 a6 a7 a8 a9 a10 : Int} {r : Bool} (h : s_IsValidOp a1 a2 a3 a4 a5 a6 a7 a8 a9 a10 = some r) :
    Spec Try.prog 52 [.agg [.int .i64 a1, .int .i64 a2, .int .i64 a3, .int .i64 a4, .int .i64 a5, .int .i64 a6, .int .i64 a7, .int .i64 a8], .int .i64 a9, .int .i64 a10] [] (.bool r) [] := by
 unfold s_IsValidOp at h; refine SO Try.func52 rfl Try.ntmps52 fun C hN hρ => ?_; simp only [st0, tmps0, Nat.zero_add, Nat.reduceAdd]; refine AN hN ?_; refine AW_seq ?_; refine AJ (fun S => ∃ (v1 : Bool), S = ⟨mkT [(1, .int .i64 a9), (2, .int .i64 a10), (3, .ptr 32 0), (14, .bool v1)], mkR [(32, .box 70 [.int .i64 a1, .int .i64 a2, .int .i64 a3, .int .i64 a4, .int .i64 a5, .int .i64 a6, .int .i64 a7, .int .i64 a8])], 64⟩ ∧ s_IsValidOp_j1 a1 a2 a3 a4 a5 a6 a7 a8 a9 a10 v1 = some r) hN ?_ ?_
 ·intro K hK; obtain ⟨x1, h1, h⟩ := bO_inv h; simp only [EV, seval]; refine CP (s_l1In_ok h1) ?_; obtain ⟨x3, hv1, h⟩ := bO_inv h; rcases br_inv hv1 with ⟨hc1, hv1⟩ | ⟨hc1, hv1⟩
  ·cases hv1; simp only [EV, seval, hc1]; refine hK _ _ _ (show cutK _ _ _ from cutL ⟨_, rfl, h⟩ (Le_can [(32, some 64)] [] hρ (by kernel_rfl) ?_ ?_))
   ·simp only [AL, EV, seval, hc1]
   ·simp only [AL, EV, seval, hc1]
  ·obtain ⟨x4, h3, hv1⟩ := bO_inv hv1; simp only [EV, seval, hc1]; refine rC_p (s_l1In_ok h3) (by simp only [AL, EV, seval, hc1]) (le_d rfl) (no_j rfl) ?_; cases hv1; simp only [EV, seval, hc1]; refine hK _ _ _ (show cutK _ _ _ from cutL ⟨_, rfl, h⟩ (Le_can [(32, some 64)] [] hρ (by kernel_rfl) ?_ ?_))
   ·simp only [AL, EV, seval, hc1]
   ·simp only [AL, EV, seval, hc1]
 ·rintro S ⟨v1, rfl, h⟩; unfold s_IsValidOp_j1 at h; refine AB h (fun hc2 h => ?_) fun hc2 h => ?_
  ·refine AN hN ?_; injection h with h; subst h; exact AX (b' := 64) [(6, .bool false)] [] [] [] hρ (EQ [])
  ·refine AW_skip (AK ?_); refine AW_seq ?_; refine AN hN ?_; refine AW_block ?_; refine AN hN ?_; refine AB h (fun hc3 h => ?_) fun hc3 h => ?_
   ·refine AJ (fun S => ∃ (v2 : Bool), S = ⟨mkT [(6, .bool v2)], mkR [], 64⟩ ∧ s_IsValidOp_j2 v2 = some r) hN ?_ ?_
    ·intro K hK; obtain ⟨x6, hv2, h⟩ := bO_inv h; rcases br_inv hv2 with ⟨hc4, hv2⟩ | ⟨hc4, hv2⟩
     ·obtain ⟨x9, h6, hv2⟩ := bO_inv hv2; simp only [EV, seval, hc4]; refine rC_p (s_IsValidGate_ok h6) (by simp only [AL, EV, seval, hc4]) (le_d rfl) (no_j rfl) ?_; cases hv2; obtain ⟨x11, hv4, h⟩ := bO_inv h; rcases br_inv hv4 with ⟨hc6, hv4⟩ | ⟨hc6, hv4⟩
      ·obtain ⟨x12, h8, hv4⟩ := bO_inv hv4; simp only [EV, seval, hc4, hc6]; refine rC_p (s_l1In_ok h8) (by simp only [AL, EV, seval, hc4, hc6]) (le_d rfl) (no_j rfl) ?_; cases hv4; simp only [EV, seval, hc4, hc6]; refine hK _ _ _ (show cutK _ _ _ from cutL ⟨_, rfl, h⟩ (Le_can [] [] hρ (by kernel_rfl) ?_ ?_))
       ·simp only [AL, EV, seval, hc4, hc6]
       ·simp only [AL, EV, seval, hc4, hc6]
      ·cases hv4; simp only [EV, seval, hc4, hc6]; refine hK _ _ _ (show cutK _ _ _ from cutL ⟨_, rfl, h⟩ (Le_can [] [] hρ (by kernel_rfl) ?_ ?_))
       ·simp only [AL, EV, seval, hc4, hc6]
       ·simp only [AL, EV, seval, hc4, hc6]
     ·cases hv2; obtain ⟨x13, hv5, h⟩ := bO_inv h; replace hv5 := br_f hv5; cases hv5; (try dsimp only at h); simp only [EV, seval, hc4]; refine hK _ _ _ (show cutK _ _ _ from cutL ⟨_, rfl, h⟩ (Le_can [] [] hρ (by kernel_rfl) ?_ ?_))
      ·simp only [AL, EV, seval, hc4]
      ·simp only [AL, EV, seval, hc4]
    ·rintro S ⟨v2, rfl, h⟩; unfold s_IsValidOp_j2 at h; injection h with h; subst h; exact AX (b' := 64) [(6, .bool v2)] [] [] [] hρ (EQ [])
   ·refine AN hN ?_; refine AB h (fun hc7 h => ?_) fun hc7 h => ?_
    ·refine AJ (fun S => ∃ (v3 : Bool), S = ⟨mkT [(6, .bool v3)], mkR [], 64⟩ ∧ s_IsValidOp_j3 v3 = some r) hN ?_ ?_
     ·intro K hK; obtain ⟨x15, hv6, h⟩ := bO_inv h; rcases br_inv hv6 with ⟨hc8, hv6⟩ | ⟨hc8, hv6⟩
      ·obtain ⟨x18, h11, hv6⟩ := bO_inv hv6; simp only [EV, seval, hc8]; refine rC_p (s_l1In_ok h11) (by simp only [AL, EV, seval, hc8]) (le_d rfl) (no_j rfl) ?_; cases hv6; obtain ⟨x20, hv8, h⟩ := bO_inv h; rcases br_inv hv8 with ⟨hc10, hv8⟩ | ⟨hc10, hv8⟩
       ·obtain ⟨x21, h13, hv8⟩ := bO_inv hv8; simp only [EV, seval, hc8, hc10]; refine rC_p (s_l1In_ok h13) (by simp only [AL, EV, seval, hc8, hc10]) (le_d rfl) (no_j rfl) ?_; cases hv8; simp only [EV, seval, hc8, hc10]; refine hK _ _ _ (show cutK _ _ _ from cutL ⟨_, rfl, h⟩ (Le_can [] [] hρ (by kernel_rfl) ?_ ?_))
        ·simp only [AL, EV, seval, hc8, hc10]
        ·simp only [AL, EV, seval, hc8, hc10]
       ·cases hv8; simp only [EV, seval, hc8, hc10]; refine hK _ _ _ (show cutK _ _ _ from cutL ⟨_, rfl, h⟩ (Le_can [] [] hρ (by kernel_rfl) ?_ ?_))
        ·simp only [AL, EV, seval, hc8, hc10]
        ·simp only [AL, EV, seval, hc8, hc10]
      ·cases hv6; obtain ⟨x22, hv9, h⟩ := bO_inv h; replace hv9 := br_f hv9; cases hv9; (try dsimp only at h); simp only [EV, seval, hc8]; refine hK _ _ _ (show cutK _ _ _ from cutL ⟨_, rfl, h⟩ (Le_can [] [] hρ (by kernel_rfl) ?_ ?_))
       ·simp only [AL, EV, seval, hc8]
       ·simp only [AL, EV, seval, hc8]
     ·rintro S ⟨v3, rfl, h⟩; unfold s_IsValidOp_j3 at h; injection h with h; subst h; exact AX (b' := 64) [(6, .bool v3)] [] [] [] hρ (EQ [])
    ·refine AN hN ?_; refine AB h (fun hc11 h => ?_) fun hc11 h => ?_
     ·refine AJ (fun S => ∃ (v4 : Bool), S = ⟨mkT [(6, .bool v4)], mkR [], 64⟩ ∧ s_IsValidOp_j4 v4 = some r) hN ?_ ?_
      ·intro K hK; obtain ⟨x24, hv10, h⟩ := bO_inv h; rcases br_inv hv10 with ⟨hc12, hv10⟩ | ⟨hc12, hv10⟩
       ·obtain ⟨x25, h15, hv10⟩ := bO_inv hv10; simp only [EV, seval, hc12]; refine rC_p (s_l1In_ok h15) (by simp only [AL, EV, seval, hc12]) (le_d rfl) (no_j rfl) ?_; cases hv10; simp only [EV, seval, hc12]; refine hK _ _ _ (show cutK _ _ _ from cutL ⟨_, rfl, h⟩ (Le_can [] [] hρ (by kernel_rfl) ?_ ?_))
        ·simp only [AL, EV, seval, hc12]
        ·simp only [AL, EV, seval, hc12]
       ·cases hv10; simp only [EV, seval, hc12]; refine hK _ _ _ (show cutK _ _ _ from cutL ⟨_, rfl, h⟩ (Le_can [] [] hρ (by kernel_rfl) ?_ ?_))
        ·simp only [AL, EV, seval, hc12]
        ·simp only [AL, EV, seval, hc12]
      ·rintro S ⟨v4, rfl, h⟩; unfold s_IsValidOp_j4 at h; injection h with h; subst h; exact AX (b' := 64) [(6, .bool v4)] [] [] [] hρ (EQ [])
     ·refine AW_skip (AK ?_); refine AN hN ?_; injection h with h; subst h; exact AX (b' := 64) [(6, .bool false)] [] [] [] hρ (EQ [])
/- spec.IsValidRoutine -/
def s_IsValidRoutine_j7 (v9 : Int) (kl1 : Int → Int → Option Bool) (v11 : Int) : Option Bool :=
  kl1 v11 (IntKind.wrap .i64 (v9 + 1))
def s_IsValidRoutine_j8 (v8 v9 : Int) (kl1 : Int → Int → Option Bool) (q3 : Int × Int × Int × Int × Int × Int × Int × Int) (v10 : Bool) : Option Bool :=
  br v10 (some false) (br (q3.1 == 2) (s_IsValidRoutine_j7 v9 kl1 (IntKind.wrap .i64 (v8 + 1))) (s_IsValidRoutine_j7 v9 kl1 v8))
def s_IsValidRoutine_j2 (a3 v12 : Int) : Option Bool :=
  some (v12 == a3)
def s_IsValidRoutine_l1 (a1 a3 : Int) (a4 : List (Int × Int × Int × Int × Int × Int × Int × Int)) : Nat → Int → Int → Option Bool
  | 0, _, _ => none
  | n1 + 1, v8, v9 =>
  br (decide (v9 < ((a4.length : Int)))) (bO (geti a4 v9) fun q3 => bO (s_IsValidOp q3.1 q3.2.1 q3.2.2.1 q3.2.2.2.1 q3.2.2.2.2.1 q3.2.2.2.2.2.1 q3.2.2.2.2.2.2.1 q3.2.2.2.2.2.2.2 a1 a3) fun x24 => bO (br (!x24) (some true) (some (decide (v8 < q3.2.2.2.2.2.2.2)))) fun x25 => bO (br x25 (some true) (bO (br (q3.1 == 2) (some (q3.2.2.2.2.2.2.1 != v8)) (some false)) fun x26 => some x26)) fun x27 => s_IsValidRoutine_j8 v8 v9 (s_IsValidRoutine_l1 a1 a3 a4 n1) q3 x27) (s_IsValidRoutine_j2 a3 v8)
def s_IsValidRoutine_j1 (a1 a3 : Int) (a4 : List (Int × Int × Int × Int × Int × Int × Int × Int)) (v1 : Bool) : Option Bool :=
  br v1 (some false) (s_IsValidRoutine_l1 a1 a3 a4 FU 0 0)
def s_IsValidRoutine (a1 a2 a3 : Int) (a4 : List (Int × Int × Int × Int × Int × Int × Int × Int)) : Option Bool :=
  bO (s_l1In a1 1 4) fun x1 => bO (br (!x1) (some true) (bO (s_l1In a2 1 a1) fun x2 => some (!x2))) fun x3 => bO (br x3 (some true) (bO (s_l1In a3 0 3) fun x4 => some (!x4))) fun x5 => bO (br x5 (some true) (some (decide (120 < ((a4.length : Int)))))) fun x6 => s_IsValidRoutine_j1 a1 a3 a4 x6
theorem s_IsValidRoutine_ok {a1 a2 a3 : Int} {a4 : List (Int × Int × Int × Int × Int × Int × Int × Int)} {r : Bool} (h : s_IsValidRoutine a1 a2 a3 a4 = some r) :
    Spec Try.prog 38 [.agg [.int .i64 a1, .int .i64 a2, .int .i64 a3, .sl (encL EIIIIIIII a4) a4.length]] [] (.bool r) [] := by
 unfold s_IsValidRoutine at h; refine SO Try.func38 rfl Try.ntmps38 fun C hN hρ => ?_; simp only [st0, tmps0, Nat.zero_add, Nat.reduceAdd]; refine AN hN ?_; refine AW_seq ?_; refine AJ (fun S => ∃ (v1 : Bool), S = ⟨mkT [(1, .ptr 32 0), (29, .bool v1)], mkR [(32, .box 57 [.int .i64 a1, .int .i64 a2, .int .i64 a3, .sl (encL EIIIIIIII a4) a4.length])], 64⟩ ∧ s_IsValidRoutine_j1 a1 a3 a4 v1 = some r) hN ?_ ?_
 ·intro K hK; obtain ⟨x1, h1, h⟩ := bO_inv h; simp only [EV, seval]; refine CP (s_l1In_ok h1) ?_; obtain ⟨x3, hv1, h⟩ := bO_inv h; rcases br_inv hv1 with ⟨hc1, hv1⟩ | ⟨hc1, hv1⟩
  ·cases hv1; obtain ⟨x7, hv4, h⟩ := bO_inv h; replace hv4 := br_t hv4; cases hv4; (try dsimp only at h); obtain ⟨x8, hv5, h⟩ := bO_inv h; replace hv5 := br_t hv5; cases hv5; (try dsimp only at h); simp only [EV, seval, hc1]; refine hK _ _ _ (show cutK _ _ _ from cutL ⟨_, rfl, h⟩ (Le_can [(32, some 64)] [] hρ (by kernel_rfl) ?_ ?_))
   ·simp only [AL, EV, seval, hc1]
   ·simp only [AL, EV, seval, hc1]
  ·obtain ⟨x9, h4, hv1⟩ := bO_inv hv1; simp only [EV, seval, hc1]; refine rC_p (s_l1In_ok h4) (by simp only [AL, EV, seval, hc1]) (le_d rfl) (no_j rfl) ?_; cases hv1; obtain ⟨x11, hv6, h⟩ := bO_inv h; rcases br_inv hv6 with ⟨hc4, hv6⟩ | ⟨hc4, hv6⟩
   ·cases hv6; obtain ⟨x13, hv8, h⟩ := bO_inv h; replace hv8 := br_t hv8; cases hv8; (try dsimp only at h); simp only [EV, seval, hc1, hc4]; refine hK _ _ _ (show cutK _ _ _ from cutL ⟨_, rfl, h⟩ (Le_can [(32, some 64)] [] hρ (by kernel_rfl) ?_ ?_))
    ·simp only [AL, EV, seval, hc1, hc4]
    ·simp only [AL, EV, seval, hc1, hc4]
   ·obtain ⟨x14, h6, hv6⟩ := bO_inv hv6; simp only [EV, seval, hc1, hc4]; refine rC_p (s_l1In_ok h6) (by simp only [AL, EV, seval, hc1, hc4]) (le_d rfl) (no_j rfl) ?_; cases hv6; obtain ⟨x15, hv9, h⟩ := bO_inv h; rcases br_inv hv9 with ⟨hc6, hv9⟩ | ⟨hc6, hv9⟩
    ·cases hv9; simp only [EV, seval, hc1, hc4, hc6]; refine hK _ _ _ (show cutK _ _ _ from cutL ⟨_, rfl, h⟩ (Le_can [(32, some 64)] [] hρ (by kernel_rfl) ?_ ?_))
     ·simp only [AL, EV, seval, hc1, hc4, hc6]
     ·simp only [AL, EV, seval, hc1, hc4, hc6]
    ·cases hv9; simp only [EV, seval, hc1, hc4, hc6]; refine hK _ _ _ (show cutK _ _ _ from cutL ⟨_, rfl, h⟩ (Le_can [(32, some 64)] [] hρ (by kernel_rfl) ?_ ?_))
     ·simp only [AL, EV, seval, hc1, hc4, hc6]
     ·simp only [AL, EV, seval, hc1, hc4, hc6]
 ·rintro S ⟨v1, rfl, h⟩; unfold s_IsValidRoutine_j1 at h; refine AB h (fun hc7 h => ?_) fun hc7 h => ?_
  ·refine AN hN ?_; injection h with h; subst h; exact AX (b' := 64) [(2, .bool false)] [] [] [] hρ (EQ [])
  ·refine AW_skip (AK ?_); refine AN hN ?_; refine AW_cutK (fun S => ∃ (v12 : Int), S = ⟨mkT [(1, .ptr 32 0), (3, .int .i64 v12)], mkR [(32, .box 57 [.int .i64 a1, .int .i64 a2, .int .i64 a3, .sl (encL EIIIIIIII a4) a4.length])], 64⟩ ∧ s_IsValidRoutine_j2 a3 v12 = some r) ?_ ?_
   ·refine AN hN ?_; refine AW_block ?_; refine AW_loopF (fun n S => ∃ (v8 v9 : Int), S = ⟨mkT [(1, .ptr 32 0), (3, .int .i64 v8), (4, .int .i64 v9)], mkR [(32, .box 57 [.int .i64 a1, .int .i64 a2, .int .i64 a3, .sl (encL EIIIIIIII a4) a4.length])], 64⟩ ∧ s_IsValidRoutine_l1 a1 a3 a4 n v8 v9 = some r) FU ?_ ?_ ?_
    ·exact AC ⟨_, _, rfl, h⟩ [(32, some 32)] [] hρ
    ·rintro S ⟨_, _, _, h⟩; rw [s_IsValidRoutine_l1] at h; cases h
    ·rintro n1 S ⟨v8, v9, rfl, h⟩; rw [s_IsValidRoutine_l1] at h; refine AW_seq ?_; refine AN hN ?_; refine AB h (fun hc20 h => ?_) fun hc20 h => ?_
     ·refine AW_skip (AK ?_); refine AW_cutK (fun S => ∃ (v11 : Int), S = ⟨mkT [(1, .ptr 32 0), (3, .int .i64 v11), (4, .int .i64 v9)], mkR [(32, .box 57 [.int .i64 a1, .int .i64 a2, .int .i64 a3, .sl (encL EIIIIIIII a4) a4.length])], 64⟩ ∧ s_IsValidRoutine_j7 v9 (s_IsValidRoutine_l1 a1 a3 a4 n1) v11 = some r) ?_ ?_
      ·refine AW_block ?_; refine AR hN fun K hK => ?_; obtain ⟨q3, h13, h⟩ := bO_inv h; obtain ⟨⟨h14a, h14b⟩, h14c⟩ := geti_E EIIIIIIIIl h13; (try simp only [EV, seval] at h14c); simp only [EV, seval, h14a, h14b, h14c]; refine hK _ _ _ ?_; clear hK K; refine AW_seq ?_; refine AJ (fun S => ∃ (v10 : Bool), S = ⟨mkT [(1, .ptr 32 0), (3, .int .i64 v8), (4, .int .i64 v9), (5, .ptr 33 0), (65, .bool v10)], mkR [(32, .box 57 [.int .i64 a1, .int .i64 a2, .int .i64 a3, .sl (encL EIIIIIIII a4) a4.length]), (33, .box 70 [.int .i64 q3.1, .int .i64 q3.2.1, .int .i64 q3.2.2.1, .int .i64 q3.2.2.2.1, .int .i64 q3.2.2.2.2.1, .int .i64 q3.2.2.2.2.2.1, .int .i64 q3.2.2.2.2.2.2.1, .int .i64 q3.2.2.2.2.2.2.2])], 64⟩ ∧ s_IsValidRoutine_j8 v8 v9 (s_IsValidRoutine_l1 a1 a3 a4 n1) q3 v10 = some r) hN ?_ ?_
       ·intro K hK; obtain ⟨x24, h15, h⟩ := bO_inv h; simp only [EV, seval]; refine CP (s_IsValidOp_ok h15) ?_; obtain ⟨x25, hv16, h⟩ := bO_inv h; rcases br_inv hv16 with ⟨hc21, hv16⟩ | ⟨hc21, hv16⟩
        ·cases hv16; obtain ⟨x28, hv19, h⟩ := bO_inv h; replace hv19 := br_t hv19; cases hv19; (try dsimp only at h); simp only [EV, seval, hc21]; refine hK _ _ _ (show cutK _ _ _ from cutL ⟨_, rfl, h⟩ (Le_can [(32, some 32), (33, some 1168)] [] hρ (by kernel_rfl) ?_ ?_))
         ·simp only [AL, EV, seval, hc21]
         ·simp only [AL, EV, seval, hc21]
        ·cases hv16; obtain ⟨x30, hv20, h⟩ := bO_inv h; rcases br_inv hv20 with ⟨hc24, hv20⟩ | ⟨hc24, hv20⟩
         ·cases hv20; simp only [EV, seval, hc21, hc24]; refine hK _ _ _ (show cutK _ _ _ from cutL ⟨_, rfl, h⟩ (Le_can [(32, some 32), (33, some 1168)] [] hρ (by kernel_rfl) ?_ ?_))
          ·simp only [AL, EV, seval, hc21, hc24]
          ·simp only [AL, EV, seval, hc21, hc24]
         ·obtain ⟨x31, hv22, hv20⟩ := bO_inv hv20; rcases br_inv hv22 with ⟨hc26, hv22⟩ | ⟨hc26, hv22⟩
          ·cases hv22; cases hv20; simp only [EV, seval, hc21, hc24, hc26]; refine hK _ _ _ (show cutK _ _ _ from cutL ⟨_, rfl, h⟩ (Le_can [(32, some 32), (33, some 1168)] [] hρ (by kernel_rfl) ?_ ?_))
           ·simp only [AL, EV, seval, hc21, hc24, hc26]
           ·simp only [AL, EV, seval, hc21, hc24, hc26]
          ·cases hv22; cases hv20; simp only [EV, seval, hc21, hc24, hc26]; refine hK _ _ _ (show cutK _ _ _ from cutL ⟨_, rfl, h⟩ (Le_can [(32, some 32), (33, some 1168)] [] hρ (by kernel_rfl) ?_ ?_))
           ·simp only [AL, EV, seval, hc21, hc24, hc26]
           ·simp only [AL, EV, seval, hc21, hc24, hc26]
       ·rintro S ⟨v10, rfl, h⟩; unfold s_IsValidRoutine_j8 at h; refine AW_condK (a := .bool v10) (by simp only [EV, seval, h14a, h14b, h14c]) (brK h (fun hc27 h => ?_) (fun hc27 h => ?_))
        ·refine AN hN ?_; injection h with h; subst h; exact AX (b' := 64) [(2, .bool false)] [] [] [] hρ (EQ [])
        ·refine AW_skip (AK ?_); refine AN hN ?_; refine AB h (fun hc28 h => ?_) fun hc28 h => ?_
         ·refine AS hN fun K hK => ?_; simp only [EV, seval]; exact hK _ _ _ (AC ⟨_, rfl, h⟩ [(32, some 32)] [] hρ)
         ·refine AW_skip (show cutK _ _ _ from cutL ⟨_, rfl, h⟩ (Le_can [(32, some 32)] [] hρ (by kernel_rfl) ?_ ?_))
          ·simp only [AL, EV, seval]
          ·simp only [AL, EV, seval]
      ·rintro S ⟨v11, rfl, h⟩; unfold s_IsValidRoutine_j7 at h; refine AS hN fun K hK => ?_; simp only [EV, seval]; exact hK _ _ _ (AC ⟨_, _, rfl, h⟩ [(32, some 32)] [] hρ)
     ·exact AW_exit (AC ⟨_, rfl, h⟩ [(32, some 32)] [] hρ)
   ·rintro S ⟨v12, rfl, h⟩; unfold s_IsValidRoutine_j2 at h; refine AN hN ?_; injection h with h; subst h; exact AX (b' := 64) [(2, .bool (v12 == a3))] [] [] [] hρ (EQ [])
end Go.Proofs.Ytfjopjalhllplaa
