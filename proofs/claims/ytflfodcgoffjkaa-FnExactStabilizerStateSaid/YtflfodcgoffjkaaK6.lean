/- Joined texts: Mza Mzb Mzc Map. -/
import Derived.Test.YtflfodcgoffjkaaK1
import Derived.Test.YtflfodcgoffjkaaK2
import Derived.Test.YtflfodcgoffjkaaKMk
import Derived.Test.YtflfodcgoffjkaaKMf
/- Models of functions, and that the functions do what the models say; printed by a program. -/
namespace Go.Proofs.Ytflfodcgoffjkaa
open Go.RowKit
set_option maxRecDepth 100000
set_option linter.unusedVariables false
set_option linter.unusedSimpArgs false
set_option linter.defProp false
set_option maxHeartbeats 4000000
/- impl.IsValidZOmega -/
def i_IsValidZOmega_j1 (v1 : Bool) : Option Bool :=
  some v1
def i_IsValidZOmega (a1 a2 a3 a4 : Int) : Option Bool :=
  bO (i_in a1 (-1073741824) 1073741824) fun x1 => bO (br x1 (bO (i_in a2 (-1073741824) 1073741824) fun x2 => some x2) (some false)) fun x3 => bO (br x3 (bO (i_in a3 (-1073741824) 1073741824) fun x4 => some x4) (some false)) fun x5 => bO (br x5 (bO (i_in a4 (-1073741824) 1073741824) fun x6 => some x6) (some false)) fun x7 => i_IsValidZOmega_j1 x7
theorem i_IsValidZOmega_ok {a1 a2 a3 a4 : Int} {r : Bool} (h : i_IsValidZOmega a1 a2 a3 a4 = some r) :
    Spec Try.prog 186 [.agg [.int .i64 a1, .int .i64 a2, .int .i64 a3, .int .i64 a4]] [] (.bool r) [] := by
 unfold i_IsValidZOmega at h; refine SO Try.func186 rfl Try.ntmps186 fun C hN hρ => ?_; simp only [st0, tmps0, Nat.zero_add, Nat.reduceAdd]; refine AN hN ?_; refine AJ (fun S => ∃ (v1 : Bool), S = ⟨mkT [(2, .bool v1)], mkR [], 64⟩ ∧ i_IsValidZOmega_j1 v1 = some r) hN ?_ ?_
 ·intro K hK; obtain ⟨x1, h1, h⟩ := bO_inv h; simp only [EV, seval]; refine CP (i_in_ok h1) ?_; obtain ⟨x3, hv1, h⟩ := bO_inv h; rcases br_inv hv1 with ⟨hc1, hv1⟩ | ⟨hc1, hv1⟩
  ·obtain ⟨x8, h5, hv1⟩ := bO_inv hv1; simp only [EV, seval, hc1]; refine rC_p (i_in_ok h5) (by simp only [AL, EV, seval, hc1]) (le_d rfl) (no_j rfl) ?_; cases hv1; obtain ⟨x10, hv4, h⟩ := bO_inv h; rcases br_inv hv4 with ⟨hc4, hv4⟩ | ⟨hc4, hv4⟩
   ·obtain ⟨x13, h8, hv4⟩ := bO_inv hv4; simp only [EV, seval, hc1, hc4]; refine rC_p (i_in_ok h8) (by simp only [AL, EV, seval, hc1, hc4]) (le_d rfl) (no_j rfl) ?_; cases hv4; obtain ⟨x15, hv6, h⟩ := bO_inv h; rcases br_inv hv6 with ⟨hc6, hv6⟩ | ⟨hc6, hv6⟩
    ·obtain ⟨x16, h10, hv6⟩ := bO_inv hv6; simp only [EV, seval, hc1, hc4, hc6]; refine rC_p (i_in_ok h10) (by simp only [AL, EV, seval, hc1, hc4, hc6]) (le_d rfl) (no_j rfl) ?_; cases hv6; simp only [EV, seval, hc1, hc4, hc6]; refine hK _ _ _ (show cutK _ _ _ from cutL ⟨_, rfl, h⟩ (Le_can [] [] hρ (by kernel_rfl) ?_ ?_))
     ·simp only [AL, EV, seval, hc1, hc4, hc6]
     ·simp only [AL, EV, seval, hc1, hc4, hc6]
    ·cases hv6; simp only [EV, seval, hc1, hc4, hc6]; refine hK _ _ _ (show cutK _ _ _ from cutL ⟨_, rfl, h⟩ (Le_can [] [] hρ (by kernel_rfl) ?_ ?_))
     ·simp only [AL, EV, seval, hc1, hc4, hc6]
     ·simp only [AL, EV, seval, hc1, hc4, hc6]
   ·cases hv4; obtain ⟨x17, hv7, h⟩ := bO_inv h; replace hv7 := br_f hv7; cases hv7; (try dsimp only at h); simp only [EV, seval, hc1, hc4]; refine hK _ _ _ (show cutK _ _ _ from cutL ⟨_, rfl, h⟩ (Le_can [] [] hρ (by kernel_rfl) ?_ ?_))
    ·simp only [AL, EV, seval, hc1, hc4]
    ·simp only [AL, EV, seval, hc1, hc4]
  ·cases hv1; obtain ⟨x18, hv8, h⟩ := bO_inv h; replace hv8 := br_f hv8; cases hv8; (try dsimp only at h); obtain ⟨x19, hv9, h⟩ := bO_inv h; replace hv9 := br_f hv9; cases hv9; (try dsimp only at h); simp only [EV, seval, hc1]; refine hK _ _ _ (show cutK _ _ _ from cutL ⟨_, rfl, h⟩ (Le_can [] [] hρ (by kernel_rfl) ?_ ?_))
   ·simp only [AL, EV, seval, hc1]
   ·simp only [AL, EV, seval, hc1]
 ·rintro S ⟨v1, rfl, h⟩; unfold i_IsValidZOmega_j1 at h; injection h with h; subst h; exact AX (b' := 64) [(2, .bool v1)] [] [] [] hρ (EQ [])
/- spec.l2Near -/
def s_l2Near (a1 : Int) : Option Bool :=
  bO (s_l1In a1 (-1073741824) 1073741824) fun x1 => some x1
theorem s_l2Near_ok {a1 : Int} {r : Bool} (h : s_l2Near a1 = some r) :
    Spec Try.prog 204 [.int .i64 a1] [] (.bool r) [] := by
 unfold s_l2Near at h; refine SO Try.func204 rfl Try.ntmps204 fun C hN hρ => ?_; simp only [st0, tmps0, Nat.zero_add, Nat.reduceAdd]; refine AN hN ?_; obtain ⟨x1, h1, h⟩ := bO_inv h; refine AP hN (s_l1In_ok h1) ?_; injection h with h; subst h; exact AX (b' := 64) [(2, .bool x1)] [] [] [] hρ (EQ [])
/- spec.IsValidZOmega -/
def s_IsValidZOmega_j1 (v1 : Bool) : Option Bool :=
  some v1
def s_IsValidZOmega (a1 a2 a3 a4 : Int) : Option Bool :=
  bO (s_l2Near a1) fun x1 => bO (br x1 (bO (s_l2Near a2) fun x2 => some x2) (some false)) fun x3 => bO (br x3 (bO (s_l2Near a3) fun x4 => some x4) (some false)) fun x5 => bO (br x5 (bO (s_l2Near a4) fun x6 => some x6) (some false)) fun x7 => s_IsValidZOmega_j1 x7
theorem s_IsValidZOmega_ok {a1 a2 a3 a4 : Int} {r : Bool} (h : s_IsValidZOmega a1 a2 a3 a4 = some r) :
    Spec Try.prog 182 [.agg [.int .i64 a1, .int .i64 a2, .int .i64 a3, .int .i64 a4]] [] (.bool r) [] := by
 unfold s_IsValidZOmega at h; refine SO Try.func182 rfl Try.ntmps182 fun C hN hρ => ?_; simp only [st0, tmps0, Nat.zero_add, Nat.reduceAdd]; refine AN hN ?_; refine AJ (fun S => ∃ (v1 : Bool), S = ⟨mkT [(2, .bool v1)], mkR [], 64⟩ ∧ s_IsValidZOmega_j1 v1 = some r) hN ?_ ?_
 ·intro K hK; obtain ⟨x1, h1, h⟩ := bO_inv h; simp only [EV, seval]; refine CP (s_l2Near_ok h1) ?_; obtain ⟨x3, hv1, h⟩ := bO_inv h; rcases br_inv hv1 with ⟨hc1, hv1⟩ | ⟨hc1, hv1⟩
  ·obtain ⟨x8, h5, hv1⟩ := bO_inv hv1; simp only [EV, seval, hc1]; refine rC_p (s_l2Near_ok h5) (by simp only [AL, EV, seval, hc1]) (le_d rfl) (no_j rfl) ?_; cases hv1; obtain ⟨x10, hv4, h⟩ := bO_inv h; rcases br_inv hv4 with ⟨hc4, hv4⟩ | ⟨hc4, hv4⟩
   ·obtain ⟨x13, h8, hv4⟩ := bO_inv hv4; simp only [EV, seval, hc1, hc4]; refine rC_p (s_l2Near_ok h8) (by simp only [AL, EV, seval, hc1, hc4]) (le_d rfl) (no_j rfl) ?_; cases hv4; obtain ⟨x15, hv6, h⟩ := bO_inv h; rcases br_inv hv6 with ⟨hc6, hv6⟩ | ⟨hc6, hv6⟩
    ·obtain ⟨x16, h10, hv6⟩ := bO_inv hv6; simp only [EV, seval, hc1, hc4, hc6]; refine rC_p (s_l2Near_ok h10) (by simp only [AL, EV, seval, hc1, hc4, hc6]) (le_d rfl) (no_j rfl) ?_; cases hv6; simp only [EV, seval, hc1, hc4, hc6]; refine hK _ _ _ (show cutK _ _ _ from cutL ⟨_, rfl, h⟩ (Le_can [] [] hρ (by kernel_rfl) ?_ ?_))
     ·simp only [AL, EV, seval, hc1, hc4, hc6]
     ·simp only [AL, EV, seval, hc1, hc4, hc6]
    ·cases hv6; simp only [EV, seval, hc1, hc4, hc6]; refine hK _ _ _ (show cutK _ _ _ from cutL ⟨_, rfl, h⟩ (Le_can [] [] hρ (by kernel_rfl) ?_ ?_))
     ·simp only [AL, EV, seval, hc1, hc4, hc6]
     ·simp only [AL, EV, seval, hc1, hc4, hc6]
   ·cases hv4; obtain ⟨x17, hv7, h⟩ := bO_inv h; replace hv7 := br_f hv7; cases hv7; (try dsimp only at h); simp only [EV, seval, hc1, hc4]; refine hK _ _ _ (show cutK _ _ _ from cutL ⟨_, rfl, h⟩ (Le_can [] [] hρ (by kernel_rfl) ?_ ?_))
    ·simp only [AL, EV, seval, hc1, hc4]
    ·simp only [AL, EV, seval, hc1, hc4]
  ·cases hv1; obtain ⟨x18, hv8, h⟩ := bO_inv h; replace hv8 := br_f hv8; cases hv8; (try dsimp only at h); obtain ⟨x19, hv9, h⟩ := bO_inv h; replace hv9 := br_f hv9; cases hv9; (try dsimp only at h); simp only [EV, seval, hc1]; refine hK _ _ _ (show cutK _ _ _ from cutL ⟨_, rfl, h⟩ (Le_can [] [] hρ (by kernel_rfl) ?_ ?_))
   ·simp only [AL, EV, seval, hc1]
   ·simp only [AL, EV, seval, hc1]
 ·rintro S ⟨v1, rfl, h⟩; unfold s_IsValidZOmega_j1 at h; injection h with h; subst h; exact AX (b' := 64) [(2, .bool v1)] [] [] [] hρ (EQ [])
/- impl.DivSqrt2 -/
def i_DivSqrt2_j1 (v1 : Bool) (v2 v3 v4 v5 : Int) : Option (Int × Int × Int × Int × Bool) :=
  br v1 (some (0, 0, 0, 0, false)) (some (IntKind.wrap .i64 (Int.tdiv v2 2), IntKind.wrap .i64 (Int.tdiv v3 2), IntKind.wrap .i64 (Int.tdiv v4 2), IntKind.wrap .i64 (Int.tdiv v5 2), true))
def i_DivSqrt2 (a1 a2 a3 a4 : Int) : Option (Int × Int × Int × Int × Bool) :=
  bO (i_IsValidZOmega a1 a2 a3 a4) fun x1 => bO (br (!x1) (some true) (some ((Int.tmod (IntKind.wrap .i64 (a2 - a4)) 2) != 0))) fun x2 => bO (br x2 (some true) (some ((Int.tmod (IntKind.wrap .i64 (a1 + a3)) 2) != 0))) fun x3 => bO (br x3 (some true) (some ((Int.tmod (IntKind.wrap .i64 (a2 + a4)) 2) != 0))) fun x4 => bO (br x4 (some true) (some ((Int.tmod (IntKind.wrap .i64 (a3 - a1)) 2) != 0))) fun x5 => i_DivSqrt2_j1 x5 (IntKind.wrap .i64 (a2 - a4)) (IntKind.wrap .i64 (a1 + a3)) (IntKind.wrap .i64 (a2 + a4)) (IntKind.wrap .i64 (a3 - a1))
theorem i_DivSqrt2_ok {a1 a2 a3 a4 : Int} {r : Int × Int × Int × Int × Bool} (h : i_DivSqrt2 a1 a2 a3 a4 = some r) :
    Spec Try.prog 185 [.agg [.int .i64 a1, .int .i64 a2, .int .i64 a3, .int .i64 a4]] [] (.tup [.agg [.int .i64 r.1, .int .i64 r.2.1, .int .i64 r.2.2.1, .int .i64 r.2.2.2.1], .bool r.2.2.2.2]) [] := by
 unfold i_DivSqrt2 at h; refine SO Try.func185 rfl Try.ntmps185 fun C hN hρ => ?_; simp only [st0, tmps0, Nat.zero_add, Nat.reduceAdd]; refine AN hN ?_; refine AN hN ?_; refine AW_seq ?_; refine AJ (fun S => ∃ (v1 : Bool) (v2 v3 v4 v5 : Int), S = ⟨mkT [(2, .ptr 32 0), (4, .ptr 33 0), (52, .bool v1)], mkR [(32, .box 75 [.int .i64 0, .int .i64 0, .int .i64 0, .int .i64 0]), (33, .box 75 [.int .i64 v2, .int .i64 v3, .int .i64 v4, .int .i64 v5])], 64⟩ ∧ i_DivSqrt2_j1 v1 v2 v3 v4 v5 = some r) hN ?_ ?_
 ·intro K hK; obtain ⟨x1, h1, h⟩ := bO_inv h; simp only [EV, seval]; refine CP (i_IsValidZOmega_ok h1) ?_; obtain ⟨x2, hv1, h⟩ := bO_inv h; rcases br_inv hv1 with ⟨hc1, hv1⟩ | ⟨hc1, hv1⟩
  ·cases hv1; obtain ⟨x6, hv5, h⟩ := bO_inv h; replace hv5 := br_t hv5; cases hv5; (try dsimp only at h); obtain ⟨x7, hv6, h⟩ := bO_inv h; replace hv6 := br_t hv6; cases hv6; (try dsimp only at h); obtain ⟨x8, hv7, h⟩ := bO_inv h; replace hv7 := br_t hv7; cases hv7; (try dsimp only at h); simp only [EV, seval, hc1]; refine hK _ _ _ (show cutK _ _ _ from cutL ⟨_, _, _, _, _, rfl, h⟩ (Le_can [(32, some 80), (33, some 1424)] [] hρ (by kernel_rfl) ?_ ?_))
   ·simp only [AL, EV, seval, hc1]
   ·simp only [AL, EV, seval, hc1]
  ·cases hv1; obtain ⟨x9, hv8, h⟩ := bO_inv h; rcases br_inv hv8 with ⟨hc5, hv8⟩ | ⟨hc5, hv8⟩
   ·cases hv8; obtain ⟨x12, hv11, h⟩ := bO_inv h; replace hv11 := br_t hv11; cases hv11; (try dsimp only at h); obtain ⟨x13, hv12, h⟩ := bO_inv h; replace hv12 := br_t hv12; cases hv12; (try dsimp only at h); simp only [EV, seval, hc1, hc5]; refine hK _ _ _ (show cutK _ _ _ from cutL ⟨_, _, _, _, _, rfl, h⟩ (Le_can [(32, some 80), (33, some 1424)] [] hρ (by kernel_rfl) ?_ ?_))
    ·simp only [AL, EV, seval, hc1, hc5]
    ·simp only [AL, EV, seval, hc1, hc5]
   ·cases hv8; obtain ⟨x14, hv13, h⟩ := bO_inv h; rcases br_inv hv13 with ⟨hc8, hv13⟩ | ⟨hc8, hv13⟩
    ·cases hv13; obtain ⟨x16, hv15, h⟩ := bO_inv h; replace hv15 := br_t hv15; cases hv15; (try dsimp only at h); simp only [EV, seval, hc1, hc5, hc8]; refine hK _ _ _ (show cutK _ _ _ from cutL ⟨_, _, _, _, _, rfl, h⟩ (Le_can [(32, some 80), (33, some 1424)] [] hρ (by kernel_rfl) ?_ ?_))
     ·simp only [AL, EV, seval, hc1, hc5, hc8]
     ·simp only [AL, EV, seval, hc1, hc5, hc8]
    ·cases hv13; obtain ⟨x17, hv16, h⟩ := bO_inv h; rcases br_inv hv16 with ⟨hc10, hv16⟩ | ⟨hc10, hv16⟩
     ·cases hv16; simp only [EV, seval, hc1, hc5, hc8, hc10]; refine hK _ _ _ (show cutK _ _ _ from cutL ⟨_, _, _, _, _, rfl, h⟩ (Le_can [(32, some 80), (33, some 1424)] [] hρ (by kernel_rfl) ?_ ?_))
      ·simp only [AL, EV, seval, hc1, hc5, hc8, hc10]
      ·simp only [AL, EV, seval, hc1, hc5, hc8, hc10]
     ·cases hv16; simp only [EV, seval, hc1, hc5, hc8, hc10]; refine hK _ _ _ (show cutK _ _ _ from cutL ⟨_, _, _, _, _, rfl, h⟩ (Le_can [(32, some 80), (33, some 1424)] [] hρ (by kernel_rfl) ?_ ?_))
      ·simp only [AL, EV, seval, hc1, hc5, hc8, hc10]
      ·simp only [AL, EV, seval, hc1, hc5, hc8, hc10]
 ·rintro S ⟨v1, v2, v3, v4, v5, rfl, h⟩; unfold i_DivSqrt2_j1 at h; refine AB h (fun hc11 h => ?_) fun hc11 h => ?_
  ·refine AN hN ?_; injection h with h; subst h; exact AX (b' := 64) [(2, .ptr 32 0), (3, .bool false)] [(32, .box 75 [.int .i64 0, .int .i64 0, .int .i64 0, .int .i64 0])] [(32, some 32)] [] hρ (EQ [])
  ·refine AW_skip (AK ?_); refine AN hN ?_; injection h with h; subst h; exact AX (b' := 64) [(2, .ptr 32 0), (3, .bool true)] [(32, .box 75 [.int .i64 (IntKind.wrap .i64 (Int.tdiv v2 2)), .int .i64 (IntKind.wrap .i64 (Int.tdiv v3 2)), .int .i64 (IntKind.wrap .i64 (Int.tdiv v4 2)), .int .i64 (IntKind.wrap .i64 (Int.tdiv v5 2))])] [(32, some 32)] [] hρ (EQ [])
/- spec.DivSqrt2 -/
def s_DivSqrt2_j1 (v1 : Bool) (v2 v3 v4 v5 : Int) : Option (Int × Int × Int × Int × Bool) :=
  br v1 (some (0, 0, 0, 0, false)) (some (IntKind.wrap .i64 (Int.tdiv v2 2), IntKind.wrap .i64 (Int.tdiv v3 2), IntKind.wrap .i64 (Int.tdiv v4 2), IntKind.wrap .i64 (Int.tdiv v5 2), true))
def s_DivSqrt2 (a1 a2 a3 a4 : Int) : Option (Int × Int × Int × Int × Bool) :=
  bO (s_IsValidZOmega a1 a2 a3 a4) fun x1 => br (!x1) (some (0, 0, 0, 0, false)) (bO (br ((Int.tmod (IntKind.wrap .i64 (a2 - a4)) 2) != 0) (some true) (some ((Int.tmod (IntKind.wrap .i64 (a1 + a3)) 2) != 0))) fun x2 => bO (br x2 (some true) (some ((Int.tmod (IntKind.wrap .i64 (a2 + a4)) 2) != 0))) fun x3 => bO (br x3 (some true) (some ((Int.tmod (IntKind.wrap .i64 (a3 - a1)) 2) != 0))) fun x4 => s_DivSqrt2_j1 x4 (IntKind.wrap .i64 (a2 - a4)) (IntKind.wrap .i64 (a1 + a3)) (IntKind.wrap .i64 (a2 + a4)) (IntKind.wrap .i64 (a3 - a1)))
theorem s_DivSqrt2_ok {a1 a2 a3 a4 : Int} {r : Int × Int × Int × Int × Bool} (h : s_DivSqrt2 a1 a2 a3 a4 = some r) :
    Spec Try.prog 184 [.agg [.int .i64 a1, .int .i64 a2, .int .i64 a3, .int .i64 a4]] [] (.tup [.agg [.int .i64 r.1, .int .i64 r.2.1, .int .i64 r.2.2.1, .int .i64 r.2.2.2.1], .bool r.2.2.2.2]) [] := by
 unfold s_DivSqrt2 at h; refine SO Try.func184 rfl Try.ntmps184 fun C hN hρ => ?_; simp only [st0, tmps0, Nat.zero_add, Nat.reduceAdd]; refine AN hN ?_; refine AW_seq ?_; obtain ⟨x1, h1, h⟩ := bO_inv h; refine AP hN (s_IsValidZOmega_ok h1) ?_; refine AB h (fun hc1 h => ?_) fun hc1 h => ?_
 ·refine AN hN ?_; injection h with h; subst h; exact AX (b' := 64) [(2, .ptr 32 0), (3, .bool false)] [(32, .box 75 [.int .i64 0, .int .i64 0, .int .i64 0, .int .i64 0])] [(32, some 80)] [] hρ (EQ [])
 ·refine AW_skip (AK ?_); refine AN hN ?_; refine AW_seq ?_; refine AJ (fun S => ∃ (v1 : Bool) (v2 v3 v4 v5 : Int), S = ⟨mkT [(2, .ptr 32 0), (4, .ptr 33 0), (51, .bool v1)], mkR [(32, .box 75 [.int .i64 0, .int .i64 0, .int .i64 0, .int .i64 0]), (33, .box 75 [.int .i64 v2, .int .i64 v3, .int .i64 v4, .int .i64 v5])], 64⟩ ∧ s_DivSqrt2_j1 v1 v2 v3 v4 v5 = some r) hN ?_ ?_
  ·intro K hK; obtain ⟨x2, hv1, h⟩ := bO_inv h; rcases br_inv hv1 with ⟨hc2, hv1⟩ | ⟨hc2, hv1⟩
   ·cases hv1; obtain ⟨x5, hv4, h⟩ := bO_inv h; replace hv4 := br_t hv4; cases hv4; (try dsimp only at h); obtain ⟨x6, hv5, h⟩ := bO_inv h; replace hv5 := br_t hv5; cases hv5; (try dsimp only at h); simp only [EV, seval, hc2]; refine hK _ _ _ (show cutK _ _ _ from cutL ⟨_, _, _, _, _, rfl, h⟩ (Le_can [(32, some 80), (33, some 2448)] [] hρ (by kernel_rfl) ?_ ?_))
    ·simp only [AL, EV, seval, hc2]
    ·simp only [AL, EV, seval, hc2]
   ·cases hv1; obtain ⟨x7, hv6, h⟩ := bO_inv h; rcases br_inv hv6 with ⟨hc5, hv6⟩ | ⟨hc5, hv6⟩
    ·cases hv6; obtain ⟨x9, hv8, h⟩ := bO_inv h; replace hv8 := br_t hv8; cases hv8; (try dsimp only at h); simp only [EV, seval, hc2, hc5]; refine hK _ _ _ (show cutK _ _ _ from cutL ⟨_, _, _, _, _, rfl, h⟩ (Le_can [(32, some 80), (33, some 2448)] [] hρ (by kernel_rfl) ?_ ?_))
     ·simp only [AL, EV, seval, hc2, hc5]
     ·simp only [AL, EV, seval, hc2, hc5]
    ·cases hv6; obtain ⟨x10, hv9, h⟩ := bO_inv h; rcases br_inv hv9 with ⟨hc7, hv9⟩ | ⟨hc7, hv9⟩
     ·cases hv9; simp only [EV, seval, hc2, hc5, hc7]; refine hK _ _ _ (show cutK _ _ _ from cutL ⟨_, _, _, _, _, rfl, h⟩ (Le_can [(32, some 80), (33, some 2448)] [] hρ (by kernel_rfl) ?_ ?_))
      ·simp only [AL, EV, seval, hc2, hc5, hc7]
      ·simp only [AL, EV, seval, hc2, hc5, hc7]
     ·cases hv9; simp only [EV, seval, hc2, hc5, hc7]; refine hK _ _ _ (show cutK _ _ _ from cutL ⟨_, _, _, _, _, rfl, h⟩ (Le_can [(32, some 80), (33, some 2448)] [] hρ (by kernel_rfl) ?_ ?_))
      ·simp only [AL, EV, seval, hc2, hc5, hc7]
      ·simp only [AL, EV, seval, hc2, hc5, hc7]
  ·rintro S ⟨v1, v2, v3, v4, v5, rfl, h⟩; unfold s_DivSqrt2_j1 at h; refine AB h (fun hc8 h => ?_) fun hc8 h => ?_
   ·refine AN hN ?_; injection h with h; subst h; exact AX (b' := 64) [(2, .ptr 32 0), (3, .bool false)] [(32, .box 75 [.int .i64 0, .int .i64 0, .int .i64 0, .int .i64 0])] [(32, some 32)] [] hρ (EQ [])
   ·refine AW_skip (AK ?_); refine AN hN ?_; injection h with h; subst h; exact AX (b' := 64) [(2, .ptr 32 0), (3, .bool true)] [(32, .box 75 [.int .i64 (IntKind.wrap .i64 (Int.tdiv v2 2)), .int .i64 (IntKind.wrap .i64 (Int.tdiv v3 2)), .int .i64 (IntKind.wrap .i64 (Int.tdiv v4 2)), .int .i64 (IntKind.wrap .i64 (Int.tdiv v5 2))])] [(32, some 32)] [] hρ (EQ [])
/- impl.IsValidDOmega -/
def i_IsValidDOmega_j1 (v1 : Bool) : Option Bool :=
  some v1
def i_IsValidDOmega (a1 a2 a3 a4 a5 : Int) : Option Bool :=
  bO (i_DivSqrt2 a1 a2 a3 a4) fun x1 => bO (i_IsValidZOmega a1 a2 a3 a4) fun x2 => bO (br x2 (bO (i_in a5 0 60) fun x3 => some x3) (some false)) fun x4 => bO (br x4 (bO (br (a5 == 0) (some true) (some (!x1.2.2.2.2))) fun x5 => some x5) (some false)) fun x6 => i_IsValidDOmega_j1 x6
theorem i_IsValidDOmega_ok {a1 a2 a3 a4 a5 : Int} {r : Bool} (h : i_IsValidDOmega a1 a2 a3 a4 a5 = some r) :
    Spec Try.prog 151 [.agg [.int .i64 a1, .int .i64 a2, .int .i64 a3, .int .i64 a4, .int .i64 a5]] [] (.bool r) [] := by
 unfold i_IsValidDOmega at h; refine SO Try.func151 rfl Try.ntmps151 fun C hN hρ => ?_; simp only [st0, tmps0, Nat.zero_add, Nat.reduceAdd]; refine AN hN ?_; obtain ⟨x1, h1, h⟩ := bO_inv h; refine AP hN (i_DivSqrt2_ok h1) ?_; refine AJ (fun S => ∃ (v1 : Bool), S = ⟨mkT [(2, .bool v1)], mkR [], 64⟩ ∧ i_IsValidDOmega_j1 v1 = some r) hN ?_ ?_
 ·intro K hK; obtain ⟨x2, h2, h⟩ := bO_inv h; simp only [EV, seval]; refine CP (i_IsValidZOmega_ok h2) ?_; obtain ⟨x4, hv1, h⟩ := bO_inv h; rcases br_inv hv1 with ⟨hc1, hv1⟩ | ⟨hc1, hv1⟩
  ·obtain ⟨x7, h4, hv1⟩ := bO_inv hv1; simp only [EV, seval, hc1]; refine rC_p (i_in_ok h4) (by simp only [AL, EV, seval, hc1]) (le_d rfl) (no_j rfl) ?_; cases hv1; obtain ⟨x9, hv4, h⟩ := bO_inv h; rcases br_inv hv4 with ⟨hc4, hv4⟩ | ⟨hc4, hv4⟩
   ·obtain ⟨x10, hv6, hv4⟩ := bO_inv hv4; rcases br_inv hv6 with ⟨hc6, hv6⟩ | ⟨hc6, hv6⟩
    ·cases hv6; cases hv4; simp only [EV, seval, hc1, hc4, hc6]; refine hK _ _ _ (show cutK _ _ _ from cutL ⟨_, rfl, h⟩ (Le_can [] [] hρ (by kernel_rfl) ?_ ?_))
     ·simp only [AL, EV, seval, hc1, hc4, hc6]
     ·simp only [AL, EV, seval, hc1, hc4, hc6]
    ·cases hv6; cases hv4; simp only [EV, seval, hc1, hc4, hc6]; refine hK _ _ _ (show cutK _ _ _ from cutL ⟨_, rfl, h⟩ (Le_can [] [] hρ (by kernel_rfl) ?_ ?_))
     ·simp only [AL, EV, seval, hc1, hc4, hc6]
     ·simp only [AL, EV, seval, hc1, hc4, hc6]
   ·cases hv4; simp only [EV, seval, hc1, hc4]; refine hK _ _ _ (show cutK _ _ _ from cutL ⟨_, rfl, h⟩ (Le_can [] [] hρ (by kernel_rfl) ?_ ?_))
    ·simp only [AL, EV, seval, hc1, hc4]
    ·simp only [AL, EV, seval, hc1, hc4]
  ·cases hv1; obtain ⟨x11, hv7, h⟩ := bO_inv h; replace hv7 := br_f hv7; cases hv7; (try dsimp only at h); simp only [EV, seval, hc1]; refine hK _ _ _ (show cutK _ _ _ from cutL ⟨_, rfl, h⟩ (Le_can [] [] hρ (by kernel_rfl) ?_ ?_))
   ·simp only [AL, EV, seval, hc1]
   ·simp only [AL, EV, seval, hc1]
 ·rintro S ⟨v1, rfl, h⟩; unfold i_IsValidDOmega_j1 at h; injection h with h; subst h; exact AX (b' := 64) [(2, .bool v1)] [] [] [] hρ (EQ [])
/- spec.IsValidDOmega -/
def s_IsValidDOmega_j1 (v1 : Bool) : Option Bool :=
  some v1
def s_IsValidDOmega (a1 a2 a3 a4 a5 : Int) : Option Bool :=
  bO (s_DivSqrt2 a1 a2 a3 a4) fun x1 => bO (s_IsValidZOmega a1 a2 a3 a4) fun x2 => bO (br x2 (bO (s_l1In a5 0 60) fun x3 => some x3) (some false)) fun x4 => bO (br x4 (bO (br (!x1.2.2.2.2) (some true) (some (a5 == 0))) fun x5 => some x5) (some false)) fun x6 => s_IsValidDOmega_j1 x6
theorem s_IsValidDOmega_ok {a1 a2 a3 a4 a5 : Int} {r : Bool} (h : s_IsValidDOmega a1 a2 a3 a4 a5 = some r) :
    Spec Try.prog 148 [.agg [.int .i64 a1, .int .i64 a2, .int .i64 a3, .int .i64 a4, .int .i64 a5]] [] (.bool r) [] := by
 unfold s_IsValidDOmega at h; refine SO Try.func148 rfl Try.ntmps148 fun C hN hρ => ?_; simp only [st0, tmps0, Nat.zero_add, Nat.reduceAdd]; refine AN hN ?_; obtain ⟨x1, h1, h⟩ := bO_inv h; refine AP hN (s_DivSqrt2_ok h1) ?_; refine AJ (fun S => ∃ (v1 : Bool), S = ⟨mkT [(2, .bool v1)], mkR [], 64⟩ ∧ s_IsValidDOmega_j1 v1 = some r) hN ?_ ?_
 ·intro K hK; obtain ⟨x2, h2, h⟩ := bO_inv h; simp only [EV, seval]; refine CP (s_IsValidZOmega_ok h2) ?_; obtain ⟨x4, hv1, h⟩ := bO_inv h; rcases br_inv hv1 with ⟨hc1, hv1⟩ | ⟨hc1, hv1⟩
  ·obtain ⟨x7, h4, hv1⟩ := bO_inv hv1; simp only [EV, seval, hc1]; refine rC_p (s_l1In_ok h4) (by simp only [AL, EV, seval, hc1]) (le_d rfl) (no_j rfl) ?_; cases hv1; obtain ⟨x9, hv4, h⟩ := bO_inv h; rcases br_inv hv4 with ⟨hc4, hv4⟩ | ⟨hc4, hv4⟩
   ·obtain ⟨x10, hv6, hv4⟩ := bO_inv hv4; rcases br_inv hv6 with ⟨hc6, hv6⟩ | ⟨hc6, hv6⟩
    ·cases hv6; cases hv4; simp only [EV, seval, hc1, hc4, hc6]; refine hK _ _ _ (show cutK _ _ _ from cutL ⟨_, rfl, h⟩ (Le_can [] [] hρ (by kernel_rfl) ?_ ?_))
     ·simp only [AL, EV, seval, hc1, hc4, hc6]
     ·simp only [AL, EV, seval, hc1, hc4, hc6]
    ·cases hv6; cases hv4; simp only [EV, seval, hc1, hc4, hc6]; refine hK _ _ _ (show cutK _ _ _ from cutL ⟨_, rfl, h⟩ (Le_can [] [] hρ (by kernel_rfl) ?_ ?_))
     ·simp only [AL, EV, seval, hc1, hc4, hc6]
     ·simp only [AL, EV, seval, hc1, hc4, hc6]
   ·cases hv4; simp only [EV, seval, hc1, hc4]; refine hK _ _ _ (show cutK _ _ _ from cutL ⟨_, rfl, h⟩ (Le_can [] [] hρ (by kernel_rfl) ?_ ?_))
    ·simp only [AL, EV, seval, hc1, hc4]
    ·simp only [AL, EV, seval, hc1, hc4]
  ·cases hv1; obtain ⟨x11, hv7, h⟩ := bO_inv h; replace hv7 := br_f hv7; cases hv7; (try dsimp only at h); simp only [EV, seval, hc1]; refine hK _ _ _ (show cutK _ _ _ from cutL ⟨_, rfl, h⟩ (Le_can [] [] hρ (by kernel_rfl) ?_ ?_))
   ·simp only [AL, EV, seval, hc1]
   ·simp only [AL, EV, seval, hc1]
 ·rintro S ⟨v1, rfl, h⟩; unfold s_IsValidDOmega_j1 at h; injection h with h; subst h; exact AX (b' := 64) [(2, .bool v1)] [] [] [] hρ (EQ [])
/- impl.NewDOmega -/
def i_NewDOmega_j2 (v12 v13 v14 v15 v16 : Int) : Option (Int × Int × Int × Int × Int × Bool) :=
  br (decide (60 < v12)) (some (0, 0, 0, 0, 0, false)) (some (v13, v14, v15, v16, v12, true))
def i_NewDOmega_l1 : Nat → Int → Int → Int → Int → Int → Option (Int × Int × Int × Int × Int × Bool)
  | 0, _, _, _, _, _ => none
  | n1 + 1, v7, v8, v9, v10, v11 =>
  br (decide (0 < v7)) (bO (i_DivSqrt2 v8 v9 v10 v11) fun x7 => br (!x7.2.2.2.2) (i_NewDOmega_j2 v7 v8 v9 v10 v11) ((i_NewDOmega_l1 n1) (IntKind.wrap .i64 (v7 - 1)) x7.1 x7.2.1 x7.2.2.1 x7.2.2.2.1)) (i_NewDOmega_j2 v7 v8 v9 v10 v11)
def i_NewDOmega_j1 (a1 a2 a3 a4 a5 : Int) (v1 : Bool) : Option (Int × Int × Int × Int × Int × Bool) :=
  br v1 (some (0, 0, 0, 0, 0, false)) (i_NewDOmega_l1 FU a5 a1 a2 a3 a4)
def i_NewDOmega (a1 a2 a3 a4 a5 : Int) : Option (Int × Int × Int × Int × Int × Bool) :=
  bO (i_IsValidZOmega a1 a2 a3 a4) fun x1 => bO (br (!x1) (some true) (bO (i_in a5 0 120) fun x2 => some (!x2))) fun x3 => i_NewDOmega_j1 a1 a2 a3 a4 a5 x3
theorem i_NewDOmega_ok {a1 a2 a3 a4 a5 : Int} {r : Int × Int × Int × Int × Int × Bool} (h : i_NewDOmega a1 a2 a3 a4 a5 = some r) :
    Spec Try.prog 153 [.agg [.int .i64 a1, .int .i64 a2, .int .i64 a3, .int .i64 a4], .int .i64 a5] [] (.tup [.agg [.int .i64 r.1, .int .i64 r.2.1, .int .i64 r.2.2.1, .int .i64 r.2.2.2.1, .int .i64 r.2.2.2.2.1], .bool r.2.2.2.2.2]) [] := by
 unfold i_NewDOmega at h; refine SO Try.func153 rfl Try.ntmps153 fun C hN hρ => ?_; simp only [st0, tmps0, Nat.zero_add, Nat.reduceAdd]; refine AN hN ?_; refine AW_seq ?_; refine AJ (fun S => ∃ (v1 : Bool), S = ⟨mkT [(1, .int .i64 a5), (2, .ptr 32 0), (4, .ptr 33 0), (15, .bool v1)], mkR [(32, .box 75 [.int .i64 a1, .int .i64 a2, .int .i64 a3, .int .i64 a4]), (33, .box 77 [.int .i64 0, .int .i64 0, .int .i64 0, .int .i64 0, .int .i64 0])], 64⟩ ∧ i_NewDOmega_j1 a1 a2 a3 a4 a5 v1 = some r) hN ?_ ?_
 ·intro K hK; obtain ⟨x1, h1, h⟩ := bO_inv h; simp only [EV, seval]; refine CP (i_IsValidZOmega_ok h1) ?_; obtain ⟨x3, hv1, h⟩ := bO_inv h; rcases br_inv hv1 with ⟨hc1, hv1⟩ | ⟨hc1, hv1⟩
  ·cases hv1; simp only [EV, seval, hc1]; refine hK _ _ _ (show cutK _ _ _ from cutL ⟨_, rfl, h⟩ (Le_can [(32, some 64), (33, some 80)] [] hρ (by kernel_rfl) ?_ ?_))
   ·simp only [AL, EV, seval, hc1]
   ·simp only [AL, EV, seval, hc1]
  ·obtain ⟨x4, h3, hv1⟩ := bO_inv hv1; simp only [EV, seval, hc1]; refine rC_p (i_in_ok h3) (by simp only [AL, EV, seval, hc1]) (le_d rfl) (no_j rfl) ?_; cases hv1; simp only [EV, seval, hc1]; refine hK _ _ _ (show cutK _ _ _ from cutL ⟨_, rfl, h⟩ (Le_can [(32, some 64), (33, some 80)] [] hρ (by kernel_rfl) ?_ ?_))
   ·simp only [AL, EV, seval, hc1]
   ·simp only [AL, EV, seval, hc1]
 ·rintro S ⟨v1, rfl, h⟩; unfold i_NewDOmega_j1 at h; refine AB h (fun hc2 h => ?_) fun hc2 h => ?_
  ·refine AN hN ?_; injection h with h; subst h; exact AX (b' := 64) [(4, .ptr 32 0), (5, .bool false)] [(32, .box 77 [.int .i64 0, .int .i64 0, .int .i64 0, .int .i64 0, .int .i64 0])] [(32, some 33)] [] hρ (EQ [])
  ·refine AW_skip (AK ?_); refine AW_cutK (fun S => ∃ (v12 v13 v14 v15 v16 : Int), S = ⟨mkT [(1, .int .i64 v12), (2, .ptr 32 0), (4, .ptr 33 0)], mkR [(32, .box 75 [.int .i64 v13, .int .i64 v14, .int .i64 v15, .int .i64 v16]), (33, .box 77 [.int .i64 0, .int .i64 0, .int .i64 0, .int .i64 0, .int .i64 0])], 64⟩ ∧ i_NewDOmega_j2 v12 v13 v14 v15 v16 = some r) ?_ ?_
   ·refine AW_block ?_; refine AW_loopF (fun n S => ∃ (v7 v8 v9 v10 v11 : Int), S = ⟨mkT [(1, .int .i64 v7), (2, .ptr 32 0), (4, .ptr 33 0)], mkR [(32, .box 75 [.int .i64 v8, .int .i64 v9, .int .i64 v10, .int .i64 v11]), (33, .box 77 [.int .i64 0, .int .i64 0, .int .i64 0, .int .i64 0, .int .i64 0])], 64⟩ ∧ i_NewDOmega_l1 n v7 v8 v9 v10 v11 = some r) FU ?_ ?_ ?_
    ·exact AC ⟨_, _, _, _, _, rfl, h⟩ [(32, some 32), (33, some 33)] [] hρ
    ·rintro S ⟨_, _, _, _, _, _, h⟩; rw [i_NewDOmega_l1] at h; cases h
    ·rintro n1 S ⟨v7, v8, v9, v10, v11, rfl, h⟩; rw [i_NewDOmega_l1] at h; refine AW_seq ?_; refine AN hN ?_; refine AB h (fun hc7 h => ?_) fun hc7 h => ?_
     ·refine AW_skip (AK ?_); refine AW_block ?_; obtain ⟨x7, h6, h⟩ := bO_inv h; refine AP hN (i_DivSqrt2_ok h6) ?_; refine AW_seq ?_; refine AN hN ?_; refine AB h (fun hc8 h => ?_) fun hc8 h => ?_
      ·exact AW_exit (AC ⟨_, _, _, _, _, rfl, h⟩ [(32, some 32), (33, some 33)] [] hρ)
      ·refine AW_skip (AK ?_); refine AN hN ?_; refine AS hN fun K hK => ?_; simp only [EV, seval]; exact hK _ _ _ (AC ⟨_, _, _, _, _, rfl, h⟩ [(32, some 32), (33, some 33)] [] hρ)
     ·exact AW_exit (AC ⟨_, _, _, _, _, rfl, h⟩ [(32, some 32), (33, some 33)] [] hρ)
   ·rintro S ⟨v12, v13, v14, v15, v16, rfl, h⟩; unfold i_NewDOmega_j2 at h; refine AW_seq ?_; refine AN hN ?_; refine AB h (fun hc9 h => ?_) fun hc9 h => ?_
    ·refine AN hN ?_; injection h with h; subst h; exact AX (b' := 64) [(4, .ptr 32 0), (5, .bool false)] [(32, .box 77 [.int .i64 0, .int .i64 0, .int .i64 0, .int .i64 0, .int .i64 0])] [(32, some 33)] [] hρ (EQ [])
    ·refine AW_skip (AK ?_); refine AN hN ?_; injection h with h; subst h; exact AX (b' := 64) [(4, .ptr 32 0), (5, .bool true)] [(32, .box 77 [.int .i64 v13, .int .i64 v14, .int .i64 v15, .int .i64 v16, .int .i64 v12])] [(32, some 33)] [] hρ (EQ [])
/- spec.NewDOmega -/
def s_NewDOmega_j2 (v12 v13 v14 v15 v16 : Int) : Option (Int × Int × Int × Int × Int × Bool) :=
  br (decide (60 < v12)) (some (0, 0, 0, 0, 0, false)) (some (v13, v14, v15, v16, v12, true))
def s_NewDOmega_l1 : Nat → Int → Int → Int → Int → Int → Option (Int × Int × Int × Int × Int × Bool)
  | 0, _, _, _, _, _ => none
  | n1 + 1, v7, v8, v9, v10, v11 =>
  br (decide (0 < v7)) (bO (s_DivSqrt2 v8 v9 v10 v11) fun x7 => br (!x7.2.2.2.2) (s_NewDOmega_j2 v7 v8 v9 v10 v11) ((s_NewDOmega_l1 n1) (IntKind.wrap .i64 (v7 - 1)) x7.1 x7.2.1 x7.2.2.1 x7.2.2.2.1)) (s_NewDOmega_j2 v7 v8 v9 v10 v11)
def s_NewDOmega_j1 (a1 a2 a3 a4 a5 : Int) (v1 : Bool) : Option (Int × Int × Int × Int × Int × Bool) :=
  br v1 (some (0, 0, 0, 0, 0, false)) (s_NewDOmega_l1 FU a5 a1 a2 a3 a4)
def s_NewDOmega (a1 a2 a3 a4 a5 : Int) : Option (Int × Int × Int × Int × Int × Bool) :=
  bO (s_IsValidZOmega a1 a2 a3 a4) fun x1 => bO (br (!x1) (some true) (bO (s_l1In a5 0 120) fun x2 => some (!x2))) fun x3 => s_NewDOmega_j1 a1 a2 a3 a4 a5 x3
theorem s_NewDOmega_ok {a1 a2 a3 a4 a5 : Int} {r : Int × Int × Int × Int × Int × Bool} (h : s_NewDOmega a1 a2 a3 a4 a5 = some r) :
    Spec Try.prog 149 [.agg [.int .i64 a1, .int .i64 a2, .int .i64 a3, .int .i64 a4], .int .i64 a5] [] (.tup [.agg [.int .i64 r.1, .int .i64 r.2.1, .int .i64 r.2.2.1, .int .i64 r.2.2.2.1, .int .i64 r.2.2.2.2.1], .bool r.2.2.2.2.2]) [] := by
 unfold s_NewDOmega at h; refine SO Try.func149 rfl Try.ntmps149 fun C hN hρ => ?_; simp only [st0, tmps0, Nat.zero_add, Nat.reduceAdd]; refine AN hN ?_; refine AW_seq ?_; refine AJ (fun S => ∃ (v1 : Bool), S = ⟨mkT [(1, .int .i64 a5), (2, .ptr 32 0), (4, .ptr 33 0), (15, .bool v1)], mkR [(32, .box 75 [.int .i64 a1, .int .i64 a2, .int .i64 a3, .int .i64 a4]), (33, .box 77 [.int .i64 0, .int .i64 0, .int .i64 0, .int .i64 0, .int .i64 0])], 64⟩ ∧ s_NewDOmega_j1 a1 a2 a3 a4 a5 v1 = some r) hN ?_ ?_
 ·intro K hK; obtain ⟨x1, h1, h⟩ := bO_inv h; simp only [EV, seval]; refine CP (s_IsValidZOmega_ok h1) ?_; obtain ⟨x3, hv1, h⟩ := bO_inv h; rcases br_inv hv1 with ⟨hc1, hv1⟩ | ⟨hc1, hv1⟩
  ·cases hv1; simp only [EV, seval, hc1]; refine hK _ _ _ (show cutK _ _ _ from cutL ⟨_, rfl, h⟩ (Le_can [(32, some 64), (33, some 80)] [] hρ (by kernel_rfl) ?_ ?_))
   ·simp only [AL, EV, seval, hc1]
   ·simp only [AL, EV, seval, hc1]
  ·obtain ⟨x4, h3, hv1⟩ := bO_inv hv1; simp only [EV, seval, hc1]; refine rC_p (s_l1In_ok h3) (by simp only [AL, EV, seval, hc1]) (le_d rfl) (no_j rfl) ?_; cases hv1; simp only [EV, seval, hc1]; refine hK _ _ _ (show cutK _ _ _ from cutL ⟨_, rfl, h⟩ (Le_can [(32, some 64), (33, some 80)] [] hρ (by kernel_rfl) ?_ ?_))
   ·simp only [AL, EV, seval, hc1]
   ·simp only [AL, EV, seval, hc1]
 ·rintro S ⟨v1, rfl, h⟩; unfold s_NewDOmega_j1 at h; refine AB h (fun hc2 h => ?_) fun hc2 h => ?_
  ·refine AN hN ?_; injection h with h; subst h; exact AX (b' := 64) [(4, .ptr 32 0), (5, .bool false)] [(32, .box 77 [.int .i64 0, .int .i64 0, .int .i64 0, .int .i64 0, .int .i64 0])] [(32, some 33)] [] hρ (EQ [])
  ·refine AW_skip (AK ?_); refine AW_cutK (fun S => ∃ (v12 v13 v14 v15 v16 : Int), S = ⟨mkT [(1, .int .i64 v12), (2, .ptr 32 0), (4, .ptr 33 0)], mkR [(32, .box 75 [.int .i64 v13, .int .i64 v14, .int .i64 v15, .int .i64 v16]), (33, .box 77 [.int .i64 0, .int .i64 0, .int .i64 0, .int .i64 0, .int .i64 0])], 64⟩ ∧ s_NewDOmega_j2 v12 v13 v14 v15 v16 = some r) ?_ ?_
   ·refine AW_block ?_; refine AW_loopF (fun n S => ∃ (v7 v8 v9 v10 v11 : Int), S = ⟨mkT [(1, .int .i64 v7), (2, .ptr 32 0), (4, .ptr 33 0)], mkR [(32, .box 75 [.int .i64 v8, .int .i64 v9, .int .i64 v10, .int .i64 v11]), (33, .box 77 [.int .i64 0, .int .i64 0, .int .i64 0, .int .i64 0, .int .i64 0])], 64⟩ ∧ s_NewDOmega_l1 n v7 v8 v9 v10 v11 = some r) FU ?_ ?_ ?_
    ·exact AC ⟨_, _, _, _, _, rfl, h⟩ [(32, some 32), (33, some 33)] [] hρ
    ·rintro S ⟨_, _, _, _, _, _, h⟩; rw [s_NewDOmega_l1] at h; cases h
    ·rintro n1 S ⟨v7, v8, v9, v10, v11, rfl, h⟩; rw [s_NewDOmega_l1] at h; refine AW_seq ?_; refine AN hN ?_; refine AB h (fun hc7 h => ?_) fun hc7 h => ?_
     ·refine AW_skip (AK ?_); refine AW_block ?_; obtain ⟨x7, h6, h⟩ := bO_inv h; refine AP hN (s_DivSqrt2_ok h6) ?_; refine AW_seq ?_; refine AN hN ?_; refine AB h (fun hc8 h => ?_) fun hc8 h => ?_
      ·exact AW_exit (AC ⟨_, _, _, _, _, rfl, h⟩ [(32, some 32), (33, some 33)] [] hρ)
      ·refine AW_skip (AK ?_); refine AN hN ?_; refine AS hN fun K hK => ?_; simp only [EV, seval]; exact hK _ _ _ (AC ⟨_, _, _, _, _, rfl, h⟩ [(32, some 32), (33, some 33)] [] hρ)
     ·exact AW_exit (AC ⟨_, _, _, _, _, rfl, h⟩ [(32, some 32), (33, some 33)] [] hρ)
   ·rintro S ⟨v12, v13, v14, v15, v16, rfl, h⟩; unfold s_NewDOmega_j2 at h; refine AW_seq ?_; refine AN hN ?_; refine AB h (fun hc9 h => ?_) fun hc9 h => ?_
    ·refine AN hN ?_; injection h with h; subst h; exact AX (b' := 64) [(4, .ptr 32 0), (5, .bool false)] [(32, .box 77 [.int .i64 0, .int .i64 0, .int .i64 0, .int .i64 0, .int .i64 0])] [(32, some 33)] [] hρ (EQ [])
    ·refine AW_skip (AK ?_); refine AN hN ?_; injection h with h; subst h; exact AX (b' := 64) [(4, .ptr 32 0), (5, .bool true)] [(32, .box 77 [.int .i64 v13, .int .i64 v14, .int .i64 v15, .int .i64 v16, .int .i64 v12])] [(32, some 33)] [] hρ (EQ [])
/- impl.checked -/
def i_checked (a1 a2 a3 a4 : Int) : Option (Int × Int × Int × Int × Bool) :=
  bO (i_IsValidZOmega a1 a2 a3 a4) fun x1 => br (!x1) (some (0, 0, 0, 0, false)) (some (a1, a2, a3, a4, true))
theorem i_checked_ok {a1 a2 a3 a4 : Int} {r : Int × Int × Int × Int × Bool} (h : i_checked a1 a2 a3 a4 = some r) :
    Spec Try.prog 187 [.agg [.int .i64 a1, .int .i64 a2, .int .i64 a3, .int .i64 a4]] [] (.tup [.agg [.int .i64 r.1, .int .i64 r.2.1, .int .i64 r.2.2.1, .int .i64 r.2.2.2.1], .bool r.2.2.2.2]) [] := by
 unfold i_checked at h; refine SO Try.func187 rfl Try.ntmps187 fun C hN hρ => ?_; simp only [st0, tmps0, Nat.zero_add, Nat.reduceAdd]; refine AN hN ?_; refine AW_seq ?_; obtain ⟨x1, h1, h⟩ := bO_inv h; refine AP hN (i_IsValidZOmega_ok h1) ?_; refine AB h (fun hc1 h => ?_) fun hc1 h => ?_
 ·refine AN hN ?_; injection h with h; subst h; exact AX (b' := 64) [(2, .ptr 32 0), (3, .bool false)] [(32, .box 75 [.int .i64 0, .int .i64 0, .int .i64 0, .int .i64 0])] [(32, some 80)] [] hρ (EQ [])
 ·refine AW_skip (AK ?_); refine AN hN ?_; injection h with h; subst h; exact AX (b' := 64) [(2, .ptr 32 0), (3, .bool true)] [(32, .box 75 [.int .i64 a1, .int .i64 a2, .int .i64 a3, .int .i64 a4])] [(32, some 80)] [] hρ (EQ [])
/- impl.MulZOmega -/
def i_MulZOmega_j1 (a1 a2 a3 a4 a5 a6 a7 a8 : Int) (v1 : Bool) : Option (Int × Int × Int × Int × Bool) :=
  br v1 (some (0, 0, 0, 0, false)) (bO (i_checked (IntKind.wrap .i64 ((IntKind.wrap .i64 ((IntKind.wrap .i64 ((IntKind.wrap .i64 (a1 * a5)) - (IntKind.wrap .i64 (a2 * a8)))) - (IntKind.wrap .i64 (a3 * a7)))) - (IntKind.wrap .i64 (a4 * a6)))) (IntKind.wrap .i64 ((IntKind.wrap .i64 ((IntKind.wrap .i64 ((IntKind.wrap .i64 (a1 * a6)) + (IntKind.wrap .i64 (a2 * a5)))) - (IntKind.wrap .i64 (a3 * a8)))) - (IntKind.wrap .i64 (a4 * a7)))) (IntKind.wrap .i64 ((IntKind.wrap .i64 ((IntKind.wrap .i64 ((IntKind.wrap .i64 (a1 * a7)) + (IntKind.wrap .i64 (a2 * a6)))) + (IntKind.wrap .i64 (a3 * a5)))) - (IntKind.wrap .i64 (a4 * a8)))) (IntKind.wrap .i64 ((IntKind.wrap .i64 ((IntKind.wrap .i64 ((IntKind.wrap .i64 (a1 * a8)) + (IntKind.wrap .i64 (a2 * a7)))) + (IntKind.wrap .i64 (a3 * a6)))) + (IntKind.wrap .i64 (a4 * a5))))) fun x5 => some (x5.1, x5.2.1, x5.2.2.1, x5.2.2.2.1, x5.2.2.2.2))
def i_MulZOmega (a1 a2 a3 a4 a5 a6 a7 a8 : Int) : Option (Int × Int × Int × Int × Bool) :=
  bO (i_IsValidZOmega a1 a2 a3 a4) fun x1 => bO (br (!x1) (some true) (bO (i_IsValidZOmega a5 a6 a7 a8) fun x2 => some (!x2))) fun x3 => i_MulZOmega_j1 a1 a2 a3 a4 a5 a6 a7 a8 x3
theorem i_MulZOmega_ok {a1 a2 a3 a4 a5 a6 a7 a8 : Int} {r : Int × Int × Int × Int × Bool} (h : i_MulZOmega a1 a2 a3 a4 a5 a6 a7 a8 = some r) :
    Spec Try.prog 152 [.agg [.int .i64 a1, .int .i64 a2, .int .i64 a3, .int .i64 a4], .agg [.int .i64 a5, .int .i64 a6, .int .i64 a7, .int .i64 a8]] [] (.tup [.agg [.int .i64 r.1, .int .i64 r.2.1, .int .i64 r.2.2.1, .int .i64 r.2.2.2.1], .bool r.2.2.2.2]) [] := by
 unfold i_MulZOmega at h; refine SO Try.func152 rfl Try.ntmps152 fun C hN hρ => ?_; simp only [st0, tmps0, Nat.zero_add, Nat.reduceAdd]; refine AN hN ?_; refine AW_seq ?_; refine AJ (fun S => ∃ (v1 : Bool), S = ⟨mkT [(2, .ptr 32 0), (3, .ptr 33 0), (4, .ptr 34 0), (15, .bool v1)], mkR [(32, .box 75 [.int .i64 a1, .int .i64 a2, .int .i64 a3, .int .i64 a4]), (33, .box 75 [.int .i64 a5, .int .i64 a6, .int .i64 a7, .int .i64 a8]), (34, .box 75 [.int .i64 0, .int .i64 0, .int .i64 0, .int .i64 0])], 64⟩ ∧ i_MulZOmega_j1 a1 a2 a3 a4 a5 a6 a7 a8 v1 = some r) hN ?_ ?_
 ·intro K hK; obtain ⟨x1, h1, h⟩ := bO_inv h; simp only [EV, seval]; refine CP (i_IsValidZOmega_ok h1) ?_; obtain ⟨x3, hv1, h⟩ := bO_inv h; rcases br_inv hv1 with ⟨hc1, hv1⟩ | ⟨hc1, hv1⟩
  ·cases hv1; simp only [EV, seval, hc1]; refine hK _ _ _ (show cutK _ _ _ from cutL ⟨_, rfl, h⟩ (Le_can [(32, some 64), (33, some 80), (34, some 96)] [] hρ (by kernel_rfl) ?_ ?_))
   ·simp only [AL, EV, seval, hc1]
   ·simp only [AL, EV, seval, hc1]
  ·obtain ⟨x4, h3, hv1⟩ := bO_inv hv1; simp only [EV, seval, hc1]; refine rC_p (i_IsValidZOmega_ok h3) (by simp only [AL, EV, seval, hc1]) (le_d rfl) (no_j rfl) ?_; cases hv1; simp only [EV, seval, hc1]; refine hK _ _ _ (show cutK _ _ _ from cutL ⟨_, rfl, h⟩ (Le_can [(32, some 64), (33, some 80), (34, some 96)] [] hρ (by kernel_rfl) ?_ ?_))
   ·simp only [AL, EV, seval, hc1]
   ·simp only [AL, EV, seval, hc1]
 ·rintro S ⟨v1, rfl, h⟩; unfold i_MulZOmega_j1 at h; refine AB h (fun hc2 h => ?_) fun hc2 h => ?_
  ·refine AN hN ?_; injection h with h; subst h; exact AX (b' := 64) [(4, .ptr 32 0), (5, .bool false)] [(32, .box 75 [.int .i64 0, .int .i64 0, .int .i64 0, .int .i64 0])] [(32, some 34)] [] hρ (EQ [])
  ·refine AW_skip (AK ?_); obtain ⟨x5, h4, h⟩ := bO_inv h; refine AP hN (i_checked_ok h4) ?_; refine AN hN ?_; injection h with h; subst h; exact AX (b' := 64) [(4, .ptr 32 0), (5, .bool x5.2.2.2.2)] [(32, .box 75 [.int .i64 x5.1, .int .i64 x5.2.1, .int .i64 x5.2.2.1, .int .i64 x5.2.2.2.1])] [(32, some 34)] [] hρ (EQ [])
/- spec.l2If -/
def s_l2If (a1 a2 a3 a4 : Int) : Option (Int × Int × Int × Int × Bool) :=
  bO (s_IsValidZOmega a1 a2 a3 a4) fun x1 => br (!x1) (some (0, 0, 0, 0, false)) (some (a1, a2, a3, a4, true))
theorem s_l2If_ok {a1 a2 a3 a4 : Int} {r : Int × Int × Int × Int × Bool} (h : s_l2If a1 a2 a3 a4 = some r) :
    Spec Try.prog 183 [.agg [.int .i64 a1, .int .i64 a2, .int .i64 a3, .int .i64 a4]] [] (.tup [.agg [.int .i64 r.1, .int .i64 r.2.1, .int .i64 r.2.2.1, .int .i64 r.2.2.2.1], .bool r.2.2.2.2]) [] := by
 unfold s_l2If at h; refine SO Try.func183 rfl Try.ntmps183 fun C hN hρ => ?_; simp only [st0, tmps0, Nat.zero_add, Nat.reduceAdd]; refine AN hN ?_; refine AW_seq ?_; obtain ⟨x1, h1, h⟩ := bO_inv h; refine AP hN (s_IsValidZOmega_ok h1) ?_; refine AB h (fun hc1 h => ?_) fun hc1 h => ?_
 ·refine AN hN ?_; injection h with h; subst h; exact AX (b' := 64) [(2, .ptr 32 0), (3, .bool false)] [(32, .box 75 [.int .i64 0, .int .i64 0, .int .i64 0, .int .i64 0])] [(32, some 80)] [] hρ (EQ [])
 ·refine AW_skip (AK ?_); refine AN hN ?_; injection h with h; subst h; exact AX (b' := 64) [(2, .ptr 32 0), (3, .bool true)] [(32, .box 75 [.int .i64 a1, .int .i64 a2, .int .i64 a3, .int .i64 a4])] [(32, some 80)] [] hρ (EQ [])
/- spec.MulZOmega -/
def s_MulZOmega_j1 (a1 a2 a3 a4 a5 a6 a7 a8 : Int) (v1 : Bool) : Option (Int × Int × Int × Int × Bool) :=
  br v1 (some (0, 0, 0, 0, false)) (bO (s_l2If (IntKind.wrap .i64 ((IntKind.wrap .i64 ((IntKind.wrap .i64 ((IntKind.wrap .i64 (a1 * a5)) - (IntKind.wrap .i64 (a2 * a8)))) - (IntKind.wrap .i64 (a3 * a7)))) - (IntKind.wrap .i64 (a4 * a6)))) (IntKind.wrap .i64 ((IntKind.wrap .i64 ((IntKind.wrap .i64 ((IntKind.wrap .i64 (a1 * a6)) + (IntKind.wrap .i64 (a2 * a5)))) - (IntKind.wrap .i64 (a3 * a8)))) - (IntKind.wrap .i64 (a4 * a7)))) (IntKind.wrap .i64 ((IntKind.wrap .i64 ((IntKind.wrap .i64 ((IntKind.wrap .i64 (a1 * a7)) + (IntKind.wrap .i64 (a2 * a6)))) + (IntKind.wrap .i64 (a3 * a5)))) - (IntKind.wrap .i64 (a4 * a8)))) (IntKind.wrap .i64 ((IntKind.wrap .i64 ((IntKind.wrap .i64 ((IntKind.wrap .i64 (a1 * a8)) + (IntKind.wrap .i64 (a2 * a7)))) + (IntKind.wrap .i64 (a3 * a6)))) + (IntKind.wrap .i64 (a4 * a5))))) fun x5 => some (x5.1, x5.2.1, x5.2.2.1, x5.2.2.2.1, x5.2.2.2.2))
def s_MulZOmega (a1 a2 a3 a4 a5 a6 a7 a8 : Int) : Option (Int × Int × Int × Int × Bool) :=
  bO (s_IsValidZOmega a1 a2 a3 a4) fun x1 => bO (br (!x1) (some true) (bO (s_IsValidZOmega a5 a6 a7 a8) fun x2 => some (!x2))) fun x3 => s_MulZOmega_j1 a1 a2 a3 a4 a5 a6 a7 a8 x3
theorem s_MulZOmega_ok {a1 a2 a3 a4 a5 a6 a7 a8 : Int} {r : Int × Int × Int × Int × Bool} (h : s_MulZOmega a1 a2 a3 a4 a5 a6 a7 a8 = some r) :
    Spec Try.prog 147 [.agg [.int .i64 a1, .int .i64 a2, .int .i64 a3, .int .i64 a4], .agg [.int .i64 a5, .int .i64 a6, .int .i64 a7, .int .i64 a8]] [] (.tup [.agg [.int .i64 r.1, .int .i64 r.2.1, .int .i64 r.2.2.1, .int .i64 r.2.2.2.1], .bool r.2.2.2.2]) [] := by
 unfold s_MulZOmega at h; refine SO Try.func147 rfl Try.ntmps147 fun C hN hρ => ?_; simp only [st0, tmps0, Nat.zero_add, Nat.reduceAdd]; refine AN hN ?_; refine AW_seq ?_; refine AJ (fun S => ∃ (v1 : Bool), S = ⟨mkT [(2, .ptr 32 0), (3, .ptr 33 0), (4, .ptr 34 0), (13, .bool v1)], mkR [(32, .box 75 [.int .i64 a1, .int .i64 a2, .int .i64 a3, .int .i64 a4]), (33, .box 75 [.int .i64 a5, .int .i64 a6, .int .i64 a7, .int .i64 a8]), (34, .box 75 [.int .i64 0, .int .i64 0, .int .i64 0, .int .i64 0])], 64⟩ ∧ s_MulZOmega_j1 a1 a2 a3 a4 a5 a6 a7 a8 v1 = some r) hN ?_ ?_
 ·intro K hK; obtain ⟨x1, h1, h⟩ := bO_inv h; simp only [EV, seval]; refine CP (s_IsValidZOmega_ok h1) ?_; obtain ⟨x3, hv1, h⟩ := bO_inv h; rcases br_inv hv1 with ⟨hc1, hv1⟩ | ⟨hc1, hv1⟩
  ·cases hv1; simp only [EV, seval, hc1]; refine hK _ _ _ (show cutK _ _ _ from cutL ⟨_, rfl, h⟩ (Le_can [(32, some 64), (33, some 80), (34, some 96)] [] hρ (by kernel_rfl) ?_ ?_))
   ·simp only [AL, EV, seval, hc1]
   ·simp only [AL, EV, seval, hc1]
  ·obtain ⟨x4, h3, hv1⟩ := bO_inv hv1; simp only [EV, seval, hc1]; refine rC_p (s_IsValidZOmega_ok h3) (by simp only [AL, EV, seval, hc1]) (le_d rfl) (no_j rfl) ?_; cases hv1; simp only [EV, seval, hc1]; refine hK _ _ _ (show cutK _ _ _ from cutL ⟨_, rfl, h⟩ (Le_can [(32, some 64), (33, some 80), (34, some 96)] [] hρ (by kernel_rfl) ?_ ?_))
   ·simp only [AL, EV, seval, hc1]
   ·simp only [AL, EV, seval, hc1]
 ·rintro S ⟨v1, rfl, h⟩; unfold s_MulZOmega_j1 at h; refine AB h (fun hc2 h => ?_) fun hc2 h => ?_
  ·refine AN hN ?_; injection h with h; subst h; exact AX (b' := 64) [(4, .ptr 32 0), (5, .bool false)] [(32, .box 75 [.int .i64 0, .int .i64 0, .int .i64 0, .int .i64 0])] [(32, some 34)] [] hρ (EQ [])
  ·refine AW_skip (AK ?_); obtain ⟨x5, h4, h⟩ := bO_inv h; refine AP hN (s_l2If_ok h4) ?_; injection h with h; subst h; exact AX (b' := 64) [(4, .ptr 32 0), (5, .bool x5.2.2.2.2)] [(32, .box 75 [.int .i64 x5.1, .int .i64 x5.2.1, .int .i64 x5.2.2.1, .int .i64 x5.2.2.2.1])] [(32, some 34)] [] hρ (EQ [])
/- impl.AddZOmega -/
def i_AddZOmega_j1 (a1 a2 a3 a4 a5 a6 a7 a8 : Int) (v1 : Bool) : Option (Int × Int × Int × Int × Bool) :=
  br v1 (some (0, 0, 0, 0, false)) (bO (i_checked (IntKind.wrap .i64 (a1 + a5)) (IntKind.wrap .i64 (a2 + a6)) (IntKind.wrap .i64 (a3 + a7)) (IntKind.wrap .i64 (a4 + a8))) fun x5 => some (x5.1, x5.2.1, x5.2.2.1, x5.2.2.2.1, x5.2.2.2.2))
def i_AddZOmega (a1 a2 a3 a4 a5 a6 a7 a8 : Int) : Option (Int × Int × Int × Int × Bool) :=
  bO (i_IsValidZOmega a1 a2 a3 a4) fun x1 => bO (br (!x1) (some true) (bO (i_IsValidZOmega a5 a6 a7 a8) fun x2 => some (!x2))) fun x3 => i_AddZOmega_j1 a1 a2 a3 a4 a5 a6 a7 a8 x3
theorem i_AddZOmega_ok {a1 a2 a3 a4 a5 a6 a7 a8 : Int} {r : Int × Int × Int × Int × Bool} (h : i_AddZOmega a1 a2 a3 a4 a5 a6 a7 a8 = some r) :
    Spec Try.prog 205 [.agg [.int .i64 a1, .int .i64 a2, .int .i64 a3, .int .i64 a4], .agg [.int .i64 a5, .int .i64 a6, .int .i64 a7, .int .i64 a8]] [] (.tup [.agg [.int .i64 r.1, .int .i64 r.2.1, .int .i64 r.2.2.1, .int .i64 r.2.2.2.1], .bool r.2.2.2.2]) [] := by
 unfold i_AddZOmega at h; refine SO Try.func205 rfl Try.ntmps205 fun C hN hρ => ?_; simp only [st0, tmps0, Nat.zero_add, Nat.reduceAdd]; refine AN hN ?_; refine AW_seq ?_; refine AJ (fun S => ∃ (v1 : Bool), S = ⟨mkT [(2, .ptr 32 0), (3, .ptr 33 0), (4, .ptr 34 0), (15, .bool v1)], mkR [(32, .box 75 [.int .i64 a1, .int .i64 a2, .int .i64 a3, .int .i64 a4]), (33, .box 75 [.int .i64 a5, .int .i64 a6, .int .i64 a7, .int .i64 a8]), (34, .box 75 [.int .i64 0, .int .i64 0, .int .i64 0, .int .i64 0])], 64⟩ ∧ i_AddZOmega_j1 a1 a2 a3 a4 a5 a6 a7 a8 v1 = some r) hN ?_ ?_
 ·intro K hK; obtain ⟨x1, h1, h⟩ := bO_inv h; simp only [EV, seval]; refine CP (i_IsValidZOmega_ok h1) ?_; obtain ⟨x3, hv1, h⟩ := bO_inv h; rcases br_inv hv1 with ⟨hc1, hv1⟩ | ⟨hc1, hv1⟩
  ·cases hv1; simp only [EV, seval, hc1]; refine hK _ _ _ (show cutK _ _ _ from cutL ⟨_, rfl, h⟩ (Le_can [(32, some 64), (33, some 80), (34, some 96)] [] hρ (by kernel_rfl) ?_ ?_))
   ·simp only [AL, EV, seval, hc1]
   ·simp only [AL, EV, seval, hc1]
  ·obtain ⟨x4, h3, hv1⟩ := bO_inv hv1; simp only [EV, seval, hc1]; refine rC_p (i_IsValidZOmega_ok h3) (by simp only [AL, EV, seval, hc1]) (le_d rfl) (no_j rfl) ?_; cases hv1; simp only [EV, seval, hc1]; refine hK _ _ _ (show cutK _ _ _ from cutL ⟨_, rfl, h⟩ (Le_can [(32, some 64), (33, some 80), (34, some 96)] [] hρ (by kernel_rfl) ?_ ?_))
   ·simp only [AL, EV, seval, hc1]
   ·simp only [AL, EV, seval, hc1]
 ·rintro S ⟨v1, rfl, h⟩; unfold i_AddZOmega_j1 at h; refine AB h (fun hc2 h => ?_) fun hc2 h => ?_
  ·refine AN hN ?_; injection h with h; subst h; exact AX (b' := 64) [(4, .ptr 32 0), (5, .bool false)] [(32, .box 75 [.int .i64 0, .int .i64 0, .int .i64 0, .int .i64 0])] [(32, some 34)] [] hρ (EQ [])
  ·refine AW_skip (AK ?_); obtain ⟨x5, h4, h⟩ := bO_inv h; refine AP hN (i_checked_ok h4) ?_; refine AN hN ?_; injection h with h; subst h; exact AX (b' := 64) [(4, .ptr 32 0), (5, .bool x5.2.2.2.2)] [(32, .box 75 [.int .i64 x5.1, .int .i64 x5.2.1, .int .i64 x5.2.2.1, .int .i64 x5.2.2.2.1])] [(32, some 34)] [] hρ (EQ [])
/- spec.AddZOmega -/
def s_AddZOmega_j1 (a1 a2 a3 a4 a5 a6 a7 a8 : Int) (v1 : Bool) : Option (Int × Int × Int × Int × Bool) :=
  br v1 (some (0, 0, 0, 0, false)) (bO (s_l2If (IntKind.wrap .i64 (a1 + a5)) (IntKind.wrap .i64 (a2 + a6)) (IntKind.wrap .i64 (a3 + a7)) (IntKind.wrap .i64 (a4 + a8))) fun x5 => some (x5.1, x5.2.1, x5.2.2.1, x5.2.2.2.1, x5.2.2.2.2))
def s_AddZOmega (a1 a2 a3 a4 a5 a6 a7 a8 : Int) : Option (Int × Int × Int × Int × Bool) :=
  bO (s_IsValidZOmega a1 a2 a3 a4) fun x1 => bO (br (!x1) (some true) (bO (s_IsValidZOmega a5 a6 a7 a8) fun x2 => some (!x2))) fun x3 => s_AddZOmega_j1 a1 a2 a3 a4 a5 a6 a7 a8 x3
theorem s_AddZOmega_ok {a1 a2 a3 a4 a5 a6 a7 a8 : Int} {r : Int × Int × Int × Int × Bool} (h : s_AddZOmega a1 a2 a3 a4 a5 a6 a7 a8 = some r) :
    Spec Try.prog 158 [.agg [.int .i64 a1, .int .i64 a2, .int .i64 a3, .int .i64 a4], .agg [.int .i64 a5, .int .i64 a6, .int .i64 a7, .int .i64 a8]] [] (.tup [.agg [.int .i64 r.1, .int .i64 r.2.1, .int .i64 r.2.2.1, .int .i64 r.2.2.2.1], .bool r.2.2.2.2]) [] := by
 unfold s_AddZOmega at h; refine SO Try.func158 rfl Try.ntmps158 fun C hN hρ => ?_; simp only [st0, tmps0, Nat.zero_add, Nat.reduceAdd]; refine AN hN ?_; refine AW_seq ?_; refine AJ (fun S => ∃ (v1 : Bool), S = ⟨mkT [(2, .ptr 32 0), (3, .ptr 33 0), (4, .ptr 34 0), (13, .bool v1)], mkR [(32, .box 75 [.int .i64 a1, .int .i64 a2, .int .i64 a3, .int .i64 a4]), (33, .box 75 [.int .i64 a5, .int .i64 a6, .int .i64 a7, .int .i64 a8]), (34, .box 75 [.int .i64 0, .int .i64 0, .int .i64 0, .int .i64 0])], 64⟩ ∧ s_AddZOmega_j1 a1 a2 a3 a4 a5 a6 a7 a8 v1 = some r) hN ?_ ?_
 ·intro K hK; obtain ⟨x1, h1, h⟩ := bO_inv h; simp only [EV, seval]; refine CP (s_IsValidZOmega_ok h1) ?_; obtain ⟨x3, hv1, h⟩ := bO_inv h; rcases br_inv hv1 with ⟨hc1, hv1⟩ | ⟨hc1, hv1⟩
  ·cases hv1; simp only [EV, seval, hc1]; refine hK _ _ _ (show cutK _ _ _ from cutL ⟨_, rfl, h⟩ (Le_can [(32, some 64), (33, some 80), (34, some 96)] [] hρ (by kernel_rfl) ?_ ?_))
   ·simp only [AL, EV, seval, hc1]
   ·simp only [AL, EV, seval, hc1]
  ·obtain ⟨x4, h3, hv1⟩ := bO_inv hv1; simp only [EV, seval, hc1]; refine rC_p (s_IsValidZOmega_ok h3) (by simp only [AL, EV, seval, hc1]) (le_d rfl) (no_j rfl) ?_; cases hv1; simp only [EV, seval, hc1]; refine hK _ _ _ (show cutK _ _ _ from cutL ⟨_, rfl, h⟩ (Le_can [(32, some 64), (33, some 80), (34, some 96)] [] hρ (by kernel_rfl) ?_ ?_))
   ·simp only [AL, EV, seval, hc1]
   ·simp only [AL, EV, seval, hc1]
 ·rintro S ⟨v1, rfl, h⟩; unfold s_AddZOmega_j1 at h; refine AB h (fun hc2 h => ?_) fun hc2 h => ?_
  ·refine AN hN ?_; injection h with h; subst h; exact AX (b' := 64) [(4, .ptr 32 0), (5, .bool false)] [(32, .box 75 [.int .i64 0, .int .i64 0, .int .i64 0, .int .i64 0])] [(32, some 34)] [] hρ (EQ [])
  ·refine AW_skip (AK ?_); obtain ⟨x5, h4, h⟩ := bO_inv h; refine AP hN (s_l2If_ok h4) ?_; injection h with h; subst h; exact AX (b' := 64) [(4, .ptr 32 0), (5, .bool x5.2.2.2.2)] [(32, .box 75 [.int .i64 x5.1, .int .i64 x5.2.1, .int .i64 x5.2.2.1, .int .i64 x5.2.2.2.1])] [(32, some 34)] [] hρ (EQ [])
/- impl.root -/
def i_root : Option (Int × Int × Int × Int) :=
  some (0, 1, 0, -1)
theorem i_root_ok {r : Int × Int × Int × Int} (h : i_root = some r) :
    Spec Try.prog 127 [] [] (.agg [.int .i64 r.1, .int .i64 r.2.1, .int .i64 r.2.2.1, .int .i64 r.2.2.2]) [] := by
 unfold i_root at h; refine SO Try.func127 rfl Try.ntmps127 fun C hN hρ => ?_; simp only [st0, tmps0, Nat.zero_add, Nat.reduceAdd]; refine AN hN ?_; refine AN hN ?_; injection h with h; subst h; exact AX (b' := 64) [(0, .ptr 32 0)] [(32, .box 75 [.int .i64 0, .int .i64 1, .int .i64 0, .int .i64 (-1)])] [(32, some 64)] [] hρ (EQ [])
/- impl.AddDOmega -/
def i_AddDOmega_j3 (v2 v3 v4 v5 v6 v22 v23 v24 v25 : Int) : Option (Int × Int × Int × Int × Int × Bool) :=
  bO (i_AddZOmega v2 v3 v4 v5 v22 v23 v24 v25) fun x11 => br (!x11.2.2.2.2) (some (0, 0, 0, 0, 0, false)) (bO (i_NewDOmega x11.1 x11.2.1 x11.2.2.1 x11.2.2.2.1 v6) fun x12 => some (x12.1, x12.2.1, x12.2.2.1, x12.2.2.2.1, x12.2.2.2.2.1, x12.2.2.2.2.2))
def i_AddDOmega_l1 (v2 v3 v4 v5 v6 : Int) : Nat → Int → Int → Int → Int → Int → Option (Int × Int × Int × Int × Int × Bool)
  | 0, _, _, _, _, _ => none
  | n1 + 1, v17, v18, v19, v20, v21 =>
  br (decide (v17 < v6)) (bO (i_root) fun x9 => bO (i_MulZOmega v18 v19 v20 v21 x9.1 x9.2.1 x9.2.2.1 x9.2.2.2) fun x10 => br (!x10.2.2.2.2) (some (0, 0, 0, 0, 0, false)) ((i_AddDOmega_l1 v2 v3 v4 v5 v6 n1) (IntKind.wrap .i64 (v17 + 1)) x10.1 x10.2.1 x10.2.2.1 x10.2.2.2.1)) (i_AddDOmega_j3 v2 v3 v4 v5 v6 v18 v19 v20 v21)
def i_AddDOmega_j2 (v2 v3 v4 v5 v6 v7 v8 v9 v10 v11 : Int) : Option (Int × Int × Int × Int × Int × Bool) :=
  i_AddDOmega_l1 v2 v3 v4 v5 v6 FU v11 v7 v8 v9 v10
def i_AddDOmega_j1 (a1 a2 a3 a4 a5 a6 a7 a8 a9 a10 : Int) (v1 : Bool) : Option (Int × Int × Int × Int × Int × Bool) :=
  br v1 (some (0, 0, 0, 0, 0, false)) (br (decide (a5 < a10)) (i_AddDOmega_j2 a6 a7 a8 a9 a10 a1 a2 a3 a4 a5) (i_AddDOmega_j2 a1 a2 a3 a4 a5 a6 a7 a8 a9 a10))
def i_AddDOmega (a1 a2 a3 a4 a5 a6 a7 a8 a9 a10 : Int) : Option (Int × Int × Int × Int × Int × Bool) :=
  bO (i_IsValidDOmega a1 a2 a3 a4 a5) fun x1 => bO (br (!x1) (some true) (bO (i_IsValidDOmega a6 a7 a8 a9 a10) fun x2 => some (!x2))) fun x3 => i_AddDOmega_j1 a1 a2 a3 a4 a5 a6 a7 a8 a9 a10 x3
theorem i_AddDOmega_ok {a1 a2 a3 a4 a5 a6 a7 a8 a9 a10 : Int} {r : Int × Int × Int × Int × Int × Bool} (h : i_AddDOmega a1 a2 a3 a4 a5 a6 a7 a8 a9 a10 = some r) :
    Spec Try.prog 192 [.agg [.int .i64 a1, .int .i64 a2, .int .i64 a3, .int .i64 a4, .int .i64 a5], .agg [.int .i64 a6, .int .i64 a7, .int .i64 a8, .int .i64 a9, .int .i64 a10]] [] (.tup [.agg [.int .i64 r.1, .int .i64 r.2.1, .int .i64 r.2.2.1, .int .i64 r.2.2.2.1, .int .i64 r.2.2.2.2.1], .bool r.2.2.2.2.2]) [] := by
 unfold i_AddDOmega at h; refine SO Try.func192 rfl Try.ntmps192 fun C hN hρ => ?_; simp only [st0, tmps0, Nat.zero_add, Nat.reduceAdd]; refine AN hN ?_; refine AW_seq ?_; refine AJ (fun S => ∃ (v1 : Bool), S = ⟨mkT [(2, .ptr 32 0), (3, .ptr 33 0), (4, .ptr 34 0), (21, .bool v1)], mkR [(32, .box 77 [.int .i64 a1, .int .i64 a2, .int .i64 a3, .int .i64 a4, .int .i64 a5]), (33, .box 77 [.int .i64 a6, .int .i64 a7, .int .i64 a8, .int .i64 a9, .int .i64 a10]), (34, .box 77 [.int .i64 0, .int .i64 0, .int .i64 0, .int .i64 0, .int .i64 0])], 64⟩ ∧ i_AddDOmega_j1 a1 a2 a3 a4 a5 a6 a7 a8 a9 a10 v1 = some r) hN ?_ ?_
 ·intro K hK; obtain ⟨x1, h1, h⟩ := bO_inv h; simp only [EV, seval]; refine CP (i_IsValidDOmega_ok h1) ?_; obtain ⟨x3, hv1, h⟩ := bO_inv h; rcases br_inv hv1 with ⟨hc1, hv1⟩ | ⟨hc1, hv1⟩
  ·cases hv1; simp only [EV, seval, hc1]; refine hK _ _ _ (show cutK _ _ _ from cutL ⟨_, rfl, h⟩ (Le_can [(32, some 64), (33, some 80), (34, some 96)] [] hρ (by kernel_rfl) ?_ ?_))
   ·simp only [AL, EV, seval, hc1]
   ·simp only [AL, EV, seval, hc1]
  ·obtain ⟨x4, h3, hv1⟩ := bO_inv hv1; simp only [EV, seval, hc1]; refine rC_p (i_IsValidDOmega_ok h3) (by simp only [AL, EV, seval, hc1]) (le_d rfl) (no_j rfl) ?_; cases hv1; simp only [EV, seval, hc1]; refine hK _ _ _ (show cutK _ _ _ from cutL ⟨_, rfl, h⟩ (Le_can [(32, some 64), (33, some 80), (34, some 96)] [] hρ (by kernel_rfl) ?_ ?_))
   ·simp only [AL, EV, seval, hc1]
   ·simp only [AL, EV, seval, hc1]
 ·rintro S ⟨v1, rfl, h⟩; unfold i_AddDOmega_j1 at h; refine AB h (fun hc2 h => ?_) fun hc2 h => ?_
  ·refine AN hN ?_; injection h with h; subst h; exact AX (b' := 64) [(4, .ptr 32 0), (5, .bool false)] [(32, .box 77 [.int .i64 0, .int .i64 0, .int .i64 0, .int .i64 0, .int .i64 0])] [(32, some 34)] [] hρ (EQ [])
  ·refine AW_skip (AK ?_); refine AW_cutK (fun S => ∃ (v2 v3 v4 v5 v6 v7 v8 v9 v10 v11 : Int), S = ⟨mkT [(2, .ptr 32 0), (3, .ptr 33 0), (4, .ptr 34 0)], mkR [(32, .box 77 [.int .i64 v2, .int .i64 v3, .int .i64 v4, .int .i64 v5, .int .i64 v6]), (33, .box 77 [.int .i64 v7, .int .i64 v8, .int .i64 v9, .int .i64 v10, .int .i64 v11]), (34, .box 77 [.int .i64 0, .int .i64 0, .int .i64 0, .int .i64 0, .int .i64 0])], 64⟩ ∧ i_AddDOmega_j2 v2 v3 v4 v5 v6 v7 v8 v9 v10 v11 = some r) ?_ ?_
   ·refine AN hN ?_; refine AB h (fun hc3 h => ?_) fun hc3 h => ?_
    ·refine AS hN fun K hK => ?_; simp only [EV, seval]; exact hK _ _ _ (AC ⟨_, _, _, _, _, _, _, _, _, _, rfl, h⟩ [(32, some 32), (33, some 33), (34, some 34)] [] hρ)
    ·refine AW_skip (show cutK _ _ _ from cutL ⟨_, _, _, _, _, _, _, _, _, _, rfl, h⟩ (Le_can [(32, some 32), (33, some 33), (34, some 34)] [] hρ (by kernel_rfl) ?_ ?_))
     ·simp only [AL, EV, seval]
     ·simp only [AL, EV, seval]
   ·rintro S ⟨v2, v3, v4, v5, v6, v7, v8, v9, v10, v11, rfl, h⟩; unfold i_AddDOmega_j2 at h; refine AN hN ?_; refine AW_cutK (fun S => ∃ (v22 v23 v24 v25 : Int), S = ⟨mkT [(2, .ptr 32 0), (4, .ptr 33 0), (6, .ptr 34 0)], mkR [(32, .box 77 [.int .i64 v2, .int .i64 v3, .int .i64 v4, .int .i64 v5, .int .i64 v6]), (33, .box 77 [.int .i64 0, .int .i64 0, .int .i64 0, .int .i64 0, .int .i64 0]), (34, .box 75 [.int .i64 v22, .int .i64 v23, .int .i64 v24, .int .i64 v25])], 64⟩ ∧ i_AddDOmega_j3 v2 v3 v4 v5 v6 v22 v23 v24 v25 = some r) ?_ ?_
    ·refine AN hN ?_; refine AW_block ?_; refine AW_loopF (fun n S => ∃ (v17 v18 v19 v20 v21 : Int), S = ⟨mkT [(2, .ptr 32 0), (4, .ptr 33 0), (6, .ptr 34 0), (7, .int .i64 v17)], mkR [(32, .box 77 [.int .i64 v2, .int .i64 v3, .int .i64 v4, .int .i64 v5, .int .i64 v6]), (33, .box 77 [.int .i64 0, .int .i64 0, .int .i64 0, .int .i64 0, .int .i64 0]), (34, .box 75 [.int .i64 v18, .int .i64 v19, .int .i64 v20, .int .i64 v21])], 64⟩ ∧ i_AddDOmega_l1 v2 v3 v4 v5 v6 n v17 v18 v19 v20 v21 = some r) FU ?_ ?_ ?_
     ·exact AC ⟨_, _, _, _, _, rfl, h⟩ [(32, some 32), (33, some 34), (34, some 96)] [] hρ
     ·rintro S ⟨_, _, _, _, _, _, h⟩; rw [i_AddDOmega_l1] at h; cases h
     ·rintro n1 S ⟨v17, v18, v19, v20, v21, rfl, h⟩; rw [i_AddDOmega_l1] at h; refine AW_seq ?_; refine AN hN ?_; refine AB h (fun hc8 h => ?_) fun hc8 h => ?_
      ·refine AW_skip (AK ?_); refine AW_seq ?_; refine AW_block ?_; refine AR hN fun K hK => ?_; obtain ⟨x9, h8, h⟩ := bO_inv h; simp only [EV, seval]; refine CP (i_root_ok h8) ?_; obtain ⟨x10, h9, h⟩ := bO_inv h; simp only [EV, seval]; refine CP (i_MulZOmega_ok h9) ?_; simp only [EV, seval]; refine hK _ _ _ ?_; clear hK K; refine AW_seq ?_; refine AN hN ?_; refine AB h (fun hc9 h => ?_) fun hc9 h => ?_
       ·refine AN hN ?_; injection h with h; subst h; exact AX (b' := 64) [(4, .ptr 32 0), (5, .bool false)] [(32, .box 77 [.int .i64 0, .int .i64 0, .int .i64 0, .int .i64 0, .int .i64 0])] [(32, some 33)] [] hρ (EQ [])
       ·refine AW_skip (AK ?_); refine AS hN fun K hK => ?_; simp only [EV, seval]; refine hK _ _ _ (show AW _ _ _ _ _ from ?_); refine AS hN fun K hK => ?_; simp only [EV, seval]; exact hK _ _ _ (AC ⟨_, _, _, _, _, rfl, h⟩ [(32, some 32), (33, some 33), (34, some 34)] [] hρ)
      ·exact AW_exit (AC ⟨_, _, _, _, rfl, h⟩ [(32, some 32), (33, some 33), (34, some 34)] [] hρ)
    ·rintro S ⟨v22, v23, v24, v25, rfl, h⟩; unfold i_AddDOmega_j3 at h; obtain ⟨x11, h10, h⟩ := bO_inv h; refine AP hN (i_AddZOmega_ok h10) ?_; refine AW_seq ?_; refine AN hN ?_; refine AB h (fun hc10 h => ?_) fun hc10 h => ?_
     ·refine AN hN ?_; injection h with h; subst h; exact AX (b' := 64) [(4, .ptr 32 0), (5, .bool false)] [(32, .box 77 [.int .i64 0, .int .i64 0, .int .i64 0, .int .i64 0, .int .i64 0])] [(32, some 33)] [] hρ (EQ [])
     ·refine AW_skip (AK ?_); obtain ⟨x12, h11, h⟩ := bO_inv h; refine AP hN (i_NewDOmega_ok h11) ?_; refine AN hN ?_; injection h with h; subst h; exact AX (b' := 64) [(4, .ptr 32 0), (5, .bool x12.2.2.2.2.2)] [(32, .box 77 [.int .i64 x12.1, .int .i64 x12.2.1, .int .i64 x12.2.2.1, .int .i64 x12.2.2.2.1, .int .i64 x12.2.2.2.2.1])] [(32, some 33)] [] hρ (EQ [])
/- spec.l3Up -/
def s_l3Up_j1 (v11 v12 v13 v14 : Int) : Option (Int × Int × Int × Int × Bool) :=
  some (v11, v12, v13, v14, true)
def s_l3Up_l1 (a5 : Int) : Nat → Int → Int → Int → Int → Int → Option (Int × Int × Int × Int × Bool)
  | 0, _, _, _, _, _ => none
  | n1 + 1, v6, v7, v8, v9, v10 =>
  br (decide (v6 < a5)) (bO (s_MulZOmega v7 v8 v9 v10 0 1 0 (-1)) fun x3 => br (!x3.2.2.2.2) (some (0, 0, 0, 0, false)) ((s_l3Up_l1 a5 n1) (IntKind.wrap .i64 (v6 + 1)) x3.1 x3.2.1 x3.2.2.1 x3.2.2.2.1)) (s_l3Up_j1 v7 v8 v9 v10)
def s_l3Up (a1 a2 a3 a4 a5 : Int) : Option (Int × Int × Int × Int × Bool) :=
  s_l3Up_l1 a5 FU 0 a1 a2 a3 a4
theorem s_l3Up_ok {a1 a2 a3 a4 a5 : Int} {r : Int × Int × Int × Int × Bool} (h : s_l3Up a1 a2 a3 a4 a5 = some r) :
    Spec Try.prog 157 [.agg [.int .i64 a1, .int .i64 a2, .int .i64 a3, .int .i64 a4], .int .i64 a5] [] (.tup [.agg [.int .i64 r.1, .int .i64 r.2.1, .int .i64 r.2.2.1, .int .i64 r.2.2.2.1], .bool r.2.2.2.2]) [] := by
 unfold s_l3Up at h; refine SO Try.func157 rfl Try.ntmps157 fun C hN hρ => ?_; simp only [st0, tmps0, Nat.zero_add, Nat.reduceAdd]; refine AN hN ?_; refine AW_cutK (fun S => ∃ (v11 v12 v13 v14 : Int), S = ⟨mkT [(2, .ptr 32 0), (4, .ptr 33 0)], mkR [(32, .box 75 [.int .i64 v11, .int .i64 v12, .int .i64 v13, .int .i64 v14]), (33, .box 75 [.int .i64 0, .int .i64 0, .int .i64 0, .int .i64 0])], 64⟩ ∧ s_l3Up_j1 v11 v12 v13 v14 = some r) ?_ ?_
 ·refine AN hN ?_; refine AW_block ?_; refine AW_loopF (fun n S => ∃ (v6 v7 v8 v9 v10 : Int), S = ⟨mkT [(1, .int .i64 a5), (2, .ptr 32 0), (4, .ptr 33 0), (6, .int .i64 v6)], mkR [(32, .box 75 [.int .i64 v7, .int .i64 v8, .int .i64 v9, .int .i64 v10]), (33, .box 75 [.int .i64 0, .int .i64 0, .int .i64 0, .int .i64 0])], 64⟩ ∧ s_l3Up_l1 a5 n v6 v7 v8 v9 v10 = some r) FU ?_ ?_ ?_
  ·exact AC ⟨_, _, _, _, _, rfl, h⟩ [(32, some 64), (33, some 80)] [] hρ
  ·rintro S ⟨_, _, _, _, _, _, h⟩; rw [s_l3Up_l1] at h; cases h
  ·rintro n1 S ⟨v6, v7, v8, v9, v10, rfl, h⟩; rw [s_l3Up_l1] at h; refine AW_seq ?_; refine AN hN ?_; refine AB h (fun hc5 h => ?_) fun hc5 h => ?_
   ·refine AW_skip (AK ?_); refine AW_seq ?_; refine AW_block ?_; obtain ⟨x3, h3, h⟩ := bO_inv h; refine AP hN (s_MulZOmega_ok h3) ?_; refine AW_seq ?_; refine AN hN ?_; refine AB h (fun hc6 h => ?_) fun hc6 h => ?_
    ·refine AN hN ?_; injection h with h; subst h; exact AX (b' := 64) [(4, .ptr 32 0), (5, .bool false)] [(32, .box 75 [.int .i64 0, .int .i64 0, .int .i64 0, .int .i64 0])] [(32, some 33)] [] hρ (EQ [])
    ·refine AW_skip (AK ?_); refine AS hN fun K hK => ?_; simp only [EV, seval]; refine hK _ _ _ (show AW _ _ _ _ _ from ?_); refine AS hN fun K hK => ?_; simp only [EV, seval]; exact hK _ _ _ (AC ⟨_, _, _, _, _, rfl, h⟩ [(32, some 32), (33, some 33)] [] hρ)
   ·exact AW_exit (AC ⟨_, _, _, _, rfl, h⟩ [(32, some 32), (33, some 33)] [] hρ)
 ·rintro S ⟨v11, v12, v13, v14, rfl, h⟩; unfold s_l3Up_j1 at h; refine AN hN ?_; injection h with h; subst h; exact AX (b' := 64) [(4, .ptr 32 0), (5, .bool true)] [(32, .box 75 [.int .i64 v11, .int .i64 v12, .int .i64 v13, .int .i64 v14])] [(32, some 33)] [] hρ (EQ [])
/- spec.AddDOmega -/
def s_AddDOmega_j2 (x5 : Int) (x8 : Int × Int × Int × Int × Bool) (v2 : Bool) : Option (Int × Int × Int × Int × Int × Bool) :=
  br v2 (some (0, 0, 0, 0, 0, false)) (bO (s_NewDOmega x8.1 x8.2.1 x8.2.2.1 x8.2.2.2.1 x5) fun x13 => some (x13.1, x13.2.1, x13.2.2.1, x13.2.2.2.1, x13.2.2.2.2.1, x13.2.2.2.2.2))
def s_AddDOmega_j1 (a1 a2 a3 a4 a5 a6 a7 a8 a9 a10 : Int) (v1 : Bool) : Option (Int × Int × Int × Int × Int × Bool) :=
  br v1 (some (0, 0, 0, 0, 0, false)) (bO (s_l1Max a5 a10) fun x5 => bO (s_l3Up a1 a2 a3 a4 (IntKind.wrap .i64 (x5 - a5))) fun x6 => bO (s_l3Up a6 a7 a8 a9 (IntKind.wrap .i64 (x5 - a10))) fun x7 => bO (s_AddZOmega x6.1 x6.2.1 x6.2.2.1 x6.2.2.2.1 x7.1 x7.2.1 x7.2.2.1 x7.2.2.2.1) fun x8 => bO (br (!x6.2.2.2.2) (some true) (some (!x7.2.2.2.2))) fun x9 => bO (br x9 (some true) (some (!x8.2.2.2.2))) fun x10 => s_AddDOmega_j2 x5 x8 x10)
def s_AddDOmega (a1 a2 a3 a4 a5 a6 a7 a8 a9 a10 : Int) : Option (Int × Int × Int × Int × Int × Bool) :=
  bO (s_IsValidDOmega a1 a2 a3 a4 a5) fun x1 => bO (br (!x1) (some true) (bO (s_IsValidDOmega a6 a7 a8 a9 a10) fun x2 => some (!x2))) fun x3 => s_AddDOmega_j1 a1 a2 a3 a4 a5 a6 a7 a8 a9 a10 x3
theorem s_AddDOmega_ok {a1 a2 a3 a4 a5 a6 a7 a8 a9 a10 : Int} {r : Int × Int × Int × Int × Int × Bool} (h : s_AddDOmega a1 a2 a3 a4 a5 a6 a7 a8 a9 a10 = some r) :
    Spec Try.prog 116 [.agg [.int .i64 a1, .int .i64 a2, .int .i64 a3, .int .i64 a4, .int .i64 a5], .agg [.int .i64 a6, .int .i64 a7, .int .i64 a8, .int .i64 a9, .int .i64 a10]] [] (.tup [.agg [.int .i64 r.1, .int .i64 r.2.1, .int .i64 r.2.2.1, .int .i64 r.2.2.2.1, .int .i64 r.2.2.2.2.1], .bool r.2.2.2.2.2]) [] := by
 unfold s_AddDOmega at h; refine SO Try.func116 rfl Try.ntmps116 fun C hN hρ => ?_; simp only [st0, tmps0, Nat.zero_add, Nat.reduceAdd]; refine AN hN ?_; refine AW_seq ?_; refine AJ (fun S => ∃ (v1 : Bool), S = ⟨mkT [(2, .ptr 32 0), (3, .ptr 33 0), (4, .ptr 34 0), (20, .bool v1)], mkR [(32, .box 77 [.int .i64 a1, .int .i64 a2, .int .i64 a3, .int .i64 a4, .int .i64 a5]), (33, .box 77 [.int .i64 a6, .int .i64 a7, .int .i64 a8, .int .i64 a9, .int .i64 a10]), (34, .box 77 [.int .i64 0, .int .i64 0, .int .i64 0, .int .i64 0, .int .i64 0])], 64⟩ ∧ s_AddDOmega_j1 a1 a2 a3 a4 a5 a6 a7 a8 a9 a10 v1 = some r) hN ?_ ?_
 ·intro K hK; obtain ⟨x1, h1, h⟩ := bO_inv h; simp only [EV, seval]; refine CP (s_IsValidDOmega_ok h1) ?_; obtain ⟨x3, hv1, h⟩ := bO_inv h; rcases br_inv hv1 with ⟨hc1, hv1⟩ | ⟨hc1, hv1⟩
  ·cases hv1; simp only [EV, seval, hc1]; refine hK _ _ _ (show cutK _ _ _ from cutL ⟨_, rfl, h⟩ (Le_can [(32, some 64), (33, some 80), (34, some 96)] [] hρ (by kernel_rfl) ?_ ?_))
   ·simp only [AL, EV, seval, hc1]
   ·simp only [AL, EV, seval, hc1]
  ·obtain ⟨x4, h3, hv1⟩ := bO_inv hv1; simp only [EV, seval, hc1]; refine rC_p (s_IsValidDOmega_ok h3) (by simp only [AL, EV, seval, hc1]) (le_d rfl) (no_j rfl) ?_; cases hv1; simp only [EV, seval, hc1]; refine hK _ _ _ (show cutK _ _ _ from cutL ⟨_, rfl, h⟩ (Le_can [(32, some 64), (33, some 80), (34, some 96)] [] hρ (by kernel_rfl) ?_ ?_))
   ·simp only [AL, EV, seval, hc1]
   ·simp only [AL, EV, seval, hc1]
 ·rintro S ⟨v1, rfl, h⟩; unfold s_AddDOmega_j1 at h; refine AB h (fun hc2 h => ?_) fun hc2 h => ?_
  ·refine AN hN ?_; injection h with h; subst h; exact AX (b' := 64) [(4, .ptr 32 0), (5, .bool false)] [(32, .box 77 [.int .i64 0, .int .i64 0, .int .i64 0, .int .i64 0, .int .i64 0])] [(32, some 34)] [] hρ (EQ [])
  ·refine AW_skip (AK ?_); obtain ⟨x5, h4, h⟩ := bO_inv h; refine AP hN (s_l1Max_ok h4) ?_; obtain ⟨x6, h5, h⟩ := bO_inv h; refine AP hN (s_l3Up_ok h5) ?_; obtain ⟨x7, h6, h⟩ := bO_inv h; refine AP hN (s_l3Up_ok h6) ?_; obtain ⟨x8, h7, h⟩ := bO_inv h; refine AP hN (s_AddZOmega_ok h7) ?_; refine AW_seq ?_; refine AJ (fun S => ∃ (v2 : Bool), S = ⟨mkT [(4, .ptr 32 0), (6, .int .i64 x5), (11, .ptr 33 0), (62, .bool v2)], mkR [(32, .box 77 [.int .i64 0, .int .i64 0, .int .i64 0, .int .i64 0, .int .i64 0]), (33, .box 75 [.int .i64 x8.1, .int .i64 x8.2.1, .int .i64 x8.2.2.1, .int .i64 x8.2.2.2.1])], 64⟩ ∧ s_AddDOmega_j2 x5 x8 v2 = some r) hN ?_ ?_
   ·intro K hK; obtain ⟨x9, hv2, h⟩ := bO_inv h; rcases br_inv hv2 with ⟨hc3, hv2⟩ | ⟨hc3, hv2⟩
    ·cases hv2; obtain ⟨x11, hv4, h⟩ := bO_inv h; replace hv4 := br_t hv4; cases hv4; (try dsimp only at h); simp only [EV, seval, hc3]; refine hK _ _ _ (show cutK _ _ _ from cutL ⟨_, rfl, h⟩ (Le_can [(32, some 34), (33, some 3232)] [] hρ (by kernel_rfl) ?_ ?_))
     ·simp only [AL, EV, seval, hc3]
     ·simp only [AL, EV, seval, hc3]
    ·cases hv2; obtain ⟨x12, hv5, h⟩ := bO_inv h; rcases br_inv hv5 with ⟨hc5, hv5⟩ | ⟨hc5, hv5⟩
     ·cases hv5; simp only [EV, seval, hc3, hc5]; refine hK _ _ _ (show cutK _ _ _ from cutL ⟨_, rfl, h⟩ (Le_can [(32, some 34), (33, some 3232)] [] hρ (by kernel_rfl) ?_ ?_))
      ·simp only [AL, EV, seval, hc3, hc5]
      ·simp only [AL, EV, seval, hc3, hc5]
     ·cases hv5; simp only [EV, seval, hc3, hc5]; refine hK _ _ _ (show cutK _ _ _ from cutL ⟨_, rfl, h⟩ (Le_can [(32, some 34), (33, some 3232)] [] hρ (by kernel_rfl) ?_ ?_))
      ·simp only [AL, EV, seval, hc3, hc5]
      ·simp only [AL, EV, seval, hc3, hc5]
   ·rintro S ⟨v2, rfl, h⟩; unfold s_AddDOmega_j2 at h; refine AB h (fun hc6 h => ?_) fun hc6 h => ?_
    ·refine AN hN ?_; injection h with h; subst h; exact AX (b' := 64) [(4, .ptr 32 0), (5, .bool false)] [(32, .box 77 [.int .i64 0, .int .i64 0, .int .i64 0, .int .i64 0, .int .i64 0])] [(32, some 32)] [] hρ (EQ [])
    ·refine AW_skip (AK ?_); obtain ⟨x13, h8, h⟩ := bO_inv h; refine AP hN (s_NewDOmega_ok h8) ?_; injection h with h; subst h; exact AX (b' := 64) [(4, .ptr 32 0), (5, .bool x13.2.2.2.2.2)] [(32, .box 77 [.int .i64 x13.1, .int .i64 x13.2.1, .int .i64 x13.2.2.1, .int .i64 x13.2.2.2.1, .int .i64 x13.2.2.2.2.1])] [(32, some 32)] [] hρ (EQ [])
/- impl.MulDOmega -/
def i_MulDOmega_j1 (a1 a2 a3 a4 a5 a6 a7 a8 a9 a10 : Int) (v1 : Bool) : Option (Int × Int × Int × Int × Int × Bool) :=
  br v1 (some (0, 0, 0, 0, 0, false)) (bO (i_MulZOmega a1 a2 a3 a4 a6 a7 a8 a9) fun x5 => br (!x5.2.2.2.2) (some (0, 0, 0, 0, 0, false)) (bO (i_NewDOmega x5.1 x5.2.1 x5.2.2.1 x5.2.2.2.1 (IntKind.wrap .i64 (a5 + a10))) fun x6 => some (x6.1, x6.2.1, x6.2.2.1, x6.2.2.2.1, x6.2.2.2.2.1, x6.2.2.2.2.2)))
def i_MulDOmega (a1 a2 a3 a4 a5 a6 a7 a8 a9 a10 : Int) : Option (Int × Int × Int × Int × Int × Bool) :=
  bO (i_IsValidDOmega a1 a2 a3 a4 a5) fun x1 => bO (br (!x1) (some true) (bO (i_IsValidDOmega a6 a7 a8 a9 a10) fun x2 => some (!x2))) fun x3 => i_MulDOmega_j1 a1 a2 a3 a4 a5 a6 a7 a8 a9 a10 x3
theorem i_MulDOmega_ok {a1 a2 a3 a4 a5 a6 a7 a8 a9 a10 : Int} {r : Int × Int × Int × Int × Int × Bool} (h : i_MulDOmega a1 a2 a3 a4 a5 a6 a7 a8 a9 a10 = some r) :
    Spec Try.prog 112 [.agg [.int .i64 a1, .int .i64 a2, .int .i64 a3, .int .i64 a4, .int .i64 a5], .agg [.int .i64 a6, .int .i64 a7, .int .i64 a8, .int .i64 a9, .int .i64 a10]] [] (.tup [.agg [.int .i64 r.1, .int .i64 r.2.1, .int .i64 r.2.2.1, .int .i64 r.2.2.2.1, .int .i64 r.2.2.2.2.1], .bool r.2.2.2.2.2]) [] := by
 unfold i_MulDOmega at h; refine SO Try.func112 rfl Try.ntmps112 fun C hN hρ => ?_; simp only [st0, tmps0, Nat.zero_add, Nat.reduceAdd]; refine AN hN ?_; refine AW_seq ?_; refine AJ (fun S => ∃ (v1 : Bool), S = ⟨mkT [(2, .ptr 32 0), (3, .ptr 33 0), (4, .ptr 34 0), (17, .bool v1)], mkR [(32, .box 77 [.int .i64 a1, .int .i64 a2, .int .i64 a3, .int .i64 a4, .int .i64 a5]), (33, .box 77 [.int .i64 a6, .int .i64 a7, .int .i64 a8, .int .i64 a9, .int .i64 a10]), (34, .box 77 [.int .i64 0, .int .i64 0, .int .i64 0, .int .i64 0, .int .i64 0])], 64⟩ ∧ i_MulDOmega_j1 a1 a2 a3 a4 a5 a6 a7 a8 a9 a10 v1 = some r) hN ?_ ?_
 ·intro K hK; obtain ⟨x1, h1, h⟩ := bO_inv h; simp only [EV, seval]; refine CP (i_IsValidDOmega_ok h1) ?_; obtain ⟨x3, hv1, h⟩ := bO_inv h; rcases br_inv hv1 with ⟨hc1, hv1⟩ | ⟨hc1, hv1⟩
  ·cases hv1; simp only [EV, seval, hc1]; refine hK _ _ _ (show cutK _ _ _ from cutL ⟨_, rfl, h⟩ (Le_can [(32, some 64), (33, some 80), (34, some 96)] [] hρ (by kernel_rfl) ?_ ?_))
   ·simp only [AL, EV, seval, hc1]
   ·simp only [AL, EV, seval, hc1]
  ·obtain ⟨x4, h3, hv1⟩ := bO_inv hv1; simp only [EV, seval, hc1]; refine rC_p (i_IsValidDOmega_ok h3) (by simp only [AL, EV, seval, hc1]) (le_d rfl) (no_j rfl) ?_; cases hv1; simp only [EV, seval, hc1]; refine hK _ _ _ (show cutK _ _ _ from cutL ⟨_, rfl, h⟩ (Le_can [(32, some 64), (33, some 80), (34, some 96)] [] hρ (by kernel_rfl) ?_ ?_))
   ·simp only [AL, EV, seval, hc1]
   ·simp only [AL, EV, seval, hc1]
 ·rintro S ⟨v1, rfl, h⟩; unfold i_MulDOmega_j1 at h; refine AB h (fun hc2 h => ?_) fun hc2 h => ?_
  ·refine AN hN ?_; injection h with h; subst h; exact AX (b' := 64) [(4, .ptr 32 0), (5, .bool false)] [(32, .box 77 [.int .i64 0, .int .i64 0, .int .i64 0, .int .i64 0, .int .i64 0])] [(32, some 34)] [] hρ (EQ [])
  ·refine AW_skip (AK ?_); obtain ⟨x5, h4, h⟩ := bO_inv h; refine AP hN (i_MulZOmega_ok h4) ?_; refine AW_seq ?_; refine AN hN ?_; refine AB h (fun hc3 h => ?_) fun hc3 h => ?_
   ·refine AN hN ?_; injection h with h; subst h; exact AX (b' := 64) [(4, .ptr 32 0), (5, .bool false)] [(32, .box 77 [.int .i64 0, .int .i64 0, .int .i64 0, .int .i64 0, .int .i64 0])] [(32, some 34)] [] hρ (EQ [])
   ·refine AW_skip (AK ?_); obtain ⟨x6, h5, h⟩ := bO_inv h; refine AP hN (i_NewDOmega_ok h5) ?_; refine AN hN ?_; injection h with h; subst h; exact AX (b' := 64) [(4, .ptr 32 0), (5, .bool x6.2.2.2.2.2)] [(32, .box 77 [.int .i64 x6.1, .int .i64 x6.2.1, .int .i64 x6.2.2.1, .int .i64 x6.2.2.2.1, .int .i64 x6.2.2.2.2.1])] [(32, some 34)] [] hρ (EQ [])
/- spec.MulDOmega -/
def s_MulDOmega_j1 (a5 a10 : Int) (x1 : Int × Int × Int × Int × Bool) (v1 : Bool) : Option (Int × Int × Int × Int × Int × Bool) :=
  br v1 (some (0, 0, 0, 0, 0, false)) (bO (s_NewDOmega x1.1 x1.2.1 x1.2.2.1 x1.2.2.2.1 (IntKind.wrap .i64 (a5 + a10))) fun x9 => some (x9.1, x9.2.1, x9.2.2.1, x9.2.2.2.1, x9.2.2.2.2.1, x9.2.2.2.2.2))
def s_MulDOmega (a1 a2 a3 a4 a5 a6 a7 a8 a9 a10 : Int) : Option (Int × Int × Int × Int × Int × Bool) :=
  bO (s_MulZOmega a1 a2 a3 a4 a6 a7 a8 a9) fun x1 => bO (s_IsValidDOmega a1 a2 a3 a4 a5) fun x2 => bO (br (!x2) (some true) (bO (s_IsValidDOmega a6 a7 a8 a9 a10) fun x3 => some (!x3))) fun x4 => bO (br x4 (some true) (some (!x1.2.2.2.2))) fun x5 => s_MulDOmega_j1 a5 a10 x1 x5
theorem s_MulDOmega_ok {a1 a2 a3 a4 a5 a6 a7 a8 a9 a10 : Int} {r : Int × Int × Int × Int × Int × Bool} (h : s_MulDOmega a1 a2 a3 a4 a5 a6 a7 a8 a9 a10 = some r) :
    Spec Try.prog 110 [.agg [.int .i64 a1, .int .i64 a2, .int .i64 a3, .int .i64 a4, .int .i64 a5], .agg [.int .i64 a6, .int .i64 a7, .int .i64 a8, .int .i64 a9, .int .i64 a10]] [] (.tup [.agg [.int .i64 r.1, .int .i64 r.2.1, .int .i64 r.2.2.1, .int .i64 r.2.2.2.1, .int .i64 r.2.2.2.2.1], .bool r.2.2.2.2.2]) [] := by
 unfold s_MulDOmega at h; refine SO Try.func110 rfl Try.ntmps110 fun C hN hρ => ?_; simp only [st0, tmps0, Nat.zero_add, Nat.reduceAdd]; refine AN hN ?_; obtain ⟨x1, h1, h⟩ := bO_inv h; refine AP hN (s_MulZOmega_ok h1) ?_; refine AW_seq ?_; refine AJ (fun S => ∃ (v1 : Bool), S = ⟨mkT [(2, .ptr 32 0), (3, .ptr 33 0), (4, .ptr 34 0), (6, .ptr 35 0), (27, .bool v1)], mkR [(32, .box 77 [.int .i64 a1, .int .i64 a2, .int .i64 a3, .int .i64 a4, .int .i64 a5]), (33, .box 77 [.int .i64 a6, .int .i64 a7, .int .i64 a8, .int .i64 a9, .int .i64 a10]), (34, .box 77 [.int .i64 0, .int .i64 0, .int .i64 0, .int .i64 0, .int .i64 0]), (35, .box 75 [.int .i64 x1.1, .int .i64 x1.2.1, .int .i64 x1.2.2.1, .int .i64 x1.2.2.2.1])], 64⟩ ∧ s_MulDOmega_j1 a5 a10 x1 v1 = some r) hN ?_ ?_
 ·intro K hK; obtain ⟨x2, h2, h⟩ := bO_inv h; simp only [EV, seval]; refine CP (s_IsValidDOmega_ok h2) ?_; obtain ⟨x4, hv1, h⟩ := bO_inv h; rcases br_inv hv1 with ⟨hc1, hv1⟩ | ⟨hc1, hv1⟩
  ·cases hv1; obtain ⟨x6, hv3, h⟩ := bO_inv h; replace hv3 := br_t hv3; cases hv3; (try dsimp only at h); simp only [EV, seval, hc1]; refine hK _ _ _ (show cutK _ _ _ from cutL ⟨_, rfl, h⟩ (Le_can [(32, some 64), (33, some 80), (34, some 96), (35, some 1216)] [] hρ (by kernel_rfl) ?_ ?_))
   ·simp only [AL, EV, seval, hc1]
   ·simp only [AL, EV, seval, hc1]
  ·obtain ⟨x7, h4, hv1⟩ := bO_inv hv1; simp only [EV, seval, hc1]; refine rC_p (s_IsValidDOmega_ok h4) (by simp only [AL, EV, seval, hc1]) (le_d rfl) (no_j rfl) ?_; cases hv1; obtain ⟨x8, hv4, h⟩ := bO_inv h; rcases br_inv hv4 with ⟨hc3, hv4⟩ | ⟨hc3, hv4⟩
   ·cases hv4; simp only [EV, seval, hc1, hc3]; refine hK _ _ _ (show cutK _ _ _ from cutL ⟨_, rfl, h⟩ (Le_can [(32, some 64), (33, some 80), (34, some 96), (35, some 1216)] [] hρ (by kernel_rfl) ?_ ?_))
    ·simp only [AL, EV, seval, hc1, hc3]
    ·simp only [AL, EV, seval, hc1, hc3]
   ·cases hv4; simp only [EV, seval, hc1, hc3]; refine hK _ _ _ (show cutK _ _ _ from cutL ⟨_, rfl, h⟩ (Le_can [(32, some 64), (33, some 80), (34, some 96), (35, some 1216)] [] hρ (by kernel_rfl) ?_ ?_))
    ·simp only [AL, EV, seval, hc1, hc3]
    ·simp only [AL, EV, seval, hc1, hc3]
 ·rintro S ⟨v1, rfl, h⟩; unfold s_MulDOmega_j1 at h; refine AB h (fun hc4 h => ?_) fun hc4 h => ?_
  ·refine AN hN ?_; injection h with h; subst h; exact AX (b' := 64) [(4, .ptr 32 0), (5, .bool false)] [(32, .box 77 [.int .i64 0, .int .i64 0, .int .i64 0, .int .i64 0, .int .i64 0])] [(32, some 34)] [] hρ (EQ [])
  ·refine AW_skip (AK ?_); obtain ⟨x9, h5, h⟩ := bO_inv h; refine AP hN (s_NewDOmega_ok h5) ?_; injection h with h; subst h; exact AX (b' := 64) [(4, .ptr 32 0), (5, .bool x9.2.2.2.2.2)] [(32, .box 77 [.int .i64 x9.1, .int .i64 x9.2.1, .int .i64 x9.2.2.1, .int .i64 x9.2.2.2.1, .int .i64 x9.2.2.2.2.1])] [(32, some 34)] [] hρ (EQ [])
end Go.Proofs.Ytflfodcgoffjkaa
/- Models of functions, and that the functions do what the models say; printed by a program. -/
namespace Go.Proofs.Ytflfodcgoffjkaa
open Go.RowKit
set_option maxRecDepth 100000
set_option linter.unusedVariables false
set_option linter.unusedSimpArgs false
set_option linter.defProp false
set_option maxHeartbeats 4000000
/- impl.QubitCount -/
def i_QubitCount_j1 : Option Int :=
  some 0
def i_QubitCount_l1 (a1 : LF) : Nat → Int → Option Int
  | 0, _ => none
  | n1 + 1, v2 =>
  br (decide (v2 ≤ 4)) (gd (decide (¬ v2 < 0)) (br (((a1.length : Int)) == (IntKind.wrap .i64 (1 * 2 ^ min (Int.toNat v2) (IntKind.bits .i64)))) (some v2) ((i_QubitCount_l1 a1 n1) (IntKind.wrap .i64 (v2 + 1))))) (i_QubitCount_j1)
def i_QubitCount (a1 : LF) : Option Int :=
  i_QubitCount_l1 a1 FU 1
theorem i_QubitCount_ok {a1 : LF} {r : Int} (h : i_QubitCount a1 = some r) :
    Spec Try.prog 193 [.sl (encL EIIIII a1) a1.length] [] (.int .i64 r) [] := by
 unfold i_QubitCount at h; refine SO Try.func193 rfl Try.ntmps193 fun C hN hρ => ?_; simp only [st0, tmps0, Nat.zero_add, Nat.reduceAdd]; refine AN hN ?_; refine AW_cutK (fun S => S = ⟨mkT [], mkR [], 64⟩ ∧ i_QubitCount_j1 = some r) ?_ ?_
 ·refine AN hN ?_; refine AW_block ?_; refine AW_loopF (fun n S => ∃ (v2 : Int), S = ⟨mkT [(0, .sl (encL EIIIII a1) a1.length), (3, .int .i64 v2)], mkR [], 64⟩ ∧ i_QubitCount_l1 a1 n v2 = some r) FU ?_ ?_ ?_
  ·exact AC ⟨_, rfl, h⟩ [] [] hρ
  ·rintro S ⟨_, _, h⟩; rw [i_QubitCount_l1] at h; cases h
  ·rintro n1 S ⟨v2, rfl, h⟩; rw [i_QubitCount_l1] at h; refine AW_seq ?_; refine AN hN ?_; refine AB h (fun hc5 h => ?_) fun hc5 h => ?_
   ·refine AW_skip (AK ?_); refine AW_seq ?_; refine AW_block ?_; refine AR hN fun K hK => ?_; obtain ⟨h2, h⟩ := gd_inv h; replace h2 := of_decide_eq_true h2; simp only [EV, seval, h2]; refine hK _ _ _ ?_; clear hK K; refine AW_condK (a := .bool (((a1.length : Int)) == (IntKind.wrap .i64 (1 * 2 ^ min (Int.toNat v2) (IntKind.bits .i64))))) (by simp only [EV, seval, h2]) (brK h (fun hc6 h => ?_) (fun hc6 h => ?_))
    ·refine AN hN ?_; injection h with h; subst h; exact AX (b' := 64) [(2, .int .i64 v2)] [] [] [] hρ (EQ [])
    ·refine AW_skip (AK ?_); refine AS hN fun K hK => ?_; simp only [EV, seval]; exact hK _ _ _ (AC ⟨_, rfl, h⟩ [] [] hρ)
   ·exact AW_exit (AC ⟨rfl, h⟩ [] [] hρ)
 ·rintro S ⟨rfl, h⟩; unfold i_QubitCount_j1 at h; refine AN hN ?_; injection h with h; subst h; exact AX (b' := 64) [(2, .int .i64 0)] [] [] [] hρ (EQ [])
/- spec.QubitCount -/
def s_QubitCount_j1 : Option Int :=
  some 0
def s_QubitCount_l1 (a1 : LF) : Nat → Int → Option Int
  | 0, _ => none
  | n1 + 1, v2 =>
  br (decide (v2 ≤ 4)) (gd (decide (¬ (IntKind.wrap .u64 v2) < 0)) (br (((a1.length : Int)) == (IntKind.wrap .i64 (1 * 2 ^ min (Int.toNat (IntKind.wrap .u64 v2)) (IntKind.bits .i64)))) (some v2) ((s_QubitCount_l1 a1 n1) (IntKind.wrap .i64 (v2 + 1))))) (s_QubitCount_j1)
def s_QubitCount (a1 : LF) : Option Int :=
  s_QubitCount_l1 a1 FU 1
theorem s_QubitCount_ok {a1 : LF} {r : Int} (h : s_QubitCount a1 = some r) :
    Spec Try.prog 150 [.sl (encL EIIIII a1) a1.length] [] (.int .i64 r) [] := by
 unfold s_QubitCount at h; refine SO Try.func150 rfl Try.ntmps150 fun C hN hρ => ?_; simp only [st0, tmps0, Nat.zero_add, Nat.reduceAdd]; refine AN hN ?_; refine AW_cutK (fun S => S = ⟨mkT [], mkR [], 64⟩ ∧ s_QubitCount_j1 = some r) ?_ ?_
 ·refine AN hN ?_; refine AW_block ?_; refine AW_loopF (fun n S => ∃ (v2 : Int), S = ⟨mkT [(0, .sl (encL EIIIII a1) a1.length), (3, .int .i64 v2)], mkR [], 64⟩ ∧ s_QubitCount_l1 a1 n v2 = some r) FU ?_ ?_ ?_
  ·exact AC ⟨_, rfl, h⟩ [] [] hρ
  ·rintro S ⟨_, _, h⟩; rw [s_QubitCount_l1] at h; cases h
  ·rintro n1 S ⟨v2, rfl, h⟩; rw [s_QubitCount_l1] at h; refine AW_seq ?_; refine AN hN ?_; refine AB h (fun hc5 h => ?_) fun hc5 h => ?_
   ·refine AW_skip (AK ?_); refine AW_seq ?_; refine AW_block ?_; refine AR hN fun K hK => ?_; obtain ⟨h3, h⟩ := gd_inv h; replace h3 := of_decide_eq_true h3; simp only [EV, seval, h3]; refine hK _ _ _ ?_; clear hK K; refine AW_condK (a := .bool (((a1.length : Int)) == (IntKind.wrap .i64 (1 * 2 ^ min (Int.toNat (IntKind.wrap .u64 v2)) (IntKind.bits .i64))))) (by simp only [EV, seval, h3]) (brK h (fun hc6 h => ?_) (fun hc6 h => ?_))
    ·refine AN hN ?_; injection h with h; subst h; exact AX (b' := 64) [(2, .int .i64 v2)] [] [] [] hρ (EQ [])
    ·refine AW_skip (AK ?_); refine AS hN fun K hK => ?_; simp only [EV, seval]; exact hK _ _ _ (AC ⟨_, rfl, h⟩ [] [] hρ)
   ·exact AW_exit (AC ⟨rfl, h⟩ [] [] hρ)
 ·rintro S ⟨rfl, h⟩; unfold s_QubitCount_j1 at h; refine AN hN ?_; injection h with h; subst h; exact AX (b' := 64) [(2, .int .i64 0)] [] [] [] hρ (EQ [])
/- impl.IsValidState -/
def i_IsValidState_j1 : Option Bool :=
  some true
def i_IsValidState_l1 (a1 : LF) : Nat → Int → Int → Option Bool
  | 0, _, _ => none
  | n1 + 1, v4, v5 =>
  br (decide (v5 < v4)) (bO (geti a1 v5) fun q3 => bO (i_IsValidDOmega q3.1 q3.2.1 q3.2.2.1 q3.2.2.2.1 q3.2.2.2.2) fun x4 => br (!x4) (some false) ((i_IsValidState_l1 a1 n1) v4 (IntKind.wrap .i64 (v5 + 1)))) (i_IsValidState_j1)
def i_IsValidState (a1 : LF) : Option Bool :=
  bO (i_QubitCount a1) fun x1 => br (x1 == 0) (some false) (i_IsValidState_l1 a1 FU ((a1.length : Int)) 0)
theorem i_IsValidState_ok {a1 : LF} {r : Bool} (h : i_IsValidState a1 = some r) :
    Spec Try.prog 163 [.sl (encL EIIIII a1) a1.length] [] (.bool r) [] := by
 unfold i_IsValidState at h; refine SO Try.func163 rfl Try.ntmps163 fun C hN hρ => ?_; simp only [st0, tmps0, Nat.zero_add, Nat.reduceAdd]; refine AN hN ?_; refine AW_seq ?_; obtain ⟨x1, h1, h⟩ := bO_inv h; refine AP hN (i_QubitCount_ok h1) ?_; refine AB h (fun hc1 h => ?_) fun hc1 h => ?_
 ·refine AN hN ?_; injection h with h; subst h; exact AX (b' := 64) [(2, .bool false)] [] [] [] hρ (EQ [])
 ·refine AW_skip (AK ?_); refine AW_cutK (fun S => S = ⟨mkT [], mkR [], 64⟩ ∧ i_IsValidState_j1 = some r) ?_ ?_
  ·refine AN hN ?_; refine AW_block ?_; refine AW_loopF (fun n S => ∃ (v4 v5 : Int), S = ⟨mkT [(8, .sl (encL EIIIII a1) a1.length), (9, .int .i64 v4), (10, .int .i64 v5)], mkR [], 64⟩ ∧ i_IsValidState_l1 a1 n v4 v5 = some r) FU ?_ ?_ ?_
   ·exact AC ⟨_, _, rfl, h⟩ [] [] hρ
   ·rintro S ⟨_, _, _, h⟩; rw [i_IsValidState_l1] at h; cases h
   ·rintro n1 S ⟨v4, v5, rfl, h⟩; rw [i_IsValidState_l1] at h; refine AN hN ?_; refine AW_seq ?_; refine AB h (fun hc6 h => ?_) fun hc6 h => ?_
    ·refine AW_skip (AK ?_); refine AW_seq ?_; refine AW_block ?_; refine AR hN fun K hK => ?_; obtain ⟨q3, h8, h⟩ := bO_inv h; obtain ⟨⟨h9a, h9b⟩, h9c⟩ := geti_E EIIIIIl h8; (try simp only [EV, seval] at h9c); simp only [EV, seval, h9a, h9b, h9c]; refine hK _ _ _ ?_; clear hK K; obtain ⟨x4, h10, h⟩ := bO_inv h; refine AP hN (i_IsValidDOmega_ok h10) ?_; refine AB h (fun hc7 h => ?_) fun hc7 h => ?_
     ·refine AN hN ?_; injection h with h; subst h; exact AX (b' := 64) [(2, .bool false)] [] [] [] hρ (EQ [])
     ·refine AW_skip (AK ?_); refine AS hN fun K hK => ?_; simp only [EV, seval]; exact hK _ _ _ (AC ⟨_, _, rfl, h⟩ [] [] hρ)
    ·exact AW_exit (AC ⟨rfl, h⟩ [] [] hρ)
  ·rintro S ⟨rfl, h⟩; unfold i_IsValidState_j1 at h; refine AN hN ?_; injection h with h; subst h; exact AX (b' := 64) [(2, .bool true)] [] [] [] hρ (EQ [])
/- spec.IsValidState -/
def s_IsValidState_j1 (a1 : LF) : Option Bool :=
  bO (s_QubitCount a1) fun x4 => some (decide (0 < x4))
def s_IsValidState_l1 (a1 : LF) : Nat → Int → Option Bool
  | 0, _ => none
  | n1 + 1, v2 =>
  br (decide (v2 < ((a1.length : Int)))) (bO (geti a1 v2) fun q3 => bO (s_IsValidDOmega q3.1 q3.2.1 q3.2.2.1 q3.2.2.2.1 q3.2.2.2.2) fun x3 => br (!x3) (some false) ((s_IsValidState_l1 a1 n1) (IntKind.wrap .i64 (v2 + 1)))) (s_IsValidState_j1 a1)
def s_IsValidState (a1 : LF) : Option Bool :=
  s_IsValidState_l1 a1 FU 0
theorem s_IsValidState_ok {a1 : LF} {r : Bool} (h : s_IsValidState a1 = some r) :
    Spec Try.prog 111 [.sl (encL EIIIII a1) a1.length] [] (.bool r) [] := by
 unfold s_IsValidState at h; refine SO Try.func111 rfl Try.ntmps111 fun C hN hρ => ?_; simp only [st0, tmps0, Nat.zero_add, Nat.reduceAdd]; refine AN hN ?_; refine AW_cutK (fun S => S = ⟨mkT [(0, .sl (encL EIIIII a1) a1.length)], mkR [], 64⟩ ∧ s_IsValidState_j1 a1 = some r) ?_ ?_
 ·refine AN hN ?_; refine AW_block ?_; refine AW_loopF (fun n S => ∃ (v2 : Int), S = ⟨mkT [(0, .sl (encL EIIIII a1) a1.length), (3, .int .i64 v2)], mkR [], 64⟩ ∧ s_IsValidState_l1 a1 n v2 = some r) FU ?_ ?_ ?_
  ·exact AC ⟨_, rfl, h⟩ [] [] hρ
  ·rintro S ⟨_, _, h⟩; rw [s_IsValidState_l1] at h; cases h
  ·rintro n1 S ⟨v2, rfl, h⟩; rw [s_IsValidState_l1] at h; refine AW_seq ?_; refine AN hN ?_; refine AB h (fun hc5 h => ?_) fun hc5 h => ?_
   ·refine AW_skip (AK ?_); refine AW_seq ?_; refine AW_block ?_; refine AR hN fun K hK => ?_; obtain ⟨q3, h7, h⟩ := bO_inv h; obtain ⟨⟨h8a, h8b⟩, h8c⟩ := geti_E EIIIIIl h7; (try simp only [EV, seval] at h8c); obtain ⟨x3, h9, h⟩ := bO_inv h; simp only [EV, seval, h8a, h8b, h8c]; refine rC_p (s_IsValidDOmega_ok h9) (by simp only [AL, EV, seval, h8a, h8b, h8c]) (le_d rfl) (no_j rfl) ?_; simp only [EV, seval, h8a, h8b, h8c]; refine hK _ _ _ ?_; clear hK K; refine AW_condK (a := .bool (!x3)) (by simp only [EV, seval, h8a, h8b, h8c]) (brK h (fun hc6 h => ?_) (fun hc6 h => ?_))
    ·refine AN hN ?_; injection h with h; subst h; exact AX (b' := 64) [(2, .bool false)] [] [] [] hρ (EQ [])
    ·refine AW_skip (AK ?_); refine AS hN fun K hK => ?_; simp only [EV, seval]; exact hK _ _ _ (AC ⟨_, rfl, h⟩ [] [] hρ)
   ·exact AW_exit (AC ⟨rfl, h⟩ [] [] hρ)
 ·rintro S ⟨rfl, h⟩; unfold s_IsValidState_j1 at h; obtain ⟨x4, h10, h⟩ := bO_inv h; refine AP hN (s_QubitCount_ok h10) ?_; injection h with h; subst h; exact AX (b' := 64) [(2, .bool (decide (0 < x4)))] [] [] [] hρ (EQ [])
/- impl.ScaleState -/
def i_ScaleState_j1 (v9 : LF) : Option (LF × Bool) :=
  some (v9, true)
def i_ScaleState_l1 (a1 : LF) (a2 a3 a4 a5 a6 : Int) : Nat → Int → Int → (LF) → Option (LF × Bool)
  | 0, _, _, _ => none
  | n1 + 1, v6, v7, v8 =>
  br (decide (v7 < v6)) (bO (geti a1 v7) fun q3 => bO (i_MulDOmega q3.1 q3.2.1 q3.2.2.1 q3.2.2.2.1 q3.2.2.2.2 a2 a3 a4 a5 a6) fun x4 => br (!x4.2.2.2.2.2) (some ([], false)) (gd (decide (v8.length + ([(x4.1, x4.2.1, x4.2.2.1, x4.2.2.2.1, x4.2.2.2.2.1)]).length ≤ 16777216)) ((i_ScaleState_l1 a1 a2 a3 a4 a5 a6 n1) v6 (IntKind.wrap .i64 (v7 + 1)) (v8 ++ ([(x4.1, x4.2.1, x4.2.2.1, x4.2.2.2.1, x4.2.2.2.2.1)]))))) (i_ScaleState_j1 v8)
def i_ScaleState (a1 : LF) (a2 a3 a4 a5 a6 : Int) : Option (LF × Bool) :=
  bO (i_IsValidState a1) fun x1 => br (!x1) (some ([], false)) (i_ScaleState_l1 a1 a2 a3 a4 a5 a6 FU ((a1.length : Int)) 0 ([] : LF))
theorem i_ScaleState_ok {a1 : LF} {a2 a3 a4 a5 a6 : Int} {r : LF × Bool} (h : i_ScaleState a1 a2 a3 a4 a5 a6 = some r) :
    Spec Try.prog 126 [.sl (encL EIIIII a1) a1.length, .agg [.int .i64 a2, .int .i64 a3, .int .i64 a4, .int .i64 a5, .int .i64 a6]] [] (.tup [.own 0 r.1.length, .bool r.2]) [.row 77 5 (encL EIIIII r.1)] := by
 unfold i_ScaleState at h; refine SO Try.func126 rfl Try.ntmps126 fun C hN hρ => ?_; simp only [st0, tmps0, Nat.zero_add, Nat.reduceAdd]; refine AN hN ?_; refine AW_seq ?_; obtain ⟨x1, h1, h⟩ := bO_inv h; refine AP hN (i_IsValidState_ok h1) ?_; refine AB h (fun hc1 h => ?_) fun hc1 h => ?_
 ·refine AN hN ?_; injection h with h; subst h; exact AX (b' := 64) [(4, .own 32 0), (5, .bool false)] [(32, .row 77 5 (encL EIIIII ([])))] [(32, none)] [] hρ (EQ [32])
 ·refine AW_skip (AK ?_); refine AN hN ?_; refine AW_cutK (fun S => ∃ (v9 : LF), S = ⟨mkT [(6, .own 32 v9.length)], mkR [(32, .row 77 5 (encL EIIIII v9))], 64⟩ ∧ i_ScaleState_j1 v9 = some r) ?_ ?_
  ·refine AN hN ?_; refine AW_block ?_; refine AW_loopF (fun n S => ∃ (v6 v7 : Int) (v8 : LF), S = ⟨mkT [(3, .ptr 32 0), (6, .own 33 v8.length), (15, .sl (encL EIIIII a1) a1.length), (16, .int .i64 v6), (17, .int .i64 v7)], mkR [(32, .box 77 [.int .i64 a2, .int .i64 a3, .int .i64 a4, .int .i64 a5, .int .i64 a6]), (33, .row 77 5 (encL EIIIII v8))], 64⟩ ∧ i_ScaleState_l1 a1 a2 a3 a4 a5 a6 n v6 v7 v8 = some r) FU ?_ ?_ ?_
   ·exact AC ⟨_, _, _, rfl, h⟩ [(32, some 64), (33, some 2112)] [] hρ
   ·rintro S ⟨_, _, _, _, h⟩; rw [i_ScaleState_l1] at h; cases h
   ·rintro n1 S ⟨v6, v7, v8, rfl, h⟩; rw [i_ScaleState_l1] at h; refine AN hN ?_; refine AW_seq ?_; refine AB h (fun hc6 h => ?_) fun hc6 h => ?_
    ·refine AW_skip (AK ?_); refine AW_seq ?_; refine AW_block ?_; refine AR hN fun K hK => ?_; obtain ⟨q3, h10, h⟩ := bO_inv h; obtain ⟨⟨h11a, h11b⟩, h11c⟩ := geti_E EIIIIIl h10; (try simp only [EV, seval] at h11c); simp only [EV, seval, h11a, h11b, h11c]; refine hK _ _ _ ?_; clear hK K; obtain ⟨x4, h12, h⟩ := bO_inv h; refine AP hN (i_MulDOmega_ok h12) ?_; refine AW_seq ?_; refine AN hN ?_; refine AB h (fun hc7 h => ?_) fun hc7 h => ?_
     ·refine AN hN ?_; injection h with h; subst h; exact AX (b' := 64) [(4, .own 32 0), (5, .bool false)] [(32, .row 77 5 (encL EIIIII ([])))] [(32, none)] [] hρ (EQ [32])
     ·refine AW_skip (AK ?_); refine AS hN fun K hK => ?_; obtain ⟨h13, h⟩ := gd_inv h; replace h13 := of_decide_eq_true h13; (try simp only [EV, seval] at h13); simp only [EV, seval, h13]; refine hK _ _ _ (show AW _ _ _ _ _ from ?_); refine AS hN fun K hK => ?_; simp only [EV, seval]; exact hK _ _ _ (AC ⟨_, _, _, rfl, h⟩ [(32, some 32), (33, some 4208)] [] hρ)
    ·exact AW_exit (AC ⟨_, rfl, h⟩ [(32, some 33)] [] hρ)
  ·rintro S ⟨v9, rfl, h⟩; unfold i_ScaleState_j1 at h; refine AN hN ?_; injection h with h; subst h; exact AX (b' := 64) [(4, .own 32 v9.length), (5, .bool true)] [(32, .row 77 5 (encL EIIIII v9))] [(32, some 32)] [] hρ (EQ [32])
/- spec.ScaleState -/
def s_ScaleState_j4 (v6 : Int) (v7 : LF) (kl1 : Int → (LF) → Option (LF × Bool)) (x7 : Int × Int × Int × Int × Int × Bool) (v8 : Bool) : Option (LF × Bool) :=
  br v8 (some ([], false)) (gd (decide (v7.length + ([(x7.1, x7.2.1, x7.2.2.1, x7.2.2.2.1, x7.2.2.2.2.1)]).length ≤ 16777216)) (kl1 (IntKind.wrap .i64 (v6 + 1)) (v7 ++ ([(x7.1, x7.2.1, x7.2.2.1, x7.2.2.2.1, x7.2.2.2.2.1)]))))
def s_ScaleState_j1 (a1 : LF) (v9 : LF) : Option (LF × Bool) :=
  bO (s_IsValidState a1) fun x11 => some (v9, x11)
def s_ScaleState_l1 (a1 : LF) (a2 a3 a4 a5 a6 : Int) : Nat → Int → (LF) → Option (LF × Bool)
  | 0, _, _ => none
  | n1 + 1, v6, v7 =>
  br (decide (v6 < ((a1.length : Int)))) (bO (geti a1 v6) fun q3 => bO (s_MulDOmega q3.1 q3.2.1 q3.2.2.1 q3.2.2.2.1 q3.2.2.2.2 a2 a3 a4 a5 a6) fun x7 => bO (br (!x7.2.2.2.2.2) (some true) (bO (s_IsValidState a1) fun x8 => some (!x8))) fun x9 => s_ScaleState_j4 v6 v7 (s_ScaleState_l1 a1 a2 a3 a4 a5 a6 n1) x7 x9) (s_ScaleState_j1 a1 v7)
def s_ScaleState (a1 : LF) (a2 a3 a4 a5 a6 : Int) : Option (LF × Bool) :=
  s_ScaleState_l1 a1 a2 a3 a4 a5 a6 FU 0 ([] : LF)
theorem s_ScaleState_ok {a1 : LF} {a2 a3 a4 a5 a6 : Int} {r : LF × Bool} (h : s_ScaleState a1 a2 a3 a4 a5 a6 = some r) :
    Spec Try.prog 70 [.sl (encL EIIIII a1) a1.length, .agg [.int .i64 a2, .int .i64 a3, .int .i64 a4, .int .i64 a5, .int .i64 a6]] [] (.tup [.own 0 r.1.length, .bool r.2]) [.row 77 5 (encL EIIIII r.1)] := by
 unfold s_ScaleState at h; refine SO Try.func70 rfl Try.ntmps70 fun C hN hρ => ?_; simp only [st0, tmps0, Nat.zero_add, Nat.reduceAdd]; refine AN hN ?_; refine AN hN ?_; refine AW_cutK (fun S => ∃ (v9 : LF), S = ⟨mkT [(0, .sl (encL EIIIII a1) a1.length), (6, .own 32 v9.length)], mkR [(32, .row 77 5 (encL EIIIII v9))], 64⟩ ∧ s_ScaleState_j1 a1 v9 = some r) ?_ ?_
 ·refine AN hN ?_; refine AW_block ?_; refine AW_loopF (fun n S => ∃ (v6 : Int) (v7 : LF), S = ⟨mkT [(0, .sl (encL EIIIII a1) a1.length), (3, .ptr 32 0), (6, .own 33 v7.length), (7, .int .i64 v6)], mkR [(32, .box 77 [.int .i64 a2, .int .i64 a3, .int .i64 a4, .int .i64 a5, .int .i64 a6]), (33, .row 77 5 (encL EIIIII v7))], 64⟩ ∧ s_ScaleState_l1 a1 a2 a3 a4 a5 a6 n v6 v7 = some r) FU ?_ ?_ ?_
  ·exact AC ⟨_, _, rfl, h⟩ [(32, some 64), (33, some 1088)] [] hρ
  ·rintro S ⟨_, _, _, h⟩; rw [s_ScaleState_l1] at h; cases h
  ·rintro n1 S ⟨v6, v7, rfl, h⟩; rw [s_ScaleState_l1] at h; refine AW_seq ?_; refine AN hN ?_; refine AB h (fun hc7 h => ?_) fun hc7 h => ?_
   ·refine AW_skip (AK ?_); refine AW_seq ?_; refine AW_block ?_; refine AR hN fun K hK => ?_; obtain ⟨q3, h11, h⟩ := bO_inv h; obtain ⟨⟨h12a, h12b⟩, h12c⟩ := geti_E EIIIIIl h11; (try simp only [EV, seval] at h12c); obtain ⟨x7, h13, h⟩ := bO_inv h; simp only [EV, seval, h12a, h12b, h12c]; refine rC_p (s_MulDOmega_ok h13) (by simp only [AL, EV, seval, h12a, h12b, h12c]) (le_d rfl) (no_j rfl) ?_; simp only [EV, seval, h12a, h12b, h12c]; refine hK _ _ _ ?_; clear hK K; refine AW_seq ?_; refine AJ (fun S => ∃ (v8 : Bool), S = ⟨mkT [(0, .sl (encL EIIIII a1) a1.length), (3, .ptr 32 0), (6, .own 33 v7.length), (7, .int .i64 v6), (8, .ptr 34 0), (32, .bool v8)], mkR [(32, .box 77 [.int .i64 a2, .int .i64 a3, .int .i64 a4, .int .i64 a5, .int .i64 a6]), (33, .row 77 5 (encL EIIIII v7)), (34, .box 77 [.int .i64 x7.1, .int .i64 x7.2.1, .int .i64 x7.2.2.1, .int .i64 x7.2.2.2.1, .int .i64 x7.2.2.2.2.1])], 64⟩ ∧ s_ScaleState_j4 v6 v7 (s_ScaleState_l1 a1 a2 a3 a4 a5 a6 n1) x7 v8 = some r) hN ?_ ?_
    ·intro K hK; obtain ⟨x9, hv3, h⟩ := bO_inv h; rcases br_inv hv3 with ⟨hc8, hv3⟩ | ⟨hc8, hv3⟩
     ·cases hv3; simp only [EV, seval, hc8]; refine hK _ _ _ (show cutK _ _ _ from cutL ⟨_, rfl, h⟩ (Le_can [(32, some 32), (33, some 33), (34, some 1232)] [] hρ (by kernel_rfl) ?_ ?_))
      ·simp only [AL, EV, seval, hc8]
      ·simp only [AL, EV, seval, hc8]
     ·obtain ⟨x10, h15, hv3⟩ := bO_inv hv3; simp only [EV, seval, hc8]; refine rC_p (s_IsValidState_ok h15) (by simp only [AL, EV, seval, hc8]) (le_d rfl) (no_j rfl) ?_; cases hv3; simp only [EV, seval, hc8]; refine hK _ _ _ (show cutK _ _ _ from cutL ⟨_, rfl, h⟩ (Le_can [(32, some 32), (33, some 33), (34, some 1232)] [] hρ (by kernel_rfl) ?_ ?_))
      ·simp only [AL, EV, seval, hc8]
      ·simp only [AL, EV, seval, hc8]
    ·rintro S ⟨v8, rfl, h⟩; unfold s_ScaleState_j4 at h; refine AW_condK (a := .bool v8) (by simp only [EV, seval, h12a, h12b, h12c]) (brK h (fun hc9 h => ?_) (fun hc9 h => ?_))
     ·refine AN hN ?_; injection h with h; subst h; exact AX (b' := 64) [(4, .own 32 0), (5, .bool false)] [(32, .row 77 5 (encL EIIIII ([])))] [(32, some 64)] [] hρ (EQ [32])
     ·refine AW_skip (AK ?_); refine AS hN fun K hK => ?_; obtain ⟨h16, h⟩ := gd_inv h; replace h16 := of_decide_eq_true h16; (try simp only [EV, seval] at h16); simp only [EV, seval, h16]; refine hK _ _ _ (show AW _ _ _ _ _ from ?_); refine AS hN fun K hK => ?_; simp only [EV, seval]; exact hK _ _ _ (AC ⟨_, _, rfl, h⟩ [(32, some 32), (33, some 112)] [] hρ)
   ·exact AW_exit (AC ⟨_, rfl, h⟩ [(32, some 33)] [] hρ)
 ·rintro S ⟨v9, rfl, h⟩; unfold s_ScaleState_j1 at h; obtain ⟨x11, h17, h⟩ := bO_inv h; refine AP hN (s_IsValidState_ok h17) ?_; injection h with h; subst h; exact AX (b' := 64) [(4, .own 32 v9.length), (5, .bool x11)] [(32, .row 77 5 (encL EIIIII v9))] [(32, some 32)] [] hρ (EQ [32])
/- impl.AddStates -/
def i_AddStates_j2 (v10 : LF) : Option (LF × Bool) :=
  some (v10, true)
def i_AddStates_l1 (a1 : LF) (a2 : LF) : Nat → Int → Int → (LF) → Option (LF × Bool)
  | 0, _, _, _ => none
  | n1 + 1, v7, v8, v9 =>
  br (decide (v8 < v7)) (bO (geti a1 v8) fun q5 => bO (geti a2 v8) fun q6 => bO (i_AddDOmega q5.1 q5.2.1 q5.2.2.1 q5.2.2.2.1 q5.2.2.2.2 q6.1 q6.2.1 q6.2.2.1 q6.2.2.2.1 q6.2.2.2.2) fun x10 => br (!x10.2.2.2.2.2) (some ([], false)) (gd (decide (v9.length + ([(x10.1, x10.2.1, x10.2.2.1, x10.2.2.2.1, x10.2.2.2.2.1)]).length ≤ 16777216)) ((i_AddStates_l1 a1 a2 n1) v7 (IntKind.wrap .i64 (v8 + 1)) (v9 ++ ([(x10.1, x10.2.1, x10.2.2.1, x10.2.2.2.1, x10.2.2.2.2.1)]))))) (i_AddStates_j2 v9)
def i_AddStates_j1 (a1 : LF) (a2 : LF) (v1 : Bool) : Option (LF × Bool) :=
  br v1 (some ([], false)) (i_AddStates_l1 a1 a2 FU ((a1.length : Int)) 0 ([] : LF))
def i_AddStates (a1 : LF) (a2 : LF) : Option (LF × Bool) :=
  bO (i_IsValidState a1) fun x1 => bO (br (!x1) (some true) (bO (i_IsValidState a2) fun x2 => some (!x2))) fun x3 => bO (br x3 (some true) (some (((a1.length : Int)) != ((a2.length : Int))))) fun x4 => i_AddStates_j1 a1 a2 x4
theorem i_AddStates_ok {a1 : LF} {a2 : LF} {r : LF × Bool} (h : i_AddStates a1 a2 = some r) :
    Spec Try.prog 161 [.sl (encL EIIIII a1) a1.length, .sl (encL EIIIII a2) a2.length] [] (.tup [.own 0 r.1.length, .bool r.2]) [.row 77 5 (encL EIIIII r.1)] := by
 unfold i_AddStates at h; refine SO Try.func161 rfl Try.ntmps161 fun C hN hρ => ?_; simp only [st0, tmps0, Nat.zero_add, Nat.reduceAdd]; refine AN hN ?_; refine AW_seq ?_; refine AJ (fun S => ∃ (v1 : Bool), S = ⟨mkT [(0, .sl (encL EIIIII a1) a1.length), (1, .sl (encL EIIIII a2) a2.length), (24, .bool v1)], mkR [], 64⟩ ∧ i_AddStates_j1 a1 a2 v1 = some r) hN ?_ ?_
 ·intro K hK; obtain ⟨x1, h1, h⟩ := bO_inv h; simp only [EV, seval]; refine CP (i_IsValidState_ok h1) ?_; obtain ⟨x3, hv1, h⟩ := bO_inv h; rcases br_inv hv1 with ⟨hc1, hv1⟩ | ⟨hc1, hv1⟩
  ·cases hv1; obtain ⟨x5, hv3, h⟩ := bO_inv h; replace hv3 := br_t hv3; cases hv3; (try dsimp only at h); simp only [EV, seval, hc1]; refine hK _ _ _ (show cutK _ _ _ from cutL ⟨_, rfl, h⟩ (Le_can [] [] hρ (by kernel_rfl) ?_ ?_))
   ·simp only [AL, EV, seval, hc1]
   ·simp only [AL, EV, seval, hc1]
  ·obtain ⟨x6, h3, hv1⟩ := bO_inv hv1; simp only [EV, seval, hc1]; refine rC_p (i_IsValidState_ok h3) (by simp only [AL, EV, seval, hc1]) (le_d rfl) (no_j rfl) ?_; cases hv1; obtain ⟨x7, hv4, h⟩ := bO_inv h; rcases br_inv hv4 with ⟨hc3, hv4⟩ | ⟨hc3, hv4⟩
   ·cases hv4; simp only [EV, seval, hc1, hc3]; refine hK _ _ _ (show cutK _ _ _ from cutL ⟨_, rfl, h⟩ (Le_can [] [] hρ (by kernel_rfl) ?_ ?_))
    ·simp only [AL, EV, seval, hc1, hc3]
    ·simp only [AL, EV, seval, hc1, hc3]
   ·cases hv4; simp only [EV, seval, hc1, hc3]; refine hK _ _ _ (show cutK _ _ _ from cutL ⟨_, rfl, h⟩ (Le_can [] [] hρ (by kernel_rfl) ?_ ?_))
    ·simp only [AL, EV, seval, hc1, hc3]
    ·simp only [AL, EV, seval, hc1, hc3]
 ·rintro S ⟨v1, rfl, h⟩; unfold i_AddStates_j1 at h; refine AB h (fun hc4 h => ?_) fun hc4 h => ?_
  ·refine AN hN ?_; injection h with h; subst h; exact AX (b' := 64) [(4, .own 32 0), (5, .bool false)] [(32, .row 77 5 (encL EIIIII ([])))] [(32, none)] [] hρ (EQ [32])
  ·refine AW_skip (AK ?_); refine AN hN ?_; refine AW_cutK (fun S => ∃ (v10 : LF), S = ⟨mkT [(6, .own 32 v10.length)], mkR [(32, .row 77 5 (encL EIIIII v10))], 64⟩ ∧ i_AddStates_j2 v10 = some r) ?_ ?_
   ·refine AN hN ?_; refine AW_block ?_; refine AW_loopF (fun n S => ∃ (v7 v8 : Int) (v9 : LF), S = ⟨mkT [(0, .sl (encL EIIIII a1) a1.length), (1, .sl (encL EIIIII a2) a2.length), (6, .own 32 v9.length), (27, .int .i64 v7), (28, .int .i64 v8)], mkR [(32, .row 77 5 (encL EIIIII v9))], 64⟩ ∧ i_AddStates_l1 a1 a2 n v7 v8 v9 = some r) FU ?_ ?_ ?_
    ·exact AC ⟨_, _, _, rfl, h⟩ [(32, some 64)] [] hρ
    ·rintro S ⟨_, _, _, _, h⟩; rw [i_AddStates_l1] at h; cases h
    ·rintro n1 S ⟨v7, v8, v9, rfl, h⟩; rw [i_AddStates_l1] at h; refine AN hN ?_; refine AW_seq ?_; refine AB h (fun hc9 h => ?_) fun hc9 h => ?_
     ·refine AW_skip (AK ?_); refine AW_seq ?_; refine AW_block ?_; refine AN hN ?_; refine AR hN fun K hK => ?_; obtain ⟨q5, h16, h⟩ := bO_inv h; obtain ⟨⟨h17a, h17b⟩, h17c⟩ := geti_E EIIIIIl h16; (try simp only [EV, seval] at h17c); obtain ⟨q6, h18, h⟩ := bO_inv h; obtain ⟨⟨h19a, h19b⟩, h19c⟩ := geti_E EIIIIIl h18; (try simp only [EV, seval] at h19c); obtain ⟨x10, h20, h⟩ := bO_inv h; simp only [EV, seval, h17a, h17b, h17c, h19a, h19b, h19c]; refine rC_p (i_AddDOmega_ok h20) (by simp only [AL, EV, seval, h17a, h17b, h17c, h19a, h19b, h19c]) (le_d rfl) (no_j rfl) ?_; simp only [EV, seval, h17a, h17b, h17c, h19a, h19b, h19c]; refine hK _ _ _ ?_; clear hK K; refine AW_seq ?_; refine AN hN ?_; refine AB h (fun hc10 h => ?_) fun hc10 h => ?_
      ·refine AN hN ?_; injection h with h; subst h; exact AX (b' := 64) [(4, .own 32 0), (5, .bool false)] [(32, .row 77 5 (encL EIIIII ([])))] [(32, none)] [] hρ (EQ [32])
      ·refine AW_skip (AK ?_); refine AS hN fun K hK => ?_; obtain ⟨h21, h⟩ := gd_inv h; replace h21 := of_decide_eq_true h21; (try simp only [EV, seval] at h21); simp only [EV, seval, h21]; refine hK _ _ _ (show AW _ _ _ _ _ from ?_); refine AS hN fun K hK => ?_; simp only [EV, seval]; exact hK _ _ _ (AC ⟨_, _, _, rfl, h⟩ [(32, some 4208)] [] hρ)
     ·exact AW_exit (AC ⟨_, rfl, h⟩ [(32, some 32)] [] hρ)
   ·rintro S ⟨v10, rfl, h⟩; unfold i_AddStates_j2 at h; refine AN hN ?_; injection h with h; subst h; exact AX (b' := 64) [(4, .own 32 v10.length), (5, .bool true)] [(32, .row 77 5 (encL EIIIII v10))] [(32, some 32)] [] hρ (EQ [32])
/- spec.AddStates -/
def s_AddStates_j2 (v7 : LF) : Option (LF × Bool) :=
  some (v7, true)
def s_AddStates_l1 (a1 : LF) (a2 : LF) : Nat → Int → (LF) → Option (LF × Bool)
  | 0, _, _ => none
  | n1 + 1, v5, v6 =>
  br (decide (v5 < ((a2.length : Int)))) (bO (geti a1 v5) fun q5 => bO (geti a2 v5) fun q6 => bO (s_AddDOmega q5.1 q5.2.1 q5.2.2.1 q5.2.2.2.1 q5.2.2.2.2 q6.1 q6.2.1 q6.2.2.1 q6.2.2.2.1 q6.2.2.2.2) fun x10 => br (!x10.2.2.2.2.2) (some ([], false)) (gd (decide (v6.length + ([(x10.1, x10.2.1, x10.2.2.1, x10.2.2.2.1, x10.2.2.2.2.1)]).length ≤ 16777216)) ((s_AddStates_l1 a1 a2 n1) (IntKind.wrap .i64 (v5 + 1)) (v6 ++ ([(x10.1, x10.2.1, x10.2.2.1, x10.2.2.2.1, x10.2.2.2.2.1)]))))) (s_AddStates_j2 v6)
def s_AddStates_j1 (a1 : LF) (a2 : LF) (v1 : Bool) : Option (LF × Bool) :=
  br v1 (some ([], false)) (s_AddStates_l1 a1 a2 FU 0 ([] : LF))
def s_AddStates (a1 : LF) (a2 : LF) : Option (LF × Bool) :=
  bO (s_IsValidState a1) fun x1 => bO (br (!x1) (some true) (bO (s_IsValidState a2) fun x2 => some (!x2))) fun x3 => bO (br x3 (some true) (some (((a1.length : Int)) != ((a2.length : Int))))) fun x4 => s_AddStates_j1 a1 a2 x4
theorem s_AddStates_ok {a1 : LF} {a2 : LF} {r : LF × Bool} (h : s_AddStates a1 a2 = some r) :
    Spec Try.prog 155 [.sl (encL EIIIII a1) a1.length, .sl (encL EIIIII a2) a2.length] [] (.tup [.own 0 r.1.length, .bool r.2]) [.row 77 5 (encL EIIIII r.1)] := by
 unfold s_AddStates at h; refine SO Try.func155 rfl Try.ntmps155 fun C hN hρ => ?_; simp only [st0, tmps0, Nat.zero_add, Nat.reduceAdd]; refine AN hN ?_; refine AW_seq ?_; refine AJ (fun S => ∃ (v1 : Bool), S = ⟨mkT [(0, .sl (encL EIIIII a1) a1.length), (1, .sl (encL EIIIII a2) a2.length), (24, .bool v1)], mkR [], 64⟩ ∧ s_AddStates_j1 a1 a2 v1 = some r) hN ?_ ?_
 ·intro K hK; obtain ⟨x1, h1, h⟩ := bO_inv h; simp only [EV, seval]; refine CP (s_IsValidState_ok h1) ?_; obtain ⟨x3, hv1, h⟩ := bO_inv h; rcases br_inv hv1 with ⟨hc1, hv1⟩ | ⟨hc1, hv1⟩
  ·cases hv1; obtain ⟨x5, hv3, h⟩ := bO_inv h; replace hv3 := br_t hv3; cases hv3; (try dsimp only at h); simp only [EV, seval, hc1]; refine hK _ _ _ (show cutK _ _ _ from cutL ⟨_, rfl, h⟩ (Le_can [] [] hρ (by kernel_rfl) ?_ ?_))
   ·simp only [AL, EV, seval, hc1]
   ·simp only [AL, EV, seval, hc1]
  ·obtain ⟨x6, h3, hv1⟩ := bO_inv hv1; simp only [EV, seval, hc1]; refine rC_p (s_IsValidState_ok h3) (by simp only [AL, EV, seval, hc1]) (le_d rfl) (no_j rfl) ?_; cases hv1; obtain ⟨x7, hv4, h⟩ := bO_inv h; rcases br_inv hv4 with ⟨hc3, hv4⟩ | ⟨hc3, hv4⟩
   ·cases hv4; simp only [EV, seval, hc1, hc3]; refine hK _ _ _ (show cutK _ _ _ from cutL ⟨_, rfl, h⟩ (Le_can [] [] hρ (by kernel_rfl) ?_ ?_))
    ·simp only [AL, EV, seval, hc1, hc3]
    ·simp only [AL, EV, seval, hc1, hc3]
   ·cases hv4; simp only [EV, seval, hc1, hc3]; refine hK _ _ _ (show cutK _ _ _ from cutL ⟨_, rfl, h⟩ (Le_can [] [] hρ (by kernel_rfl) ?_ ?_))
    ·simp only [AL, EV, seval, hc1, hc3]
    ·simp only [AL, EV, seval, hc1, hc3]
 ·rintro S ⟨v1, rfl, h⟩; unfold s_AddStates_j1 at h; refine AB h (fun hc4 h => ?_) fun hc4 h => ?_
  ·refine AN hN ?_; injection h with h; subst h; exact AX (b' := 64) [(4, .own 32 0), (5, .bool false)] [(32, .row 77 5 (encL EIIIII ([])))] [(32, some 64)] [] hρ (EQ [32])
  ·refine AW_skip (AK ?_); refine AN hN ?_; refine AW_cutK (fun S => ∃ (v7 : LF), S = ⟨mkT [(6, .own 32 v7.length)], mkR [(32, .row 77 5 (encL EIIIII v7))], 64⟩ ∧ s_AddStates_j2 v7 = some r) ?_ ?_
   ·refine AN hN ?_; refine AW_block ?_; refine AW_loopF (fun n S => ∃ (v5 : Int) (v6 : LF), S = ⟨mkT [(0, .sl (encL EIIIII a1) a1.length), (1, .sl (encL EIIIII a2) a2.length), (6, .own 32 v6.length), (7, .int .i64 v5)], mkR [(32, .row 77 5 (encL EIIIII v6))], 64⟩ ∧ s_AddStates_l1 a1 a2 n v5 v6 = some r) FU ?_ ?_ ?_
    ·exact AC ⟨_, _, rfl, h⟩ [(32, some 64)] [] hρ
    ·rintro S ⟨_, _, _, h⟩; rw [s_AddStates_l1] at h; cases h
    ·rintro n1 S ⟨v5, v6, rfl, h⟩; rw [s_AddStates_l1] at h; refine AW_seq ?_; refine AN hN ?_; refine AB h (fun hc9 h => ?_) fun hc9 h => ?_
     ·refine AW_skip (AK ?_); refine AW_seq ?_; refine AW_block ?_; refine AR hN fun K hK => ?_; obtain ⟨q5, h16, h⟩ := bO_inv h; obtain ⟨⟨h17a, h17b⟩, h17c⟩ := geti_E EIIIIIl h16; (try simp only [EV, seval] at h17c); obtain ⟨q6, h18, h⟩ := bO_inv h; obtain ⟨⟨h19a, h19b⟩, h19c⟩ := geti_E EIIIIIl h18; (try simp only [EV, seval] at h19c); obtain ⟨x10, h20, h⟩ := bO_inv h; simp only [EV, seval, h17a, h17b, h17c, h19a, h19b, h19c]; refine rC_p (s_AddDOmega_ok h20) (by simp only [AL, EV, seval, h17a, h17b, h17c, h19a, h19b, h19c]) (le_d rfl) (no_j rfl) ?_; simp only [EV, seval, h17a, h17b, h17c, h19a, h19b, h19c]; refine hK _ _ _ ?_; clear hK K; refine AW_seq ?_; refine AN hN ?_; refine AB h (fun hc10 h => ?_) fun hc10 h => ?_
      ·refine AN hN ?_; injection h with h; subst h; exact AX (b' := 64) [(4, .own 32 0), (5, .bool false)] [(32, .row 77 5 (encL EIIIII ([])))] [(32, some 3136)] [] hρ (EQ [32])
      ·refine AW_skip (AK ?_); refine AS hN fun K hK => ?_; obtain ⟨h21, h⟩ := gd_inv h; replace h21 := of_decide_eq_true h21; (try simp only [EV, seval] at h21); simp only [EV, seval, h21]; refine hK _ _ _ (show AW _ _ _ _ _ from ?_); refine AS hN fun K hK => ?_; simp only [EV, seval]; exact hK _ _ _ (AC ⟨_, _, rfl, h⟩ [(32, some 3184)] [] hρ)
     ·exact AW_exit (AC ⟨_, rfl, h⟩ [(32, some 32)] [] hρ)
   ·rintro S ⟨v7, rfl, h⟩; unfold s_AddStates_j2 at h; refine AN hN ?_; injection h with h; subst h; exact AX (b' := 64) [(4, .own 32 v7.length), (5, .bool true)] [(32, .row 77 5 (encL EIIIII v7))] [(32, some 32)] [] hρ (EQ [32])
/- impl.InvSqrt2Power -/
def i_InvSqrt2Power (a1 : Int) : Option (Int × Int × Int × Int × Int) :=
  bO (i_in a1 0 60) fun x1 => br (!x1) (some (0, 0, 0, 0, 0)) (some (1, 0, 0, 0, a1))
theorem i_InvSqrt2Power_ok {a1 : Int} {r : Int × Int × Int × Int × Int} (h : i_InvSqrt2Power a1 = some r) :
    Spec Try.prog 162 [.int .i64 a1] [] (.agg [.int .i64 r.1, .int .i64 r.2.1, .int .i64 r.2.2.1, .int .i64 r.2.2.2.1, .int .i64 r.2.2.2.2]) [] := by
 unfold i_InvSqrt2Power at h; refine SO Try.func162 rfl Try.ntmps162 fun C hN hρ => ?_; simp only [st0, tmps0, Nat.zero_add, Nat.reduceAdd]; refine AN hN ?_; refine AW_seq ?_; obtain ⟨x1, h1, h⟩ := bO_inv h; refine AP hN (i_in_ok h1) ?_; refine AB h (fun hc1 h => ?_) fun hc1 h => ?_
 ·refine AN hN ?_; injection h with h; subst h; exact AX (b' := 64) [(2, .ptr 32 0)] [(32, .box 77 [.int .i64 0, .int .i64 0, .int .i64 0, .int .i64 0, .int .i64 0])] [(32, some 64)] [] hρ (EQ [])
 ·refine AW_skip (AK ?_); refine AN hN ?_; injection h with h; subst h; exact AX (b' := 64) [(2, .ptr 32 0)] [(32, .box 77 [.int .i64 1, .int .i64 0, .int .i64 0, .int .i64 0, .int .i64 a1])] [(32, some 64)] [] hρ (EQ [])
/- spec.InvSqrt2Power -/
def s_InvSqrt2Power (a1 : Int) : Option (Int × Int × Int × Int × Int) :=
  bO (s_l1In a1 0 60) fun x1 => br (!x1) (some (0, 0, 0, 0, 0)) (some (1, 0, 0, 0, a1))
theorem s_InvSqrt2Power_ok {a1 : Int} {r : Int × Int × Int × Int × Int} (h : s_InvSqrt2Power a1 = some r) :
    Spec Try.prog 117 [.int .i64 a1] [] (.agg [.int .i64 r.1, .int .i64 r.2.1, .int .i64 r.2.2.1, .int .i64 r.2.2.2.1, .int .i64 r.2.2.2.2]) [] := by
 unfold s_InvSqrt2Power at h; refine SO Try.func117 rfl Try.ntmps117 fun C hN hρ => ?_; simp only [st0, tmps0, Nat.zero_add, Nat.reduceAdd]; refine AN hN ?_; refine AW_seq ?_; obtain ⟨x1, h1, h⟩ := bO_inv h; refine AP hN (s_l1In_ok h1) ?_; refine AB h (fun hc1 h => ?_) fun hc1 h => ?_
 ·refine AN hN ?_; injection h with h; subst h; exact AX (b' := 64) [(2, .ptr 32 0)] [(32, .box 77 [.int .i64 0, .int .i64 0, .int .i64 0, .int .i64 0, .int .i64 0])] [(32, some 64)] [] hρ (EQ [])
 ·refine AW_skip (AK ?_); refine AN hN ?_; injection h with h; subst h; exact AX (b' := 64) [(2, .ptr 32 0)] [(32, .box 77 [.int .i64 1, .int .i64 0, .int .i64 0, .int .i64 0, .int .i64 a1])] [(32, some 64)] [] hρ (EQ [])
/- impl.PhaseFactor -/
def i_PhaseFactor_j2 (v3 v4 v5 v6 : Int) : Option (Int × Int × Int × Int × Int) :=
  some (v3, v4, v5, v6, 0)
def i_PhaseFactor_j1 (v1 v2 : Int) : Option (Int × Int × Int × Int × Int) :=
  br ((Int.tmod v1 4) == 0) (i_PhaseFactor_j2 v2 0 0 0) (br ((Int.tmod v1 4) == 1) (i_PhaseFactor_j2 0 v2 0 0) (br ((Int.tmod v1 4) == 2) (i_PhaseFactor_j2 0 0 v2 0) (br ((Int.tmod v1 4) == 3) (i_PhaseFactor_j2 0 0 0 v2) (i_PhaseFactor_j2 0 0 0 0))))
def i_PhaseFactor (a1 : Int) : Option (Int × Int × Int × Int × Int) :=
  br (decide (4 ≤ (Int.tmod (IntKind.wrap .i64 ((Int.tmod a1 8) + 8)) 8))) (i_PhaseFactor_j1 (Int.tmod (IntKind.wrap .i64 ((Int.tmod a1 8) + 8)) 8) (-1)) (i_PhaseFactor_j1 (Int.tmod (IntKind.wrap .i64 ((Int.tmod a1 8) + 8)) 8) 1)
theorem i_PhaseFactor_ok {a1 : Int} {r : Int × Int × Int × Int × Int} (h : i_PhaseFactor a1 = some r) :
    Spec Try.prog 49 [.int .i64 a1] [] (.agg [.int .i64 r.1, .int .i64 r.2.1, .int .i64 r.2.2.1, .int .i64 r.2.2.2.1, .int .i64 r.2.2.2.2]) [] := by
 unfold i_PhaseFactor at h; refine SO Try.func49 rfl Try.ntmps49 fun C hN hρ => ?_; simp only [st0, tmps0, Nat.zero_add, Nat.reduceAdd]; refine AN hN ?_; refine AN hN ?_; refine AN hN ?_; refine AW_cutK (fun S => ∃ (v1 v2 : Int), S = ⟨mkT [(2, .ptr 32 0), (3, .int .i64 v1), (4, .int .i64 v2)], mkR [(32, .box 77 [.int .i64 0, .int .i64 0, .int .i64 0, .int .i64 0, .int .i64 0])], 64⟩ ∧ i_PhaseFactor_j1 v1 v2 = some r) ?_ ?_
 ·refine AN hN ?_; refine AB h (fun hc1 h => ?_) fun hc1 h => ?_
  ·refine AS hN fun K hK => ?_; simp only [EV, seval]; exact hK _ _ _ (AC ⟨_, _, rfl, h⟩ [(32, some 64)] [] hρ)
  ·refine AW_skip (show cutK _ _ _ from cutL ⟨_, _, rfl, h⟩ (Le_can [(32, some 64)] [] hρ (by kernel_rfl) ?_ ?_))
   ·simp only [AL, EV, seval]
   ·simp only [AL, EV, seval]
 ·rintro S ⟨v1, v2, rfl, h⟩; unfold i_PhaseFactor_j1 at h; refine AN hN ?_; refine AW_cutK (fun S => ∃ (v3 v4 v5 v6 : Int), S = ⟨mkT [(2, .ptr 32 0), (5, .ptr 33 0)], mkR [(32, .box 77 [.int .i64 0, .int .i64 0, .int .i64 0, .int .i64 0, .int .i64 0]), (33, .box 75 [.int .i64 v3, .int .i64 v4, .int .i64 v5, .int .i64 v6])], 64⟩ ∧ i_PhaseFactor_j2 v3 v4 v5 v6 = some r) ?_ ?_
  ·refine AN hN ?_; refine AW_block ?_; refine AN hN ?_; refine AB h (fun hc2 h => ?_) fun hc2 h => ?_
   ·refine AS hN fun K hK => ?_; simp only [EV, seval]; exact hK _ _ _ (AC ⟨_, _, _, _, rfl, h⟩ [(32, some 32), (33, some 80)] [] hρ)
   ·refine AN hN ?_; refine AB h (fun hc3 h => ?_) fun hc3 h => ?_
    ·refine AS hN fun K hK => ?_; simp only [EV, seval]; exact hK _ _ _ (AC ⟨_, _, _, _, rfl, h⟩ [(32, some 32), (33, some 80)] [] hρ)
    ·refine AN hN ?_; refine AB h (fun hc4 h => ?_) fun hc4 h => ?_
     ·refine AS hN fun K hK => ?_; simp only [EV, seval]; exact hK _ _ _ (AC ⟨_, _, _, _, rfl, h⟩ [(32, some 32), (33, some 80)] [] hρ)
     ·refine AN hN ?_; refine AB h (fun hc5 h => ?_) fun hc5 h => ?_
      ·refine AS hN fun K hK => ?_; simp only [EV, seval]; exact hK _ _ _ (AC ⟨_, _, _, _, rfl, h⟩ [(32, some 32), (33, some 80)] [] hρ)
      ·refine AW_skip (show cutK _ _ _ from cutL ⟨_, _, _, _, rfl, h⟩ (Le_can [(32, some 32), (33, some 80)] [] hρ (by kernel_rfl) ?_ ?_))
       ·simp only [AL, EV, seval]
       ·simp only [AL, EV, seval]
  ·rintro S ⟨v3, v4, v5, v6, rfl, h⟩; unfold i_PhaseFactor_j2 at h; refine AN hN ?_; injection h with h; subst h; exact AX (b' := 64) [(2, .ptr 32 0)] [(32, .box 77 [.int .i64 v3, .int .i64 v4, .int .i64 v5, .int .i64 v6, .int .i64 0])] [(32, some 32)] [] hρ (EQ [])
/- spec.PhaseFactor -/
def s_PhaseFactor_j1 (v1 : Int) : Option (Int × Int × Int × Int × Int) :=
  bO (geti ([(1, 0, 0, 0), (0, 1, 0, 0), (0, 0, 1, 0), (0, 0, 0, 1), (-1, 0, 0, 0), (0, -1, 0, 0), (0, 0, -1, 0), (0, 0, 0, -1)]) v1) fun q1 => some (q1.1, q1.2.1, q1.2.2.1, q1.2.2.2, 0)
def s_PhaseFactor (a1 : Int) : Option (Int × Int × Int × Int × Int) :=
  br (decide ((Int.tmod a1 8) < 0)) (s_PhaseFactor_j1 (IntKind.wrap .i64 ((Int.tmod a1 8) + 8))) (s_PhaseFactor_j1 (Int.tmod a1 8))
theorem s_PhaseFactor_ok {a1 : Int} {r : Int × Int × Int × Int × Int} (h : s_PhaseFactor a1 = some r) :
    Spec Try.prog 45 [.int .i64 a1] [] (.agg [.int .i64 r.1, .int .i64 r.2.1, .int .i64 r.2.2.1, .int .i64 r.2.2.2.1, .int .i64 r.2.2.2.2]) [] := by
 unfold s_PhaseFactor at h; refine SO Try.func45 rfl Try.ntmps45 fun C hN hρ => ?_; simp only [st0, tmps0, Nat.zero_add, Nat.reduceAdd]; refine AN hN ?_; refine AN hN ?_; refine AW_cutK (fun S => ∃ (v1 : Int), S = ⟨mkT [(0, .int .i64 v1), (2, .ptr 32 0)], mkR [(32, .box 77 [.int .i64 0, .int .i64 0, .int .i64 0, .int .i64 0, .int .i64 0])], 64⟩ ∧ s_PhaseFactor_j1 v1 = some r) ?_ ?_
 ·refine AN hN ?_; refine AB h (fun hc1 h => ?_) fun hc1 h => ?_
  ·refine AS hN fun K hK => ?_; simp only [EV, seval]; exact hK _ _ _ (AC ⟨_, rfl, h⟩ [(32, some 64)] [] hρ)
  ·refine AW_skip (show cutK _ _ _ from cutL ⟨_, rfl, h⟩ (Le_can [(32, some 64)] [] hρ (by kernel_rfl) ?_ ?_))
   ·simp only [AL, EV, seval]
   ·simp only [AL, EV, seval]
 ·rintro S ⟨v1, rfl, h⟩; unfold s_PhaseFactor_j1 at h; refine AN hN ?_; refine AR hN fun K hK => ?_; obtain ⟨q1, h1, h⟩ := bO_inv h; obtain ⟨⟨h2a, h2b⟩, h2c⟩ := geti_E EIIIIl h1; (try simp only [EV, seval] at h2c); (try simp only [EV, seval] at h2b); simp only [EV, seval, h2a, h2b, h2c]; refine hK _ _ _ ?_; clear hK K; injection h with h; subst h; refine AW_le (Le_can (lt := [(2, .ptr 32 0)]) (lr := [(32, .box 77 [.int .i64 q1.1, .int .i64 q1.2.1, .int .i64 q1.2.2.1, .int .i64 q1.2.2.2, .int .i64 0])]) (b' := 64) [(32, some 32)] [] hρ (by kernel_rfl) ?_ ?_) (AW_ret (end_q [] (.inr rfl) (by kernel_rfl) (by kernel_rfl) ?_))
  ·simp only [AL, EV, seval, h2a, h2b, h2c]
  ·simp only [AL, EV, seval, h2a, h2b, h2c]
  ·simp only [EV, Try.results45, seval]
end Go.Proofs.Ytflfodcgoffjkaa
/- Models of functions, and that the functions do what the models say; printed by a program. -/
namespace Go.Proofs.Ytflfodcgoffjkaa
open Go.RowKit
set_option maxRecDepth 100000
set_option linter.unusedVariables false
set_option linter.unusedSimpArgs false
set_option linter.defProp false
set_option maxHeartbeats 4000000
/- impl.IsValidMatrix -/
def i_IsValidMatrix_j4 (v6 v7 : Int) (kl1 : Int → Int → Option Bool) (v8 : Bool) : Option Bool :=
  br v8 (some false) (kl1 v6 (IntKind.wrap .i64 (v7 + 1)))
def i_IsValidMatrix_j1 (a1 : List (LF)) : Option Bool :=
  some (decide (0 < ((a1.length : Int))))
def i_IsValidMatrix_l1 (a1 : List (LF)) : Nat → Int → Int → Option Bool
  | 0, _, _ => none
  | n1 + 1, v6, v7 =>
  br (decide (v7 < v6)) (bO (geti a1 v7) fun q3 => bO (br (((q3.length : Int)) != ((a1.length : Int))) (some true) (bO (i_IsValidState q3) fun x5 => some (!x5))) fun x6 => i_IsValidMatrix_j4 v6 v7 (i_IsValidMatrix_l1 a1 n1) x6) (i_IsValidMatrix_j1 a1)
def i_IsValidMatrix (a1 : List (LF)) : Option Bool :=
  i_IsValidMatrix_l1 a1 FU ((a1.length : Int)) 0
theorem i_IsValidMatrix_ok {a1 : List (LF)} {r : Bool} (h : i_IsValidMatrix a1 = some r) :
    Spec Try.prog 191 [.sl (encL ELIIIIIE a1) a1.length] [] (.bool r) [] := by
 unfold i_IsValidMatrix at h; refine SO Try.func191 rfl Try.ntmps191 fun C hN hρ => ?_; simp only [st0, tmps0, Nat.zero_add, Nat.reduceAdd]; refine AN hN ?_; refine AW_cutK (fun S => S = ⟨mkT [(0, .sl (encL ELIIIIIE a1) a1.length)], mkR [], 64⟩ ∧ i_IsValidMatrix_j1 a1 = some r) ?_ ?_
 ·refine AN hN ?_; refine AW_block ?_; refine AW_loopF (fun n S => ∃ (v6 v7 : Int), S = ⟨mkT [(0, .sl (encL ELIIIIIE a1) a1.length), (5, .sl (encL ELIIIIIE a1) a1.length), (6, .int .i64 v6), (7, .int .i64 v7)], mkR [], 64⟩ ∧ i_IsValidMatrix_l1 a1 n v6 v7 = some r) FU ?_ ?_ ?_
  ·exact AC ⟨_, _, rfl, h⟩ [] [] hρ
  ·rintro S ⟨_, _, _, h⟩; rw [i_IsValidMatrix_l1] at h; cases h
  ·rintro n1 S ⟨v6, v7, rfl, h⟩; rw [i_IsValidMatrix_l1] at h; refine AN hN ?_; refine AW_seq ?_; refine AB h (fun hc7 h => ?_) fun hc7 h => ?_
   ·refine AW_skip (AK ?_); refine AW_seq ?_; refine AW_block ?_; refine AR hN fun K hK => ?_; obtain ⟨q3, h7, h⟩ := bO_inv h; obtain ⟨⟨h8a, h8b⟩, h8c⟩ := geti_E ELIIIIIEl h7; (try simp only [EV, seval] at h8c); simp only [EV, seval, h8a, h8b, h8c]; refine hK _ _ _ ?_; clear hK K; refine AJ (fun S => ∃ (v8 : Bool), S = ⟨mkT [(0, .sl (encL ELIIIIIE a1) a1.length), (5, .sl (encL ELIIIIIE a1) a1.length), (6, .int .i64 v6), (7, .int .i64 v7), (20, .bool v8)], mkR [], 64⟩ ∧ i_IsValidMatrix_j4 v6 v7 (i_IsValidMatrix_l1 a1 n1) v8 = some r) hN ?_ ?_
    ·intro K hK; obtain ⟨x6, hv3, h⟩ := bO_inv h; rcases br_inv hv3 with ⟨hc8, hv3⟩ | ⟨hc8, hv3⟩
     ·cases hv3; simp only [EV, seval, hc8]; refine hK _ _ _ (show cutK _ _ _ from cutL ⟨_, rfl, h⟩ (Le_can [] [] hρ (by kernel_rfl) ?_ ?_))
      ·simp only [AL, EV, seval, hc8]
      ·simp only [AL, EV, seval, hc8]
     ·obtain ⟨x7, h10, hv3⟩ := bO_inv hv3; simp only [EV, seval, hc8]; refine rC_p (i_IsValidState_ok h10) (by simp only [AL, EV, seval, hc8]) (le_d rfl) (no_j rfl) ?_; cases hv3; simp only [EV, seval, hc8]; refine hK _ _ _ (show cutK _ _ _ from cutL ⟨_, rfl, h⟩ (Le_can [] [] hρ (by kernel_rfl) ?_ ?_))
      ·simp only [AL, EV, seval, hc8]
      ·simp only [AL, EV, seval, hc8]
    ·rintro S ⟨v8, rfl, h⟩; unfold i_IsValidMatrix_j4 at h; refine AW_condK (a := .bool v8) (by simp only [EV, seval, h8a, h8b, h8c]) (brK h (fun hc9 h => ?_) (fun hc9 h => ?_))
     ·refine AN hN ?_; injection h with h; subst h; exact AX (b' := 64) [(2, .bool false)] [] [] [] hρ (EQ [])
     ·refine AW_skip (AK ?_); refine AS hN fun K hK => ?_; simp only [EV, seval]; exact hK _ _ _ (AC ⟨_, _, rfl, h⟩ [] [] hρ)
   ·exact AW_exit (AC ⟨rfl, h⟩ [] [] hρ)
 ·rintro S ⟨rfl, h⟩; unfold i_IsValidMatrix_j1 at h; refine AN hN ?_; injection h with h; subst h; exact AX (b' := 64) [(2, .bool (decide (0 < ((a1.length : Int)))))] [] [] [] hρ (EQ [])
/- spec.IsValidMatrix -/
def s_IsValidMatrix_j4 (v4 : Int) (kl1 : Int → Option Bool) (v5 : Bool) : Option Bool :=
  br v5 (some false) (kl1 (IntKind.wrap .i64 (v4 + 1)))
def s_IsValidMatrix_j1 (a1 : List (LF)) : Option Bool :=
  some (decide (0 < ((a1.length : Int))))
def s_IsValidMatrix_l1 (a1 : List (LF)) : Nat → Int → Option Bool
  | 0, _ => none
  | n1 + 1, v4 =>
  br (decide (v4 < ((a1.length : Int)))) (bO (geti a1 v4) fun q3 => bO (br (((q3.length : Int)) != ((a1.length : Int))) (some true) (bO (s_IsValidState q3) fun x5 => some (!x5))) fun x6 => s_IsValidMatrix_j4 v4 (s_IsValidMatrix_l1 a1 n1) x6) (s_IsValidMatrix_j1 a1)
def s_IsValidMatrix (a1 : List (LF)) : Option Bool :=
  s_IsValidMatrix_l1 a1 FU 0
theorem s_IsValidMatrix_ok {a1 : List (LF)} {r : Bool} (h : s_IsValidMatrix a1 = some r) :
    Spec Try.prog 188 [.sl (encL ELIIIIIE a1) a1.length] [] (.bool r) [] := by
 unfold s_IsValidMatrix at h; refine SO Try.func188 rfl Try.ntmps188 fun C hN hρ => ?_; simp only [st0, tmps0, Nat.zero_add, Nat.reduceAdd]; refine AN hN ?_; refine AW_cutK (fun S => S = ⟨mkT [(0, .sl (encL ELIIIIIE a1) a1.length)], mkR [], 64⟩ ∧ s_IsValidMatrix_j1 a1 = some r) ?_ ?_
 ·refine AN hN ?_; refine AW_block ?_; refine AW_loopF (fun n S => ∃ (v4 : Int), S = ⟨mkT [(0, .sl (encL ELIIIIIE a1) a1.length), (3, .int .i64 v4)], mkR [], 64⟩ ∧ s_IsValidMatrix_l1 a1 n v4 = some r) FU ?_ ?_ ?_
  ·exact AC ⟨_, rfl, h⟩ [] [] hρ
  ·rintro S ⟨_, _, h⟩; rw [s_IsValidMatrix_l1] at h; cases h
  ·rintro n1 S ⟨v4, rfl, h⟩; rw [s_IsValidMatrix_l1] at h; refine AW_seq ?_; refine AN hN ?_; refine AB h (fun hc7 h => ?_) fun hc7 h => ?_
   ·refine AW_skip (AK ?_); refine AW_seq ?_; refine AW_block ?_; refine AJ (fun S => ∃ (v5 : Bool), S = ⟨mkT [(0, .sl (encL ELIIIIIE a1) a1.length), (3, .int .i64 v4), (25, .bool v5)], mkR [], 64⟩ ∧ s_IsValidMatrix_j4 v4 (s_IsValidMatrix_l1 a1 n1) v5 = some r) hN ?_ ?_
    ·intro K hK; obtain ⟨q3, h7, h⟩ := bO_inv h; obtain ⟨⟨h8a, h8b⟩, h8c⟩ := geti_E ELIIIIIEl h7; (try simp only [EV, seval] at h8c); obtain ⟨x6, hv3, h⟩ := bO_inv h; rcases br_inv hv3 with ⟨hc8, hv3⟩ | ⟨hc8, hv3⟩
     ·cases hv3; simp only [EV, seval, h8a, h8b, h8c, hc8]; refine hK _ _ _ (show cutK _ _ _ from cutL ⟨_, rfl, h⟩ (Le_can [] [] hρ (by kernel_rfl) ?_ ?_))
      ·simp only [AL, EV, seval, h8a, h8b, h8c, hc8]
      ·simp only [AL, EV, seval, h8a, h8b, h8c, hc8]
     ·obtain ⟨x7, h10, hv3⟩ := bO_inv hv3; simp only [EV, seval, h8a, h8b, h8c, hc8]; refine rC_p (s_IsValidState_ok h10) (by simp only [AL, EV, seval, h8a, h8b, h8c, hc8]) (le_d rfl) (no_j rfl) ?_; cases hv3; simp only [EV, seval, h8a, h8b, h8c, hc8]; refine hK _ _ _ (show cutK _ _ _ from cutL ⟨_, rfl, h⟩ (Le_can [] [] hρ (by kernel_rfl) ?_ ?_))
      ·simp only [AL, EV, seval, h8a, h8b, h8c, hc8]
      ·simp only [AL, EV, seval, h8a, h8b, h8c, hc8]
    ·rintro S ⟨v5, rfl, h⟩; unfold s_IsValidMatrix_j4 at h; refine AB h (fun hc9 h => ?_) fun hc9 h => ?_
     ·refine AN hN ?_; injection h with h; subst h; exact AX (b' := 64) [(2, .bool false)] [] [] [] hρ (EQ [])
     ·refine AW_skip (AK ?_); refine AS hN fun K hK => ?_; simp only [EV, seval]; exact hK _ _ _ (AC ⟨_, rfl, h⟩ [] [] hρ)
   ·exact AW_exit (AC ⟨rfl, h⟩ [] [] hρ)
 ·rintro S ⟨rfl, h⟩; unfold s_IsValidMatrix_j1 at h; refine AN hN ?_; injection h with h; subst h; exact AX (b' := 64) [(2, .bool (decide (0 < ((a1.length : Int)))))] [] [] [] hρ (EQ [])
/- impl.flipped -/
def i_flipped_j6 (v26 v27 : Int) (kl3 : Int → Int → (List (LF)) → Option (List (LF))) (v38 : List (LF)) : Option (List (LF)) :=
  kl3 v26 (IntKind.wrap .i64 (v27 + 1)) v38
def i_flipped_j7 (v26 v27 : Int) (v28 : List (LF)) (kl3 : Int → Int → (List (LF)) → Option (List (LF))) (v37 : LF) : Option (List (LF)) :=
  gd (decide (v28.length + ([v37]).length ≤ 16777216)) (i_flipped_j6 v26 v27 kl3 (v28 ++ ([v37])))
def i_flipped_l4 (a1 : List (LF)) (v26 v27 : Int) (v28 : List (LF)) (kl3 : Int → Int → (List (LF)) → Option (List (LF))) : Nat → Int → Int → (LF) → Option (List (LF))
  | 0, _, _, _ => none
  | n4 + 1, v34, v35, v36 =>
  br (decide (v35 < v34)) (bO (geti a1 v35) fun q17 => bO (geti q17 v27) fun q18 => gd (decide (v36.length + ([(q18.1, q18.2.1, q18.2.2.1, q18.2.2.2.1, q18.2.2.2.2)]).length ≤ 16777216)) ((i_flipped_l4 a1 v26 v27 v28 kl3 n4) v34 (IntKind.wrap .i64 (v35 + 1)) (v36 ++ ([(q18.1, q18.2.1, q18.2.2.1, q18.2.2.2.1, q18.2.2.2.2)])))) (i_flipped_j7 v26 v27 v28 kl3 v36)
def i_flipped_j1 (v39 : List (LF)) : Option (List (LF)) :=
  some v39
def i_flipped_l1 (a1 : List (LF)) : Nat → Int → Int → (List (LF)) → Option (List (LF))
  | 0, _, _, _ => none
  | n3 + 1, v26, v27, v28 =>
  br (decide (v27 < v26)) (i_flipped_l4 a1 v26 v27 v28 (i_flipped_l1 a1 n3) FU ((a1.length : Int)) 0 ([] : LF)) (i_flipped_j1 v28)
def i_flipped (a1 : List (LF)) : Option (List (LF)) :=
  i_flipped_l1 a1 FU ((a1.length : Int)) 0 ([] : List (LF))
theorem i_flipped_ok {a1 : List (LF)} {r : List (LF)} (h : i_flipped a1 = some r) :
    Spec Try.prog 51 [.sl (encL ELIIIIIE a1) a1.length] [] (.own 0 r.length) [.row 62 1 (encL ELIIIIIE r)] := by
 unfold i_flipped at h; refine SO Try.func51 rfl Try.ntmps51 fun C hN hρ => ?_; simp only [st0, tmps0, Nat.zero_add, Nat.reduceAdd]; refine AN hN ?_; refine AN hN ?_; refine AW_cutK (fun S => ∃ (v39 : List (LF)), S = ⟨mkT [(3, .own 32 v39.length)], mkR [(32, .row 62 1 (encL ELIIIIIE v39))], 64⟩ ∧ i_flipped_j1 v39 = some r) ?_ ?_
 ·refine AN hN ?_; refine AW_block ?_; refine AW_loopF (fun n S => ∃ (v26 v27 : Int) (v28 : List (LF)), S = ⟨mkT [(0, .sl (encL ELIIIIIE a1) a1.length), (3, .own 32 v28.length), (10, .int .i64 v26), (11, .int .i64 v27)], mkR [(32, .row 62 1 (encL ELIIIIIE v28))], 64⟩ ∧ i_flipped_l1 a1 n v26 v27 v28 = some r) FU ?_ ?_ ?_
  ·exact AC ⟨_, _, _, rfl, h⟩ [(32, some 1088)] [] hρ
  ·rintro S ⟨_, _, _, _, h⟩; rw [i_flipped_l1] at h; cases h
  ·rintro n3 S ⟨v26, v27, v28, rfl, h⟩; rw [i_flipped_l1] at h; refine AN hN ?_; refine AW_seq ?_; refine AB h (fun hc9 h => ?_) fun hc9 h => ?_
   ·refine AW_skip (AK ?_); refine AW_cutK (fun S => ∃ (v38 : List (LF)), S = ⟨mkT [(0, .sl (encL ELIIIIIE a1) a1.length), (3, .own 32 v38.length), (10, .int .i64 v26), (11, .int .i64 v27)], mkR [(32, .row 62 1 (encL ELIIIIIE v38))], 64⟩ ∧ i_flipped_j6 v26 v27 (i_flipped_l1 a1 n3) v38 = some r) ?_ ?_
    ·refine AW_block ?_; refine AN hN ?_; refine AN hN ?_; refine AW_cutK (fun S => ∃ (v37 : LF), S = ⟨mkT [(0, .sl (encL ELIIIIIE a1) a1.length), (3, .own 32 v28.length), (5, .own 33 v37.length), (10, .int .i64 v26), (11, .int .i64 v27)], mkR [(32, .row 62 1 (encL ELIIIIIE v28)), (33, .row 77 5 (encL EIIIII v37))], 64⟩ ∧ i_flipped_j7 v26 v27 v28 (i_flipped_l1 a1 n3) v37 = some r) ?_ ?_
     ·refine AN hN ?_; refine AW_block ?_; refine AW_loopF (fun n S => ∃ (v34 v35 : Int) (v36 : LF), S = ⟨mkT [(0, .sl (encL ELIIIIIE a1) a1.length), (3, .own 32 v28.length), (4, .int .i64 v27), (5, .own 33 v36.length), (10, .int .i64 v26), (11, .int .i64 v27), (15, .sl (encL ELIIIIIE a1) a1.length), (16, .int .i64 v34), (17, .int .i64 v35)], mkR [(32, .row 62 1 (encL ELIIIIIE v28)), (33, .row 77 5 (encL EIIIII v36))], 64⟩ ∧ i_flipped_l4 a1 v26 v27 v28 (i_flipped_l1 a1 n3) n v34 v35 v36 = some r) FU ?_ ?_ ?_
      ·exact AC ⟨_, _, _, rfl, h⟩ [(32, some 32), (33, some 2112)] [] hρ
      ·rintro S ⟨_, _, _, _, h⟩; rw [i_flipped_l4] at h; cases h
      ·rintro n4 S ⟨v34, v35, v36, rfl, h⟩; rw [i_flipped_l4] at h; refine AN hN ?_; refine AW_seq ?_; refine AB h (fun hc12 h => ?_) fun hc12 h => ?_
       ·refine AW_skip (AK ?_); refine AW_seq ?_; refine AW_block ?_; refine AR hN fun K hK => ?_; obtain ⟨q17, h43, h⟩ := bO_inv h; obtain ⟨⟨h44a, h44b⟩, h44c⟩ := geti_E ELIIIIIEl h43; (try simp only [EV, seval] at h44c); simp only [EV, seval, h44a, h44b, h44c]; refine hK _ _ _ ?_; clear hK K; refine AS hN fun K hK => ?_; obtain ⟨q18, h45, h⟩ := bO_inv h; obtain ⟨⟨h46a, h46b⟩, h46c⟩ := geti_E EIIIIIl h45; (try simp only [EV, seval] at h46c); obtain ⟨h47, h⟩ := gd_inv h; replace h47 := of_decide_eq_true h47; (try simp only [EV, seval] at h47); simp only [EV, seval, h46a, h46b, h46c, h47]; refine hK _ _ _ (show AW _ _ _ _ _ from ?_); refine AS hN fun K hK => ?_; simp only [EV, seval]; exact hK _ _ _ (AC ⟨_, _, _, rfl, h⟩ [(32, some 32), (33, some 2208)] [] hρ)
       ·exact AW_exit (AC ⟨_, rfl, h⟩ [(32, some 32), (33, some 33)] [] hρ)
     ·rintro S ⟨v37, rfl, h⟩; unfold i_flipped_j7 at h; refine AW_le (Le_can (lt := [(0, .sl (encL ELIIIIIE a1) a1.length), (3, .own 32 v28.length), (5, .sl (encL EIIIII v37) v37.length), (10, .int .i64 v26), (11, .int .i64 v27)]) (lr := [(32, .row 62 1 (encL ELIIIIIE v28))]) (b' := 80) [(32, some 32)] [33] hρ (by kernel_rfl) ?_ ?_) ?_
      ·simp only [AL, EV, seval]
      ·simp only [AL, EV, seval]
      refine AS hN fun K hK => ?_; obtain ⟨h48, h⟩ := gd_inv h; replace h48 := of_decide_eq_true h48; (try simp only [EV, seval] at h48); simp only [EV, seval, h48]; refine hK _ _ _ (show cutK _ _ _ from cutL ⟨_, rfl, h⟩ (Le_can [(32, some 128)] [] hρ (by kernel_rfl) ?_ ?_))
      ·simp only [AL, EV, seval, h48]
      ·simp only [AL, EV, seval, h48]
    ·rintro S ⟨v38, rfl, h⟩; unfold i_flipped_j6 at h; refine AS hN fun K hK => ?_; simp only [EV, seval]; exact hK _ _ _ (AC ⟨_, _, _, rfl, h⟩ [(32, some 32)] [] hρ)
   ·exact AW_exit (AC ⟨_, rfl, h⟩ [(32, some 32)] [] hρ)
 ·rintro S ⟨v39, rfl, h⟩; unfold i_flipped_j1 at h; refine AN hN ?_; injection h with h; subst h; exact AX (b' := 64) [(2, .own 32 v39.length)] [(32, .row 62 1 (encL ELIIIIIE v39))] [(32, some 32)] [] hρ (EQ [32])
/- spec.l7Column -/
def s_l7Column_j1 (v6 : LF) : Option (LF) :=
  some v6
def s_l7Column_l1 (a1 : List (LF)) (a2 : Int) : Nat → Int → (LF) → Option (LF)
  | 0, _, _ => none
  | n1 + 1, v4, v5 =>
  br (decide (v4 < ((a1.length : Int)))) (bO (geti a1 v4) fun q5 => bO (geti q5 a2) fun q6 => gd (decide (v5.length + ([(q6.1, q6.2.1, q6.2.2.1, q6.2.2.2.1, q6.2.2.2.2)]).length ≤ 16777216)) ((s_l7Column_l1 a1 a2 n1) (IntKind.wrap .i64 (v4 + 1)) (v5 ++ ([(q6.1, q6.2.1, q6.2.2.1, q6.2.2.2.1, q6.2.2.2.2)])))) (s_l7Column_j1 v5)
def s_l7Column (a1 : List (LF)) (a2 : Int) : Option (LF) :=
  s_l7Column_l1 a1 a2 FU 0 ([] : LF)
theorem s_l7Column_ok {a1 : List (LF)} {a2 : Int} {r : LF} (h : s_l7Column a1 a2 = some r) :
    Spec Try.prog 93 [.sl (encL ELIIIIIE a1) a1.length, .int .i64 a2] [] (.own 0 r.length) [.row 77 5 (encL EIIIII r)] := by
 unfold s_l7Column at h; refine SO Try.func93 rfl Try.ntmps93 fun C hN hρ => ?_; simp only [st0, tmps0, Nat.zero_add, Nat.reduceAdd]; refine AN hN ?_; refine AN hN ?_; refine AW_cutK (fun S => ∃ (v6 : LF), S = ⟨mkT [(5, .own 32 v6.length)], mkR [(32, .row 77 5 (encL EIIIII v6))], 64⟩ ∧ s_l7Column_j1 v6 = some r) ?_ ?_
 ·refine AN hN ?_; refine AW_block ?_; refine AW_loopF (fun n S => ∃ (v4 : Int) (v5 : LF), S = ⟨mkT [(0, .sl (encL ELIIIIIE a1) a1.length), (1, .int .i64 a2), (5, .own 32 v5.length), (6, .int .i64 v4)], mkR [(32, .row 77 5 (encL EIIIII v5))], 64⟩ ∧ s_l7Column_l1 a1 a2 n v4 v5 = some r) FU ?_ ?_ ?_
  ·exact AC ⟨_, _, rfl, h⟩ [(32, some 1088)] [] hρ
  ·rintro S ⟨_, _, _, h⟩; rw [s_l7Column_l1] at h; cases h
  ·rintro n1 S ⟨v4, v5, rfl, h⟩; rw [s_l7Column_l1] at h; refine AW_seq ?_; refine AN hN ?_; refine AB h (fun hc3 h => ?_) fun hc3 h => ?_
   ·refine AW_skip (AK ?_); refine AW_seq ?_; refine AW_block ?_; refine AS hN fun K hK => ?_; obtain ⟨q5, h11, h⟩ := bO_inv h; obtain ⟨⟨h12a, h12b⟩, h12c⟩ := geti_E ELIIIIIEl h11; (try simp only [EV, seval] at h12c); obtain ⟨q6, h13, h⟩ := bO_inv h; obtain ⟨⟨h14a, h14b⟩, h14c⟩ := geti_E EIIIIIl h13; (try simp only [EV, seval] at h14c); obtain ⟨h15, h⟩ := gd_inv h; replace h15 := of_decide_eq_true h15; (try simp only [EV, seval] at h15); simp only [EV, seval, h12a, h12b, h12c, h14a, h14b, h14c, h15]; refine hK _ _ _ (show AW _ _ _ _ _ from ?_); refine AS hN fun K hK => ?_; simp only [EV, seval]; exact hK _ _ _ (AC ⟨_, _, rfl, h⟩ [(32, some 1232)] [] hρ)
   ·exact AW_exit (AC ⟨_, rfl, h⟩ [(32, some 32)] [] hρ)
 ·rintro S ⟨v6, rfl, h⟩; unfold s_l7Column_j1 at h; refine AN hN ?_; injection h with h; subst h; exact AX (b' := 64) [(4, .own 32 v6.length)] [(32, .row 77 5 (encL EIIIII v6))] [(32, some 32)] [] hρ (EQ [32])
/- spec.l7Columns -/
def s_l7Columns_j1 (v6 : List (LF)) : Option (List (LF)) :=
  some v6
def s_l7Columns_l1 (a1 : List (LF)) : Nat → Int → (List (LF)) → Option (List (LF))
  | 0, _, _ => none
  | n1 + 1, v4, v5 =>
  br (decide (v4 < ((a1.length : Int)))) (bO (s_l7Column a1 v4) fun x3 => gd (decide (v5.length + ([x3]).length ≤ 16777216)) ((s_l7Columns_l1 a1 n1) (IntKind.wrap .i64 (v4 + 1)) (v5 ++ ([x3])))) (s_l7Columns_j1 v5)
def s_l7Columns (a1 : List (LF)) : Option (List (LF)) :=
  s_l7Columns_l1 a1 FU 0 ([] : List (LF))
theorem s_l7Columns_ok {a1 : List (LF)} {r : List (LF)} (h : s_l7Columns a1 = some r) :
    Spec Try.prog 47 [.sl (encL ELIIIIIE a1) a1.length] [] (.own 0 r.length) [.row 62 1 (encL ELIIIIIE r)] := by
 unfold s_l7Columns at h; refine SO Try.func47 rfl Try.ntmps47 fun C hN hρ => ?_; simp only [st0, tmps0, Nat.zero_add, Nat.reduceAdd]; refine AN hN ?_; refine AN hN ?_; refine AW_cutK (fun S => ∃ (v6 : List (LF)), S = ⟨mkT [(3, .own 32 v6.length)], mkR [(32, .row 62 1 (encL ELIIIIIE v6))], 64⟩ ∧ s_l7Columns_j1 v6 = some r) ?_ ?_
 ·refine AN hN ?_; refine AW_block ?_; refine AW_loopF (fun n S => ∃ (v4 : Int) (v5 : List (LF)), S = ⟨mkT [(0, .sl (encL ELIIIIIE a1) a1.length), (3, .own 32 v5.length), (4, .int .i64 v4)], mkR [(32, .row 62 1 (encL ELIIIIIE v5))], 64⟩ ∧ s_l7Columns_l1 a1 n v4 v5 = some r) FU ?_ ?_ ?_
  ·exact AC ⟨_, _, rfl, h⟩ [(32, some 1088)] [] hρ
  ·rintro S ⟨_, _, _, h⟩; rw [s_l7Columns_l1] at h; cases h
  ·rintro n1 S ⟨v4, v5, rfl, h⟩; rw [s_l7Columns_l1] at h; refine AW_seq ?_; refine AN hN ?_; refine AB h (fun hc3 h => ?_) fun hc3 h => ?_
   ·refine AW_skip (AK ?_); refine AW_seq ?_; refine AW_block ?_; refine AS hN fun K hK => ?_; obtain ⟨x3, h5, h⟩ := bO_inv h; simp only [EV, seval]; refine rC_p (Spec.can (ret2 := .sl (encL EIIIII x3) x3.length) (mem2 := []) (s_l7Column_ok h5) [] [0] (by kernel_rfl) (by simp only [AL, EV, seval]) (by simp only [AL, EV, seval])) (by simp only [AL, EV, seval]) (le_d rfl) (no_j rfl) ?_; obtain ⟨h6, h⟩ := gd_inv h; replace h6 := of_decide_eq_true h6; (try simp only [EV, seval] at h6); simp only [EV, seval, h6]; refine hK _ _ _ (show AW _ _ _ _ _ from ?_); refine AS hN fun K hK => ?_; simp only [EV, seval]; exact hK _ _ _ (AC ⟨_, _, rfl, h⟩ [(32, some 1168)] [] hρ)
   ·exact AW_exit (AC ⟨_, rfl, h⟩ [(32, some 32)] [] hρ)
 ·rintro S ⟨v6, rfl, h⟩; unfold s_l7Columns_j1 at h; refine AN hN ?_; injection h with h; subst h; exact AX (b' := 64) [(2, .own 32 v6.length)] [(32, .row 62 1 (encL ELIIIIIE v6))] [(32, some 32)] [] hρ (EQ [32])
/- impl.dot -/
def i_dot_j4 (v11 v12 : Int) (kl1 : Int → Int → Int → Int → Int → Int → Int → Option (Int × Int × Int × Int × Int × Bool)) (x8 : Int × Int × Int × Int × Int × Bool) (v18 : Bool) : Option (Int × Int × Int × Int × Int × Bool) :=
  br v18 (some (0, 0, 0, 0, 0, false)) (kl1 v11 (IntKind.wrap .i64 (v12 + 1)) x8.1 x8.2.1 x8.2.2.1 x8.2.2.2.1 x8.2.2.2.2.1)
def i_dot_j1 (v19 v20 v21 v22 v23 : Int) : Option (Int × Int × Int × Int × Int × Bool) :=
  some (v19, v20, v21, v22, v23, true)
def i_dot_l1 (a1 : LF) (a2 : LF) : Nat → Int → Int → Int → Int → Int → Int → Int → Option (Int × Int × Int × Int × Int × Bool)
  | 0, _, _, _, _, _, _, _ => none
  | n1 + 1, v11, v12, v13, v14, v15, v16, v17 =>
  br (decide (v12 < v11)) (bO (geti a1 v12) fun q5 => bO (geti a2 v12) fun q6 => bO (i_MulDOmega q5.1 q5.2.1 q5.2.2.1 q5.2.2.2.1 q5.2.2.2.2 q6.1 q6.2.1 q6.2.2.1 q6.2.2.2.1 q6.2.2.2.2) fun x7 => bO (i_AddDOmega v13 v14 v15 v16 v17 x7.1 x7.2.1 x7.2.2.1 x7.2.2.2.1 x7.2.2.2.2.1) fun x8 => bO (br (!x7.2.2.2.2.2) (some true) (some (!x8.2.2.2.2.2))) fun x9 => i_dot_j4 v11 v12 (i_dot_l1 a1 a2 n1) x8 x9) (i_dot_j1 v13 v14 v15 v16 v17)
def i_dot (a1 : LF) (a2 : LF) : Option (Int × Int × Int × Int × Int × Bool) :=
  i_dot_l1 a1 a2 FU ((a1.length : Int)) 0 0 0 0 0 0
theorem i_dot_ok {a1 : LF} {a2 : LF} {r : Int × Int × Int × Int × Int × Bool} (h : i_dot a1 a2 = some r) :
    Spec Try.prog 165 [.sl (encL EIIIII a1) a1.length, .sl (encL EIIIII a2) a2.length] [] (.tup [.agg [.int .i64 r.1, .int .i64 r.2.1, .int .i64 r.2.2.1, .int .i64 r.2.2.2.1, .int .i64 r.2.2.2.2.1], .bool r.2.2.2.2.2]) [] := by
 unfold i_dot at h; refine SO Try.func165 rfl Try.ntmps165 fun C hN hρ => ?_; simp only [st0, tmps0, Nat.zero_add, Nat.reduceAdd]; refine AN hN ?_; refine AN hN ?_; refine AW_cutK (fun S => ∃ (v19 v20 v21 v22 v23 : Int), S = ⟨mkT [(4, .ptr 32 0), (6, .ptr 33 0)], mkR [(32, .box 77 [.int .i64 0, .int .i64 0, .int .i64 0, .int .i64 0, .int .i64 0]), (33, .box 77 [.int .i64 v19, .int .i64 v20, .int .i64 v21, .int .i64 v22, .int .i64 v23])], 64⟩ ∧ i_dot_j1 v19 v20 v21 v22 v23 = some r) ?_ ?_
 ·refine AN hN ?_; refine AW_block ?_; refine AW_loopF (fun n S => ∃ (v11 v12 v13 v14 v15 v16 v17 : Int), S = ⟨mkT [(0, .sl (encL EIIIII a1) a1.length), (1, .sl (encL EIIIII a2) a2.length), (4, .ptr 32 0), (6, .ptr 33 0), (14, .int .i64 v11), (15, .int .i64 v12)], mkR [(32, .box 77 [.int .i64 0, .int .i64 0, .int .i64 0, .int .i64 0, .int .i64 0]), (33, .box 77 [.int .i64 v13, .int .i64 v14, .int .i64 v15, .int .i64 v16, .int .i64 v17])], 64⟩ ∧ i_dot_l1 a1 a2 n v11 v12 v13 v14 v15 v16 v17 = some r) FU ?_ ?_ ?_
  ·exact AC ⟨_, _, _, _, _, _, _, rfl, h⟩ [(32, some 64), (33, some 1104)] [] hρ
  ·rintro S ⟨_, _, _, _, _, _, _, _, h⟩; rw [i_dot_l1] at h; cases h
  ·rintro n1 S ⟨v11, v12, v13, v14, v15, v16, v17, rfl, h⟩; rw [i_dot_l1] at h; refine AN hN ?_; refine AW_seq ?_; refine AB h (fun hc7 h => ?_) fun hc7 h => ?_
   ·refine AW_skip (AK ?_); refine AW_seq ?_; refine AW_block ?_; refine AN hN ?_; refine AR hN fun K hK => ?_; obtain ⟨q5, h13, h⟩ := bO_inv h; obtain ⟨⟨h14a, h14b⟩, h14c⟩ := geti_E EIIIIIl h13; (try simp only [EV, seval] at h14c); obtain ⟨q6, h15, h⟩ := bO_inv h; obtain ⟨⟨h16a, h16b⟩, h16c⟩ := geti_E EIIIIIl h15; (try simp only [EV, seval] at h16c); obtain ⟨x7, h17, h⟩ := bO_inv h; simp only [EV, seval, h14a, h14b, h14c, h16a, h16b, h16c]; refine rC_p (i_MulDOmega_ok h17) (by simp only [AL, EV, seval, h14a, h14b, h14c, h16a, h16b, h16c]) (le_d rfl) (no_j rfl) ?_; simp only [EV, seval, h14a, h14b, h14c, h16a, h16b, h16c]; refine hK _ _ _ ?_; clear hK K; obtain ⟨x8, h18, h⟩ := bO_inv h; refine AP hN (i_AddDOmega_ok h18) ?_; refine AW_seq ?_; refine AJ (fun S => ∃ (v18 : Bool), S = ⟨mkT [(0, .sl (encL EIIIII a1) a1.length), (1, .sl (encL EIIIII a2) a2.length), (4, .ptr 32 0), (6, .ptr 33 0), (10, .ptr 34 0), (14, .int .i64 v11), (15, .int .i64 v12), (41, .bool v18)], mkR [(32, .box 77 [.int .i64 0, .int .i64 0, .int .i64 0, .int .i64 0, .int .i64 0]), (33, .box 77 [.int .i64 v13, .int .i64 v14, .int .i64 v15, .int .i64 v16, .int .i64 v17]), (34, .box 77 [.int .i64 x8.1, .int .i64 x8.2.1, .int .i64 x8.2.2.1, .int .i64 x8.2.2.2.1, .int .i64 x8.2.2.2.2.1])], 64⟩ ∧ i_dot_j4 v11 v12 (i_dot_l1 a1 a2 n1) x8 v18 = some r) hN ?_ ?_
    ·intro K hK; obtain ⟨x9, hv3, h⟩ := bO_inv h; rcases br_inv hv3 with ⟨hc8, hv3⟩ | ⟨hc8, hv3⟩
     ·cases hv3; simp only [EV, seval, hc8]; refine hK _ _ _ (show cutK _ _ _ from cutL ⟨_, rfl, h⟩ (Le_can [(32, some 32), (33, some 33), (34, some 3232)] [] hρ (by kernel_rfl) ?_ ?_))
      ·simp only [AL, EV, seval, hc8]
      ·simp only [AL, EV, seval, hc8]
     ·cases hv3; simp only [EV, seval, hc8]; refine hK _ _ _ (show cutK _ _ _ from cutL ⟨_, rfl, h⟩ (Le_can [(32, some 32), (33, some 33), (34, some 3232)] [] hρ (by kernel_rfl) ?_ ?_))
      ·simp only [AL, EV, seval, hc8]
      ·simp only [AL, EV, seval, hc8]
    ·rintro S ⟨v18, rfl, h⟩; unfold i_dot_j4 at h; refine AB h (fun hc9 h => ?_) fun hc9 h => ?_
     ·refine AN hN ?_; injection h with h; subst h; exact AX (b' := 64) [(4, .ptr 32 0), (5, .bool false)] [(32, .box 77 [.int .i64 0, .int .i64 0, .int .i64 0, .int .i64 0, .int .i64 0])] [(32, some 32)] [] hρ (EQ [])
     ·refine AW_skip (AK ?_); refine AS hN fun K hK => ?_; simp only [EV, seval]; refine hK _ _ _ (show AW _ _ _ _ _ from ?_); refine AS hN fun K hK => ?_; simp only [EV, seval]; exact hK _ _ _ (AC ⟨_, _, _, _, _, _, _, rfl, h⟩ [(32, some 32), (33, some 33)] [] hρ)
   ·exact AW_exit (AC ⟨_, _, _, _, _, rfl, h⟩ [(32, some 32), (33, some 33)] [] hρ)
 ·rintro S ⟨v19, v20, v21, v22, v23, rfl, h⟩; unfold i_dot_j1 at h; refine AN hN ?_; injection h with h; subst h; exact AX (b' := 64) [(4, .ptr 32 0), (5, .bool true)] [(32, .box 77 [.int .i64 v19, .int .i64 v20, .int .i64 v21, .int .i64 v22, .int .i64 v23])] [(32, some 32)] [] hρ (EQ [])
/- spec.l7Row -/
def s_l7Row_j8 (v21 : Int) (kl1 : Int → Int → Int → Int → Int → Int → Option (Int × Int × Int × Int × Int × Bool)) (v29 v30 v31 v32 v33 : Int) : Option (Int × Int × Int × Int × Int × Bool) :=
  kl1 (IntKind.wrap .i64 (v21 + 1)) v29 v30 v31 v32 v33
def s_l7Row_j10 (v21 : Int) (kl1 : Int → Int → Int → Int → Int → Int → Option (Int × Int × Int × Int × Int × Bool)) (x11 : Int × Int × Int × Int × Int × Bool) (v28 : Bool) : Option (Int × Int × Int × Int × Int × Bool) :=
  br v28 (some (0, 0, 0, 0, 0, false)) (s_l7Row_j8 v21 kl1 x11.1 x11.2.1 x11.2.2.1 x11.2.2.2.1 x11.2.2.2.2.1)
def s_l7Row_j9 (a1 : LF) (a2 : LF) (v21 v22 v23 v24 v25 v26 : Int) (kl1 : Int → Int → Int → Int → Int → Int → Option (Int × Int × Int × Int × Int × Bool)) (v27 : Bool) : Option (Int × Int × Int × Int × Int × Bool) :=
  br v27 (s_l7Row_j8 v21 kl1 v22 v23 v24 v25 v26) (bO (geti a1 v21) fun q12 => bO (geti a2 v21) fun q13 => bO (s_MulDOmega q12.1 q12.2.1 q12.2.2.1 q12.2.2.2.1 q12.2.2.2.2 q13.1 q13.2.1 q13.2.2.1 q13.2.2.2.1 q13.2.2.2.2) fun x10 => bO (s_AddDOmega v22 v23 v24 v25 v26 x10.1 x10.2.1 x10.2.2.1 x10.2.2.2.1 x10.2.2.2.2.1) fun x11 => bO (br (!x10.2.2.2.2.2) (some true) (some (!x11.2.2.2.2.2))) fun x12 => s_l7Row_j10 v21 kl1 x11 x12)
def s_l7Row_j1 (v34 v35 v36 v37 v38 : Int) : Option (Int × Int × Int × Int × Int × Bool) :=
  some (v34, v35, v36, v37, v38, true)
def s_l7Row_l1 (a1 : LF) (a2 : LF) : Nat → Int → Int → Int → Int → Int → Int → Option (Int × Int × Int × Int × Int × Bool)
  | 0, _, _, _, _, _, _ => none
  | n1 + 1, v21, v22, v23, v24, v25, v26 =>
  br (decide (v21 < ((a1.length : Int)))) (bO (geti a1 v21) fun q9 => bO (br (((q9.1 == 0) && ((q9.2.1 == 0) && ((q9.2.2.1 == 0) && ((q9.2.2.2.1 == 0) && (q9.2.2.2.2 == 0)))))) (some true) (bO (geti a2 v21) fun q10 => some (((q10.1 == 0) && ((q10.2.1 == 0) && ((q10.2.2.1 == 0) && ((q10.2.2.2.1 == 0) && (q10.2.2.2.2 == 0)))))))) fun x9 => s_l7Row_j9 a1 a2 v21 v22 v23 v24 v25 v26 (s_l7Row_l1 a1 a2 n1) x9) (s_l7Row_j1 v22 v23 v24 v25 v26)
def s_l7Row (a1 : LF) (a2 : LF) : Option (Int × Int × Int × Int × Int × Bool) :=
  s_l7Row_l1 a1 a2 FU 0 0 0 0 0 0
theorem s_l7Row_ok {a1 : LF} {a2 : LF} {r : Int × Int × Int × Int × Int × Bool} (h : s_l7Row a1 a2 = some r) :
    Spec Try.prog 189 [.sl (encL EIIIII a1) a1.length, .sl (encL EIIIII a2) a2.length] [] (.tup [.agg [.int .i64 r.1, .int .i64 r.2.1, .int .i64 r.2.2.1, .int .i64 r.2.2.2.1, .int .i64 r.2.2.2.2.1], .bool r.2.2.2.2.2]) [] := by
 unfold s_l7Row at h; refine SO Try.func189 rfl Try.ntmps189 fun C hN hρ => ?_; simp only [st0, tmps0, Nat.zero_add, Nat.reduceAdd]; refine AN hN ?_; refine AN hN ?_; refine AW_cutK (fun S => ∃ (v34 v35 v36 v37 v38 : Int), S = ⟨mkT [(4, .ptr 32 0), (6, .ptr 33 0)], mkR [(32, .box 77 [.int .i64 0, .int .i64 0, .int .i64 0, .int .i64 0, .int .i64 0]), (33, .box 77 [.int .i64 v34, .int .i64 v35, .int .i64 v36, .int .i64 v37, .int .i64 v38])], 64⟩ ∧ s_l7Row_j1 v34 v35 v36 v37 v38 = some r) ?_ ?_
 ·refine AN hN ?_; refine AW_block ?_; refine AW_loopF (fun n S => ∃ (v21 v22 v23 v24 v25 v26 : Int), S = ⟨mkT [(0, .sl (encL EIIIII a1) a1.length), (1, .sl (encL EIIIII a2) a2.length), (4, .ptr 32 0), (6, .ptr 33 0), (7, .int .i64 v21)], mkR [(32, .box 77 [.int .i64 0, .int .i64 0, .int .i64 0, .int .i64 0, .int .i64 0]), (33, .box 77 [.int .i64 v22, .int .i64 v23, .int .i64 v24, .int .i64 v25, .int .i64 v26])], 64⟩ ∧ s_l7Row_l1 a1 a2 n v21 v22 v23 v24 v25 v26 = some r) FU ?_ ?_ ?_
  ·exact AC ⟨_, _, _, _, _, _, rfl, h⟩ [(32, some 64), (33, some 1104)] [] hρ
  ·rintro S ⟨_, _, _, _, _, _, _, h⟩; rw [s_l7Row_l1] at h; cases h
  ·rintro n1 S ⟨v21, v22, v23, v24, v25, v26, rfl, h⟩; rw [s_l7Row_l1] at h; refine AW_seq ?_; refine AN hN ?_; refine AB h (fun hc11 h => ?_) fun hc11 h => ?_
   ·refine AW_skip (AK ?_); refine AW_cutK (fun S => ∃ (v29 v30 v31 v32 v33 : Int), S = ⟨mkT [(0, .sl (encL EIIIII a1) a1.length), (1, .sl (encL EIIIII a2) a2.length), (4, .ptr 32 0), (6, .ptr 33 0), (7, .int .i64 v21)], mkR [(32, .box 77 [.int .i64 0, .int .i64 0, .int .i64 0, .int .i64 0, .int .i64 0]), (33, .box 77 [.int .i64 v29, .int .i64 v30, .int .i64 v31, .int .i64 v32, .int .i64 v33])], 64⟩ ∧ s_l7Row_j8 v21 (s_l7Row_l1 a1 a2 n1) v29 v30 v31 v32 v33 = some r) ?_ ?_
    ·refine AW_block ?_; refine AW_seq ?_; refine AJ (fun S => ∃ (v27 : Bool), S = ⟨mkT [(0, .sl (encL EIIIII a1) a1.length), (1, .sl (encL EIIIII a2) a2.length), (4, .ptr 32 0), (6, .ptr 33 0), (7, .int .i64 v21), (32, .bool v27)], mkR [(32, .box 77 [.int .i64 0, .int .i64 0, .int .i64 0, .int .i64 0, .int .i64 0]), (33, .box 77 [.int .i64 v22, .int .i64 v23, .int .i64 v24, .int .i64 v25, .int .i64 v26])], 64⟩ ∧ s_l7Row_j9 a1 a2 v21 v22 v23 v24 v25 v26 (s_l7Row_l1 a1 a2 n1) v27 = some r) hN ?_ ?_
     ·intro K hK; obtain ⟨q9, h21, h⟩ := bO_inv h; obtain ⟨⟨h22a, h22b⟩, h22c⟩ := geti_E EIIIIIl h21; (try simp only [EV, seval] at h22c); obtain ⟨x9, hv5, h⟩ := bO_inv h; rcases br_inv hv5 with ⟨hc12, hv5⟩ | ⟨hc12, hv5⟩
      ·cases hv5; simp only [EV, seval, h22a, h22b, h22c, hc12]; refine hK _ _ _ (show cutK _ _ _ from cutL ⟨_, rfl, h⟩ (Le_can [(32, some 32), (33, some 33)] [] hρ (by kernel_rfl) ?_ ?_))
       ·simp only [AL, EV, seval, h22a, h22b, h22c, hc12]
       ·simp only [AL, EV, seval, h22a, h22b, h22c, hc12]
      ·obtain ⟨q11, h25, hv5⟩ := bO_inv hv5; obtain ⟨⟨h26a, h26b⟩, h26c⟩ := geti_E EIIIIIl h25; (try simp only [EV, seval] at h26c); cases hv5; simp only [EV, seval, h22a, h22b, h22c, hc12, h26a, h26b, h26c]; refine hK _ _ _ (show cutK _ _ _ from cutL ⟨_, rfl, h⟩ (Le_can [(32, some 32), (33, some 33)] [] hρ (by kernel_rfl) ?_ ?_))
       ·simp only [AL, EV, seval, h22a, h22b, h22c, hc12, h26a, h26b, h26c]
       ·simp only [AL, EV, seval, h22a, h22b, h22c, hc12, h26a, h26b, h26c]
     ·rintro S ⟨v27, rfl, h⟩; unfold s_l7Row_j9 at h; refine AB h (fun hc13 h => ?_) fun hc13 h => ?_
      ·exact AW_exit (AC ⟨_, _, _, _, _, rfl, h⟩ [(32, some 32), (33, some 33)] [] hρ)
      ·refine AW_skip (AK ?_); refine AR hN fun K hK => ?_; obtain ⟨q12, h27, h⟩ := bO_inv h; obtain ⟨⟨h28a, h28b⟩, h28c⟩ := geti_E EIIIIIl h27; (try simp only [EV, seval] at h28c); obtain ⟨q13, h29, h⟩ := bO_inv h; obtain ⟨⟨h30a, h30b⟩, h30c⟩ := geti_E EIIIIIl h29; (try simp only [EV, seval] at h30c); obtain ⟨x10, h31, h⟩ := bO_inv h; simp only [EV, seval, h28a, h28b, h28c, h30a, h30b, h30c]; refine rC_p (s_MulDOmega_ok h31) (by simp only [AL, EV, seval, h28a, h28b, h28c, h30a, h30b, h30c]) (le_d rfl) (no_j rfl) ?_; simp only [EV, seval, h28a, h28b, h28c, h30a, h30b, h30c]; refine hK _ _ _ ?_; clear hK K; obtain ⟨x11, h32, h⟩ := bO_inv h; refine AP hN (s_AddDOmega_ok h32) ?_; refine AW_seq ?_; refine AJ (fun S => ∃ (v28 : Bool), S = ⟨mkT [(0, .sl (encL EIIIII a1) a1.length), (1, .sl (encL EIIIII a2) a2.length), (4, .ptr 32 0), (6, .ptr 33 0), (7, .int .i64 v21), (10, .ptr 34 0), (56, .bool v28)], mkR [(32, .box 77 [.int .i64 0, .int .i64 0, .int .i64 0, .int .i64 0, .int .i64 0]), (33, .box 77 [.int .i64 v22, .int .i64 v23, .int .i64 v24, .int .i64 v25, .int .i64 v26]), (34, .box 77 [.int .i64 x11.1, .int .i64 x11.2.1, .int .i64 x11.2.2.1, .int .i64 x11.2.2.2.1, .int .i64 x11.2.2.2.2.1])], 64⟩ ∧ s_l7Row_j10 v21 (s_l7Row_l1 a1 a2 n1) x11 v28 = some r) hN ?_ ?_
       ·intro K hK; obtain ⟨x12, hv6, h⟩ := bO_inv h; rcases br_inv hv6 with ⟨hc14, hv6⟩ | ⟨hc14, hv6⟩
        ·cases hv6; simp only [EV, seval, hc14]; refine hK _ _ _ (show cutK _ _ _ from cutL ⟨_, rfl, h⟩ (Le_can [(32, some 32), (33, some 33), (34, some 1184)] [] hρ (by kernel_rfl) ?_ ?_))
         ·simp only [AL, EV, seval, hc14]
         ·simp only [AL, EV, seval, hc14]
        ·cases hv6; simp only [EV, seval, hc14]; refine hK _ _ _ (show cutK _ _ _ from cutL ⟨_, rfl, h⟩ (Le_can [(32, some 32), (33, some 33), (34, some 1184)] [] hρ (by kernel_rfl) ?_ ?_))
         ·simp only [AL, EV, seval, hc14]
         ·simp only [AL, EV, seval, hc14]
       ·rintro S ⟨v28, rfl, h⟩; unfold s_l7Row_j10 at h; refine AB h (fun hc15 h => ?_) fun hc15 h => ?_
        ·refine AN hN ?_; injection h with h; subst h; exact AX (b' := 64) [(4, .ptr 32 0), (5, .bool false)] [(32, .box 77 [.int .i64 0, .int .i64 0, .int .i64 0, .int .i64 0, .int .i64 0])] [(32, some 32)] [] hρ (EQ [])
        ·refine AW_skip (AK ?_); refine AS hN fun K hK => ?_; simp only [EV, seval]; exact hK _ _ _ (AC ⟨_, _, _, _, _, rfl, h⟩ [(32, some 32), (33, some 33)] [] hρ)
    ·rintro S ⟨v29, v30, v31, v32, v33, rfl, h⟩; unfold s_l7Row_j8 at h; refine AS hN fun K hK => ?_; simp only [EV, seval]; exact hK _ _ _ (AC ⟨_, _, _, _, _, _, rfl, h⟩ [(32, some 32), (33, some 33)] [] hρ)
   ·exact AW_exit (AC ⟨_, _, _, _, _, rfl, h⟩ [(32, some 32), (33, some 33)] [] hρ)
 ·rintro S ⟨v34, v35, v36, v37, v38, rfl, h⟩; unfold s_l7Row_j1 at h; refine AN hN ?_; injection h with h; subst h; exact AX (b' := 64) [(4, .ptr 32 0), (5, .bool true)] [(32, .box 77 [.int .i64 v34, .int .i64 v35, .int .i64 v36, .int .i64 v37, .int .i64 v38])] [(32, some 32)] [] hρ (EQ [])
/- impl.ApplyMatrix -/
def i_ApplyMatrix_j2 (v10 : LF) : Option (LF × Bool) :=
  some (v10, true)
def i_ApplyMatrix_l1 (a1 : List (LF)) (a2 : LF) : Nat → Int → Int → (LF) → Option (LF × Bool)
  | 0, _, _, _ => none
  | n1 + 1, v7, v8, v9 =>
  br (decide (v8 < v7)) (bO (geti a1 v8) fun q3 => bO (i_dot q3 a2) fun x10 => br (!x10.2.2.2.2.2) (some ([], false)) (gd (decide (v9.length + ([(x10.1, x10.2.1, x10.2.2.1, x10.2.2.2.1, x10.2.2.2.2.1)]).length ≤ 16777216)) ((i_ApplyMatrix_l1 a1 a2 n1) v7 (IntKind.wrap .i64 (v8 + 1)) (v9 ++ ([(x10.1, x10.2.1, x10.2.2.1, x10.2.2.2.1, x10.2.2.2.2.1)]))))) (i_ApplyMatrix_j2 v9)
def i_ApplyMatrix_j1 (a1 : List (LF)) (a2 : LF) (v1 : Bool) : Option (LF × Bool) :=
  br v1 (some ([], false)) (i_ApplyMatrix_l1 a1 a2 FU ((a1.length : Int)) 0 ([] : LF))
def i_ApplyMatrix (a1 : List (LF)) (a2 : LF) : Option (LF × Bool) :=
  bO (i_IsValidMatrix a1) fun x1 => bO (br (!x1) (some true) (bO (i_IsValidState a2) fun x2 => some (!x2))) fun x3 => bO (br x3 (some true) (some (((a1.length : Int)) != ((a2.length : Int))))) fun x4 => i_ApplyMatrix_j1 a1 a2 x4
theorem i_ApplyMatrix_ok {a1 : List (LF)} {a2 : LF} {r : LF × Bool} (h : i_ApplyMatrix a1 a2 = some r) :
    Spec Try.prog 160 [.sl (encL ELIIIIIE a1) a1.length, .sl (encL EIIIII a2) a2.length] [] (.tup [.own 0 r.1.length, .bool r.2]) [.row 77 5 (encL EIIIII r.1)] := by
 unfold i_ApplyMatrix at h; refine SO Try.func160 rfl Try.ntmps160 fun C hN hρ => ?_; simp only [st0, tmps0, Nat.zero_add, Nat.reduceAdd]; refine AN hN ?_; refine AW_seq ?_; refine AJ (fun S => ∃ (v1 : Bool), S = ⟨mkT [(0, .sl (encL ELIIIIIE a1) a1.length), (1, .sl (encL EIIIII a2) a2.length), (25, .bool v1)], mkR [], 64⟩ ∧ i_ApplyMatrix_j1 a1 a2 v1 = some r) hN ?_ ?_
 ·intro K hK; obtain ⟨x1, h1, h⟩ := bO_inv h; simp only [EV, seval]; refine CP (i_IsValidMatrix_ok h1) ?_; obtain ⟨x3, hv1, h⟩ := bO_inv h; rcases br_inv hv1 with ⟨hc1, hv1⟩ | ⟨hc1, hv1⟩
  ·cases hv1; obtain ⟨x5, hv3, h⟩ := bO_inv h; replace hv3 := br_t hv3; cases hv3; (try dsimp only at h); simp only [EV, seval, hc1]; refine hK _ _ _ (show cutK _ _ _ from cutL ⟨_, rfl, h⟩ (Le_can [] [] hρ (by kernel_rfl) ?_ ?_))
   ·simp only [AL, EV, seval, hc1]
   ·simp only [AL, EV, seval, hc1]
  ·obtain ⟨x6, h3, hv1⟩ := bO_inv hv1; simp only [EV, seval, hc1]; refine rC_p (i_IsValidState_ok h3) (by simp only [AL, EV, seval, hc1]) (le_d rfl) (no_j rfl) ?_; cases hv1; obtain ⟨x7, hv4, h⟩ := bO_inv h; rcases br_inv hv4 with ⟨hc3, hv4⟩ | ⟨hc3, hv4⟩
   ·cases hv4; simp only [EV, seval, hc1, hc3]; refine hK _ _ _ (show cutK _ _ _ from cutL ⟨_, rfl, h⟩ (Le_can [] [] hρ (by kernel_rfl) ?_ ?_))
    ·simp only [AL, EV, seval, hc1, hc3]
    ·simp only [AL, EV, seval, hc1, hc3]
   ·cases hv4; simp only [EV, seval, hc1, hc3]; refine hK _ _ _ (show cutK _ _ _ from cutL ⟨_, rfl, h⟩ (Le_can [] [] hρ (by kernel_rfl) ?_ ?_))
    ·simp only [AL, EV, seval, hc1, hc3]
    ·simp only [AL, EV, seval, hc1, hc3]
 ·rintro S ⟨v1, rfl, h⟩; unfold i_ApplyMatrix_j1 at h; refine AB h (fun hc4 h => ?_) fun hc4 h => ?_
  ·refine AN hN ?_; injection h with h; subst h; exact AX (b' := 64) [(4, .own 32 0), (5, .bool false)] [(32, .row 77 5 (encL EIIIII ([])))] [(32, none)] [] hρ (EQ [32])
  ·refine AW_skip (AK ?_); refine AN hN ?_; refine AW_cutK (fun S => ∃ (v10 : LF), S = ⟨mkT [(6, .own 32 v10.length)], mkR [(32, .row 77 5 (encL EIIIII v10))], 64⟩ ∧ i_ApplyMatrix_j2 v10 = some r) ?_ ?_
   ·refine AN hN ?_; refine AW_block ?_; refine AW_loopF (fun n S => ∃ (v7 v8 : Int) (v9 : LF), S = ⟨mkT [(1, .sl (encL EIIIII a2) a2.length), (6, .own 32 v9.length), (27, .sl (encL ELIIIIIE a1) a1.length), (28, .int .i64 v7), (29, .int .i64 v8)], mkR [(32, .row 77 5 (encL EIIIII v9))], 64⟩ ∧ i_ApplyMatrix_l1 a1 a2 n v7 v8 v9 = some r) FU ?_ ?_ ?_
    ·exact AC ⟨_, _, _, rfl, h⟩ [(32, some 64)] [] hρ
    ·rintro S ⟨_, _, _, _, h⟩; rw [i_ApplyMatrix_l1] at h; cases h
    ·rintro n1 S ⟨v7, v8, v9, rfl, h⟩; rw [i_ApplyMatrix_l1] at h; refine AN hN ?_; refine AW_seq ?_; refine AB h (fun hc9 h => ?_) fun hc9 h => ?_
     ·refine AW_skip (AK ?_); refine AW_seq ?_; refine AW_block ?_; refine AR hN fun K hK => ?_; obtain ⟨q3, h12, h⟩ := bO_inv h; obtain ⟨⟨h13a, h13b⟩, h13c⟩ := geti_E ELIIIIIEl h12; (try simp only [EV, seval] at h13c); simp only [EV, seval, h13a, h13b, h13c]; refine hK _ _ _ ?_; clear hK K; obtain ⟨x10, h14, h⟩ := bO_inv h; refine AP hN (i_dot_ok h14) ?_; refine AW_seq ?_; refine AN hN ?_; refine AB h (fun hc10 h => ?_) fun hc10 h => ?_
      ·refine AN hN ?_; injection h with h; subst h; exact AX (b' := 64) [(4, .own 32 0), (5, .bool false)] [(32, .row 77 5 (encL EIIIII ([])))] [(32, none)] [] hρ (EQ [32])
      ·refine AW_skip (AK ?_); refine AS hN fun K hK => ?_; obtain ⟨h15, h⟩ := gd_inv h; replace h15 := of_decide_eq_true h15; (try simp only [EV, seval] at h15); simp only [EV, seval, h15]; refine hK _ _ _ (show AW _ _ _ _ _ from ?_); refine AS hN fun K hK => ?_; simp only [EV, seval]; exact hK _ _ _ (AC ⟨_, _, _, rfl, h⟩ [(32, some 4208)] [] hρ)
     ·exact AW_exit (AC ⟨_, rfl, h⟩ [(32, some 32)] [] hρ)
   ·rintro S ⟨v10, rfl, h⟩; unfold i_ApplyMatrix_j2 at h; refine AN hN ?_; injection h with h; subst h; exact AX (b' := 64) [(4, .own 32 v10.length), (5, .bool true)] [(32, .row 77 5 (encL EIIIII v10))] [(32, some 32)] [] hρ (EQ [32])
/- spec.ApplyMatrix -/
def s_ApplyMatrix_j2 (v7 : LF) : Option (LF × Bool) :=
  some (v7, true)
def s_ApplyMatrix_l1 (a1 : List (LF)) (a2 : LF) : Nat → Int → (LF) → Option (LF × Bool)
  | 0, _, _ => none
  | n1 + 1, v5, v6 =>
  br (decide (v5 < ((a1.length : Int)))) (bO (geti a1 v5) fun q3 => bO (s_l7Row q3 a2) fun x10 => br (!x10.2.2.2.2.2) (some ([], false)) (gd (decide (v6.length + ([(x10.1, x10.2.1, x10.2.2.1, x10.2.2.2.1, x10.2.2.2.2.1)]).length ≤ 16777216)) ((s_ApplyMatrix_l1 a1 a2 n1) (IntKind.wrap .i64 (v5 + 1)) (v6 ++ ([(x10.1, x10.2.1, x10.2.2.1, x10.2.2.2.1, x10.2.2.2.2.1)]))))) (s_ApplyMatrix_j2 v6)
def s_ApplyMatrix_j1 (a1 : List (LF)) (a2 : LF) (v1 : Bool) : Option (LF × Bool) :=
  br v1 (some ([], false)) (s_ApplyMatrix_l1 a1 a2 FU 0 ([] : LF))
def s_ApplyMatrix (a1 : List (LF)) (a2 : LF) : Option (LF × Bool) :=
  bO (s_IsValidMatrix a1) fun x1 => bO (br (!x1) (some true) (bO (s_IsValidState a2) fun x2 => some (!x2))) fun x3 => bO (br x3 (some true) (some (((a1.length : Int)) != ((a2.length : Int))))) fun x4 => s_ApplyMatrix_j1 a1 a2 x4
theorem s_ApplyMatrix_ok {a1 : List (LF)} {a2 : LF} {r : LF × Bool} (h : s_ApplyMatrix a1 a2 = some r) :
    Spec Try.prog 154 [.sl (encL ELIIIIIE a1) a1.length, .sl (encL EIIIII a2) a2.length] [] (.tup [.own 0 r.1.length, .bool r.2]) [.row 77 5 (encL EIIIII r.1)] := by
 unfold s_ApplyMatrix at h; refine SO Try.func154 rfl Try.ntmps154 fun C hN hρ => ?_; simp only [st0, tmps0, Nat.zero_add, Nat.reduceAdd]; refine AN hN ?_; refine AW_seq ?_; refine AJ (fun S => ∃ (v1 : Bool), S = ⟨mkT [(0, .sl (encL ELIIIIIE a1) a1.length), (1, .sl (encL EIIIII a2) a2.length), (24, .bool v1)], mkR [], 64⟩ ∧ s_ApplyMatrix_j1 a1 a2 v1 = some r) hN ?_ ?_
 ·intro K hK; obtain ⟨x1, h1, h⟩ := bO_inv h; simp only [EV, seval]; refine CP (s_IsValidMatrix_ok h1) ?_; obtain ⟨x3, hv1, h⟩ := bO_inv h; rcases br_inv hv1 with ⟨hc1, hv1⟩ | ⟨hc1, hv1⟩
  ·cases hv1; obtain ⟨x5, hv3, h⟩ := bO_inv h; replace hv3 := br_t hv3; cases hv3; (try dsimp only at h); simp only [EV, seval, hc1]; refine hK _ _ _ (show cutK _ _ _ from cutL ⟨_, rfl, h⟩ (Le_can [] [] hρ (by kernel_rfl) ?_ ?_))
   ·simp only [AL, EV, seval, hc1]
   ·simp only [AL, EV, seval, hc1]
  ·obtain ⟨x6, h3, hv1⟩ := bO_inv hv1; simp only [EV, seval, hc1]; refine rC_p (s_IsValidState_ok h3) (by simp only [AL, EV, seval, hc1]) (le_d rfl) (no_j rfl) ?_; cases hv1; obtain ⟨x7, hv4, h⟩ := bO_inv h; rcases br_inv hv4 with ⟨hc3, hv4⟩ | ⟨hc3, hv4⟩
   ·cases hv4; simp only [EV, seval, hc1, hc3]; refine hK _ _ _ (show cutK _ _ _ from cutL ⟨_, rfl, h⟩ (Le_can [] [] hρ (by kernel_rfl) ?_ ?_))
    ·simp only [AL, EV, seval, hc1, hc3]
    ·simp only [AL, EV, seval, hc1, hc3]
   ·cases hv4; simp only [EV, seval, hc1, hc3]; refine hK _ _ _ (show cutK _ _ _ from cutL ⟨_, rfl, h⟩ (Le_can [] [] hρ (by kernel_rfl) ?_ ?_))
    ·simp only [AL, EV, seval, hc1, hc3]
    ·simp only [AL, EV, seval, hc1, hc3]
 ·rintro S ⟨v1, rfl, h⟩; unfold s_ApplyMatrix_j1 at h; refine AB h (fun hc4 h => ?_) fun hc4 h => ?_
  ·refine AN hN ?_; injection h with h; subst h; exact AX (b' := 64) [(4, .own 32 0), (5, .bool false)] [(32, .row 77 5 (encL EIIIII ([])))] [(32, some 64)] [] hρ (EQ [32])
  ·refine AW_skip (AK ?_); refine AN hN ?_; refine AW_cutK (fun S => ∃ (v7 : LF), S = ⟨mkT [(6, .own 32 v7.length)], mkR [(32, .row 77 5 (encL EIIIII v7))], 64⟩ ∧ s_ApplyMatrix_j2 v7 = some r) ?_ ?_
   ·refine AN hN ?_; refine AW_block ?_; refine AW_loopF (fun n S => ∃ (v5 : Int) (v6 : LF), S = ⟨mkT [(0, .sl (encL ELIIIIIE a1) a1.length), (1, .sl (encL EIIIII a2) a2.length), (6, .own 32 v6.length), (7, .int .i64 v5)], mkR [(32, .row 77 5 (encL EIIIII v6))], 64⟩ ∧ s_ApplyMatrix_l1 a1 a2 n v5 v6 = some r) FU ?_ ?_ ?_
    ·exact AC ⟨_, _, rfl, h⟩ [(32, some 64)] [] hρ
    ·rintro S ⟨_, _, _, h⟩; rw [s_ApplyMatrix_l1] at h; cases h
    ·rintro n1 S ⟨v5, v6, rfl, h⟩; rw [s_ApplyMatrix_l1] at h; refine AW_seq ?_; refine AN hN ?_; refine AB h (fun hc9 h => ?_) fun hc9 h => ?_
     ·refine AW_skip (AK ?_); refine AW_seq ?_; refine AW_block ?_; refine AR hN fun K hK => ?_; obtain ⟨q3, h12, h⟩ := bO_inv h; obtain ⟨⟨h13a, h13b⟩, h13c⟩ := geti_E ELIIIIIEl h12; (try simp only [EV, seval] at h13c); obtain ⟨x10, h14, h⟩ := bO_inv h; simp only [EV, seval, h13a, h13b, h13c]; refine rC_p (s_l7Row_ok h14) (by simp only [AL, EV, seval, h13a, h13b, h13c]) (le_d rfl) (no_j rfl) ?_; simp only [EV, seval, h13a, h13b, h13c]; refine hK _ _ _ ?_; clear hK K; refine AW_seq ?_; refine AN hN ?_; refine AB h (fun hc10 h => ?_) fun hc10 h => ?_
      ·refine AN hN ?_; injection h with h; subst h; exact AX (b' := 64) [(4, .own 32 0), (5, .bool false)] [(32, .row 77 5 (encL EIIIII ([])))] [(32, some 3136)] [] hρ (EQ [32])
      ·refine AW_skip (AK ?_); refine AS hN fun K hK => ?_; obtain ⟨h15, h⟩ := gd_inv h; replace h15 := of_decide_eq_true h15; (try simp only [EV, seval] at h15); simp only [EV, seval, h15]; refine hK _ _ _ (show AW _ _ _ _ _ from ?_); refine AS hN fun K hK => ?_; simp only [EV, seval]; exact hK _ _ _ (AC ⟨_, _, rfl, h⟩ [(32, some 3184)] [] hρ)
     ·exact AW_exit (AC ⟨_, rfl, h⟩ [(32, some 32)] [] hρ)
   ·rintro S ⟨v7, rfl, h⟩; unfold s_ApplyMatrix_j2 at h; refine AN hN ?_; injection h with h; subst h; exact AX (b' := 64) [(4, .own 32 v7.length), (5, .bool true)] [(32, .row 77 5 (encL EIIIII v7))] [(32, some 32)] [] hρ (EQ [32])
/- impl.PauliMatrix -/
def i_PauliMatrix_j1 (v6 : List (LF)) : Option (List (LF)) :=
  bO (i_flipped v6) fun x8 => some x8
def i_PauliMatrix_l1 (a1 a2 a3 a4 : Int) : Nat → Int → (List (LF)) → Option (List (LF))
  | 0, _, _ => none
  | n1 + 1, v4, v5 =>
  gd (decide (¬ a1 < 0)) (br (decide (v4 < (IntKind.wrap .i64 (1 * 2 ^ min (Int.toNat a1) (IntKind.bits .i64))))) (gd (decide (¬ a1 < 0)) (gd (decide (0 ≤ IntKind.wrap .i64 (1 * 2 ^ min (Int.toNat a1) (IntKind.bits .i64)) ∧ IntKind.wrap .i64 (1 * 2 ^ min (Int.toNat a1) (IntKind.bits .i64)) ≤ 1048576)) (bO (i_ones (bits .and .i64 a3 v4)) fun x6 => bO (i_PhaseFactor (IntKind.wrap .i64 ((IntKind.wrap .i64 (2 * a4)) + (IntKind.wrap .i64 (4 * x6))))) fun x7 => bO (geti (List.replicate (Int.toNat (IntKind.wrap .i64 (1 * 2 ^ min (Int.toNat a1) (IntKind.bits .i64)))) ((0, 0, 0, 0, 0) : Int × Int × Int × Int × Int)) (bits .xor .i64 v4 a2)) fun q3 => gd (decide (v5.length + ([(List.replicate (Int.toNat (IntKind.wrap .i64 (1 * 2 ^ min (Int.toNat a1) (IntKind.bits .i64)))) ((0, 0, 0, 0, 0) : Int × Int × Int × Int × Int)).set (Int.toNat (bits .xor .i64 v4 a2)) ((x7.1, x7.2.1, x7.2.2.1, x7.2.2.2.1, x7.2.2.2.2))]).length ≤ 16777216)) ((i_PauliMatrix_l1 a1 a2 a3 a4 n1) (IntKind.wrap .i64 (v4 + 1)) (v5 ++ ([(List.replicate (Int.toNat (IntKind.wrap .i64 (1 * 2 ^ min (Int.toNat a1) (IntKind.bits .i64)))) ((0, 0, 0, 0, 0) : Int × Int × Int × Int × Int)).set (Int.toNat (bits .xor .i64 v4 a2)) ((x7.1, x7.2.1, x7.2.2.1, x7.2.2.2.1, x7.2.2.2.2))])))))) (i_PauliMatrix_j1 v5))
def i_PauliMatrix (a1 a2 a3 a4 : Int) : Option (List (LF)) :=
  bO (i_IsValidPauli a1 a2 a3 a4) fun x1 => br (!x1) (some ([])) (i_PauliMatrix_l1 a1 a2 a3 a4 FU 0 ([] : List (LF)))
theorem i_PauliMatrix_ok {a1 a2 a3 a4 : Int} {r : List (LF)} (h : i_PauliMatrix a1 a2 a3 a4 = some r) :
    Spec Try.prog 11 [.agg [.int .i64 a1, .int .i64 a2, .int .i64 a3, .int .i64 a4]] [] (.own 0 r.length) [.row 62 1 (encL ELIIIIIE r)] := by
 unfold i_PauliMatrix at h; refine SO Try.func11 rfl Try.ntmps11 fun C hN hρ => ?_; simp only [st0, tmps0, Nat.zero_add, Nat.reduceAdd]; refine AN hN ?_; refine AW_seq ?_; obtain ⟨x1, h1, h⟩ := bO_inv h; refine AP hN (i_IsValidPauli_ok h1) ?_; refine AB h (fun hc1 h => ?_) fun hc1 h => ?_
 ·refine AN hN ?_; injection h with h; subst h; exact AX (b' := 64) [(2, .own 32 0)] [(32, .row 62 1 (encL ELIIIIIE ([])))] [(32, none)] [] hρ (EQ [32])
 ·refine AW_skip (AK ?_); refine AN hN ?_; refine AW_cutK (fun S => ∃ (v6 : List (LF)), S = ⟨mkT [(3, .own 32 v6.length)], mkR [(32, .row 62 1 (encL ELIIIIIE v6))], 64⟩ ∧ i_PauliMatrix_j1 v6 = some r) ?_ ?_
  ·refine AN hN ?_; refine AW_block ?_; refine AW_loopF (fun n S => ∃ (v4 : Int) (v5 : List (LF)), S = ⟨mkT [(1, .ptr 32 0), (3, .own 33 v5.length), (4, .int .i64 v4)], mkR [(32, .box 26 [.int .i64 a1, .int .i64 a2, .int .i64 a3, .int .i64 a4]), (33, .row 62 1 (encL ELIIIIIE v5))], 64⟩ ∧ i_PauliMatrix_l1 a1 a2 a3 a4 n v4 v5 = some r) FU ?_ ?_ ?_
   ·exact AC ⟨_, _, rfl, h⟩ [(32, some 64), (33, some 2112)] [] hρ
   ·rintro S ⟨_, _, _, h⟩; rw [i_PauliMatrix_l1] at h; cases h
   ·rintro n1 S ⟨v4, v5, rfl, h⟩; rw [i_PauliMatrix_l1] at h; refine AW_seq ?_; refine AR hN fun K hK => ?_; obtain ⟨h24, h⟩ := gd_inv h; replace h24 := of_decide_eq_true h24; simp only [EV, seval, h24]; refine hK _ _ _ ?_; clear hK K; refine AW_condK (a := .bool (decide (v4 < (IntKind.wrap .i64 (1 * 2 ^ min (Int.toNat a1) (IntKind.bits .i64)))))) (by simp only [EV, seval, h24]) (brK h (fun hc4 h => ?_) (fun hc4 h => ?_))
    ·refine AW_skip (AK ?_); refine AW_seq ?_; refine AW_block ?_; refine AR hN fun K hK => ?_; obtain ⟨h25, h⟩ := gd_inv h; replace h25 := of_decide_eq_true h25; obtain ⟨h26, h⟩ := gd_inv h; replace h26 := of_decide_eq_true h26; have h27 := zrow_enc (e := EIIIII) ((0, 0, 0, 0, 0)) (Int.toNat (IntKind.wrap .i64 (1 * 2 ^ min (Int.toNat a1) (IntKind.bits .i64)))); simp only [EN] at h27; have h28 : (List.replicate (Int.toNat (IntKind.wrap .i64 (1 * 2 ^ min (Int.toNat a1) (IntKind.bits .i64)))) ((0, 0, 0, 0, 0) : Int × Int × Int × Int × Int)).length = Int.toNat (IntKind.wrap .i64 (1 * 2 ^ min (Int.toNat a1) (IntKind.bits .i64))) := List.length_replicate; simp only [EV, seval, h25, h26, h27, h28]; refine hK _ _ _ ?_; clear hK K; refine AR hN fun K hK => ?_; obtain ⟨x6, h29, h⟩ := bO_inv h; simp only [EV, seval]; refine CP (i_ones_ok h29) ?_; obtain ⟨x7, h30, h⟩ := bO_inv h; simp only [EV, seval]; refine CP (i_PhaseFactor_ok h30) ?_; obtain ⟨q3, h31, h⟩ := bO_inv h; obtain ⟨⟨h32a, h32b⟩, h32c⟩ := geti_E EIIIIIl h31; (try simp only [EV, seval] at h32c); (try simp only [EV, seval] at h32b); have h33 := set_E EIIIIIl ((x7.1, x7.2.1, x7.2.2.1, x7.2.2.2.1, x7.2.2.2.2)) 0 [.int .i64 x7.1, .int .i64 x7.2.1, .int .i64 x7.2.2.1, .int .i64 x7.2.2.2.1, .int .i64 x7.2.2.2.2] h31 (Nat.le_of_ble_eq_true rfl) rfl; obtain ⟨h33a, h33b⟩ := h33; (try simp only [EV, seval] at h33a); (try simp only [EV, seval] at h33b); simp only [EV, seval, h32a, h32b, h32c, h33a, h33b]; refine hK _ _ _ ?_; clear hK K; refine AW_le (Le_can (lt := [(1, .ptr 32 0), (3, .own 33 v5.length), (4, .int .i64 v4), (5, .sl (encL EIIIII ((List.replicate (Int.toNat (IntKind.wrap .i64 (1 * 2 ^ min (Int.toNat a1) (IntKind.bits .i64)))) ((0, 0, 0, 0, 0) : Int × Int × Int × Int × Int)).set (Int.toNat (bits .xor .i64 v4 a2)) ((x7.1, x7.2.1, x7.2.2.1, x7.2.2.2.1, x7.2.2.2.2)))) ((List.replicate (Int.toNat (IntKind.wrap .i64 (1 * 2 ^ min (Int.toNat a1) (IntKind.bits .i64)))) ((0, 0, 0, 0, 0) : Int × Int × Int × Int × Int)).set (Int.toNat (bits .xor .i64 v4 a2)) ((x7.1, x7.2.1, x7.2.2.1, x7.2.2.2.1, x7.2.2.2.2))).length)]) (lr := [(32, .box 26 [.int .i64 a1, .int .i64 a2, .int .i64 a3, .int .i64 a4]), (33, .row 62 1 (encL ELIIIIIE v5))]) (b' := 3152) [(32, some 32), (33, some 33)] [1136] hρ (by kernel_rfl) ?_ ?_) ?_
     ·simp only [AL, EV, seval]
     ·simp only [AL, EV, seval]
     refine AS hN fun K hK => ?_; obtain ⟨h34, h⟩ := gd_inv h; replace h34 := of_decide_eq_true h34; (try simp only [EV, seval] at h34); simp only [EV, seval, h34]; refine hK _ _ _ (show AW _ _ _ _ _ from ?_); refine AS hN fun K hK => ?_; simp only [EV, seval]; exact hK _ _ _ (AC ⟨_, _, rfl, h⟩ [(32, some 32), (33, some 3200)] [] hρ)
    ·refine AW_exit (show cutK _ _ _ from cutL ⟨_, rfl, h⟩ (Le_can [(32, some 33)] [] hρ (by kernel_rfl) ?_ ?_))
     ·simp only [AL, EV, seval, h24]
     ·simp only [AL, EV, seval, h24]
  ·rintro S ⟨v6, rfl, h⟩; unfold i_PauliMatrix_j1 at h; refine AW_le (Le_can (lt := [(3, .sl (encL ELIIIIIE v6) v6.length)]) (lr := []) (b' := 80) [] [32] hρ (by kernel_rfl) ?_ ?_) ?_
   ·simp only [AL, EV, seval]
   ·simp only [AL, EV, seval]
   refine AR hN fun K hK => ?_; obtain ⟨x8, h35, h⟩ := bO_inv h; simp only [EV, seval]; refine rC_p (i_flipped_ok h35) (by simp only [AL, EV, seval]) (le_d rfl) (site_1 (by simp only [EV, seval])) ?_; simp only [EV, seval]; refine hK _ _ _ ?_; clear hK K; injection h with h; subst h; exact AX (b' := 64) [(2, .own 32 x8.length)] [(32, .row 62 1 (encL ELIIIIIE x8))] [(32, some 96)] [] hρ (EQ [32])
/- spec.PauliMatrix -/
def s_PauliMatrix_j1 (v9 : List (LF)) : Option (List (LF)) :=
  bO (s_l7Columns v9) fun x13 => some x13
def s_PauliMatrix_j4 (a1 a2 a3 a4 v6 : Int) (v7 : List (LF)) (kl1 : Int → (List (LF)) → Option (List (LF))) (v8 : Bool) : Option (List (LF)) :=
  br v8 (gd (decide (¬ (IntKind.wrap .u64 a1) < 0)) (gd (decide (0 ≤ IntKind.wrap .i64 (1 * 2 ^ min (Int.toNat (IntKind.wrap .u64 a1)) (IntKind.bits .i64)) ∧ IntKind.wrap .i64 (1 * 2 ^ min (Int.toNat (IntKind.wrap .u64 a1)) (IntKind.bits .i64)) ≤ 1048576)) (bO (s_l25Ones (bits .and .i64 v6 a3)) fun x11 => bO (s_PhaseFactor (IntKind.wrap .i64 ((IntKind.wrap .i64 (2 * a4)) + (IntKind.wrap .i64 (4 * x11))))) fun x12 => bO (geti (List.replicate (Int.toNat (IntKind.wrap .i64 (1 * 2 ^ min (Int.toNat (IntKind.wrap .u64 a1)) (IntKind.bits .i64)))) ((0, 0, 0, 0, 0) : Int × Int × Int × Int × Int)) (bits .xor .i64 v6 a2)) fun q3 => gd (decide (v7.length + ([(List.replicate (Int.toNat (IntKind.wrap .i64 (1 * 2 ^ min (Int.toNat (IntKind.wrap .u64 a1)) (IntKind.bits .i64)))) ((0, 0, 0, 0, 0) : Int × Int × Int × Int × Int)).set (Int.toNat (bits .xor .i64 v6 a2)) ((x12.1, x12.2.1, x12.2.2.1, x12.2.2.2.1, x12.2.2.2.2))]).length ≤ 16777216)) (kl1 (IntKind.wrap .i64 (v6 + 1)) (v7 ++ ([(List.replicate (Int.toNat (IntKind.wrap .i64 (1 * 2 ^ min (Int.toNat (IntKind.wrap .u64 a1)) (IntKind.bits .i64)))) ((0, 0, 0, 0, 0) : Int × Int × Int × Int × Int)).set (Int.toNat (bits .xor .i64 v6 a2)) ((x12.1, x12.2.1, x12.2.2.1, x12.2.2.2.1, x12.2.2.2.2))])))))) (s_PauliMatrix_j1 v7)
def s_PauliMatrix_l1 (a1 a2 a3 a4 : Int) : Nat → Int → (List (LF)) → Option (List (LF))
  | 0, _, _ => none
  | n1 + 1, v6, v7 =>
  bO (s_IsValidPauli a1 a2 a3 a4) fun x9 => bO (br x9 (gd (decide (¬ (IntKind.wrap .u64 a1) < 0)) (some (decide (v6 < (IntKind.wrap .i64 (1 * 2 ^ min (Int.toNat (IntKind.wrap .u64 a1)) (IntKind.bits .i64))))))) (some false)) fun x10 => s_PauliMatrix_j4 a1 a2 a3 a4 v6 v7 (s_PauliMatrix_l1 a1 a2 a3 a4 n1) x10
def s_PauliMatrix (a1 a2 a3 a4 : Int) : Option (List (LF)) :=
  s_PauliMatrix_l1 a1 a2 a3 a4 FU 0 ([] : List (LF))
theorem s_PauliMatrix_ok {a1 a2 a3 a4 : Int} {r : List (LF)} (h : s_PauliMatrix a1 a2 a3 a4 = some r) :
    Spec Try.prog 9 [.agg [.int .i64 a1, .int .i64 a2, .int .i64 a3, .int .i64 a4]] [] (.own 0 r.length) [.row 62 1 (encL ELIIIIIE r)] := by
 unfold s_PauliMatrix at h; refine SO Try.func9 rfl Try.ntmps9 fun C hN hρ => ?_; simp only [st0, tmps0, Nat.zero_add, Nat.reduceAdd]; refine AN hN ?_; refine AN hN ?_; refine AW_cutK (fun S => ∃ (v9 : List (LF)), S = ⟨mkT [(3, .own 32 v9.length)], mkR [(32, .row 62 1 (encL ELIIIIIE v9))], 64⟩ ∧ s_PauliMatrix_j1 v9 = some r) ?_ ?_
 ·refine AN hN ?_; refine AW_block ?_; refine AW_loopF (fun n S => ∃ (v6 : Int) (v7 : List (LF)), S = ⟨mkT [(1, .ptr 32 0), (3, .own 33 v7.length), (4, .int .i64 v6)], mkR [(32, .box 26 [.int .i64 a1, .int .i64 a2, .int .i64 a3, .int .i64 a4]), (33, .row 62 1 (encL ELIIIIIE v7))], 64⟩ ∧ s_PauliMatrix_l1 a1 a2 a3 a4 n v6 v7 = some r) FU ?_ ?_ ?_
  ·exact AC ⟨_, _, rfl, h⟩ [(32, some 64), (33, some 1088)] [] hρ
  ·rintro S ⟨_, _, _, h⟩; rw [s_PauliMatrix_l1] at h; cases h
  ·rintro n1 S ⟨v6, v7, rfl, h⟩; rw [s_PauliMatrix_l1] at h; refine AW_seq ?_; refine AJ (fun S => ∃ (v8 : Bool), S = ⟨mkT [(1, .ptr 32 0), (3, .own 33 v7.length), (4, .int .i64 v6), (16, .bool v8)], mkR [(32, .box 26 [.int .i64 a1, .int .i64 a2, .int .i64 a3, .int .i64 a4]), (33, .row 62 1 (encL ELIIIIIE v7))], 64⟩ ∧ s_PauliMatrix_j4 a1 a2 a3 a4 v6 v7 (s_PauliMatrix_l1 a1 a2 a3 a4 n1) v8 = some r) hN ?_ ?_
   ·intro K hK; obtain ⟨x9, h25, h⟩ := bO_inv h; simp only [EV, seval]; refine CP (s_IsValidPauli_ok h25) ?_; obtain ⟨x10, hv3, h⟩ := bO_inv h; rcases br_inv hv3 with ⟨hc5, hv3⟩ | ⟨hc5, hv3⟩
    ·obtain ⟨h27, hv3⟩ := gd_inv hv3; replace h27 := of_decide_eq_true h27; cases hv3; simp only [EV, seval, hc5, h27]; refine hK _ _ _ (show cutK _ _ _ from cutL ⟨_, rfl, h⟩ (Le_can [(32, some 32), (33, some 33)] [] hρ (by kernel_rfl) ?_ ?_))
     ·simp only [AL, EV, seval, hc5, h27]
     ·simp only [AL, EV, seval, hc5, h27]
    ·cases hv3; simp only [EV, seval, hc5]; refine hK _ _ _ (show cutK _ _ _ from cutL ⟨_, rfl, h⟩ (Le_can [(32, some 32), (33, some 33)] [] hρ (by kernel_rfl) ?_ ?_))
     ·simp only [AL, EV, seval, hc5]
     ·simp only [AL, EV, seval, hc5]
   ·rintro S ⟨v8, rfl, h⟩; unfold s_PauliMatrix_j4 at h; refine AB h (fun hc6 h => ?_) fun hc6 h => ?_
    ·refine AW_skip (AK ?_); refine AW_seq ?_; refine AW_block ?_; refine AR hN fun K hK => ?_; obtain ⟨h28, h⟩ := gd_inv h; replace h28 := of_decide_eq_true h28; obtain ⟨h29, h⟩ := gd_inv h; replace h29 := of_decide_eq_true h29; have h30 := zrow_enc (e := EIIIII) ((0, 0, 0, 0, 0)) (Int.toNat (IntKind.wrap .i64 (1 * 2 ^ min (Int.toNat (IntKind.wrap .u64 a1)) (IntKind.bits .i64)))); simp only [EN] at h30; have h31 : (List.replicate (Int.toNat (IntKind.wrap .i64 (1 * 2 ^ min (Int.toNat (IntKind.wrap .u64 a1)) (IntKind.bits .i64)))) ((0, 0, 0, 0, 0) : Int × Int × Int × Int × Int)).length = Int.toNat (IntKind.wrap .i64 (1 * 2 ^ min (Int.toNat (IntKind.wrap .u64 a1)) (IntKind.bits .i64))) := List.length_replicate; simp only [EV, seval, h28, h29, h30, h31]; refine hK _ _ _ ?_; clear hK K; refine AR hN fun K hK => ?_; obtain ⟨x11, h32, h⟩ := bO_inv h; simp only [EV, seval]; refine CP (s_l25Ones_ok h32) ?_; obtain ⟨x12, h33, h⟩ := bO_inv h; simp only [EV, seval]; refine CP (s_PhaseFactor_ok h33) ?_; obtain ⟨q3, h34, h⟩ := bO_inv h; obtain ⟨⟨h35a, h35b⟩, h35c⟩ := geti_E EIIIIIl h34; (try simp only [EV, seval] at h35c); (try simp only [EV, seval] at h35b); have h36 := set_E EIIIIIl ((x12.1, x12.2.1, x12.2.2.1, x12.2.2.2.1, x12.2.2.2.2)) 0 [.int .i64 x12.1, .int .i64 x12.2.1, .int .i64 x12.2.2.1, .int .i64 x12.2.2.2.1, .int .i64 x12.2.2.2.2] h34 (Nat.le_of_ble_eq_true rfl) rfl; obtain ⟨h36a, h36b⟩ := h36; (try simp only [EV, seval] at h36a); (try simp only [EV, seval] at h36b); simp only [EV, seval, h35a, h35b, h35c, h36a, h36b]; refine hK _ _ _ ?_; clear hK K; refine AW_le (Le_can (lt := [(1, .ptr 32 0), (3, .own 33 v7.length), (4, .int .i64 v6), (5, .sl (encL EIIIII ((List.replicate (Int.toNat (IntKind.wrap .i64 (1 * 2 ^ min (Int.toNat (IntKind.wrap .u64 a1)) (IntKind.bits .i64)))) ((0, 0, 0, 0, 0) : Int × Int × Int × Int × Int)).set (Int.toNat (bits .xor .i64 v6 a2)) ((x12.1, x12.2.1, x12.2.2.1, x12.2.2.2.1, x12.2.2.2.2)))) ((List.replicate (Int.toNat (IntKind.wrap .i64 (1 * 2 ^ min (Int.toNat (IntKind.wrap .u64 a1)) (IntKind.bits .i64)))) ((0, 0, 0, 0, 0) : Int × Int × Int × Int × Int)).set (Int.toNat (bits .xor .i64 v6 a2)) ((x12.1, x12.2.1, x12.2.2.1, x12.2.2.2.1, x12.2.2.2.2))).length)]) (lr := [(32, .box 26 [.int .i64 a1, .int .i64 a2, .int .i64 a3, .int .i64 a4]), (33, .row 62 1 (encL ELIIIIIE v7))]) (b' := 2128) [(32, some 32), (33, some 33)] [128] hρ (by kernel_rfl) ?_ ?_) ?_
     ·simp only [AL, EV, seval]
     ·simp only [AL, EV, seval]
     refine AS hN fun K hK => ?_; obtain ⟨h37, h⟩ := gd_inv h; replace h37 := of_decide_eq_true h37; (try simp only [EV, seval] at h37); simp only [EV, seval, h37]; refine hK _ _ _ (show AW _ _ _ _ _ from ?_); refine AS hN fun K hK => ?_; simp only [EV, seval]; exact hK _ _ _ (AC ⟨_, _, rfl, h⟩ [(32, some 32), (33, some 2176)] [] hρ)
    ·exact AW_exit (AC ⟨_, rfl, h⟩ [(32, some 33)] [] hρ)
 ·rintro S ⟨v9, rfl, h⟩; unfold s_PauliMatrix_j1 at h; refine AW_le (Le_can (lt := [(3, .sl (encL ELIIIIIE v9) v9.length)]) (lr := []) (b' := 80) [] [32] hρ (by kernel_rfl) ?_ ?_) ?_
  ·simp only [AL, EV, seval]
  ·simp only [AL, EV, seval]
  refine AR hN fun K hK => ?_; obtain ⟨x13, h38, h⟩ := bO_inv h; simp only [EV, seval]; refine rC_p (s_l7Columns_ok h38) (by simp only [AL, EV, seval]) (le_d rfl) (site_1 (by simp only [EV, seval])) ?_; simp only [EV, seval]; refine hK _ _ _ ?_; clear hK K; injection h with h; subst h; exact AX (b' := 64) [(2, .own 32 x13.length)] [(32, .row 62 1 (encL ELIIIIIE x13))] [(32, some 96)] [] hρ (EQ [32])
end Go.Proofs.Ytflfodcgoffjkaa
/- Models of functions, and that the functions do what the models say; printed by a program. -/
namespace Go.Proofs.Ytflfodcgoffjkaa
open Go.RowKit
set_option maxRecDepth 100000
set_option linter.unusedVariables false
set_option linter.unusedSimpArgs false
set_option linter.defProp false
set_option maxHeartbeats 4000000
/- spec.l10Phase -/
def s_l10Phase_j1 (a1 v1 : Int) : Option (List (Int × Int × Int × Int × Int × Int)) :=
  bO (s_PhaseFactor v1) fun x1 => some ([(a1, x1.1, x1.2.1, x1.2.2.1, x1.2.2.2.1, x1.2.2.2.2)])
def s_l10Phase (a1 : Int) (a2 : Bool) (a3 : Int) : Option (List (Int × Int × Int × Int × Int × Int)) :=
  br (!a2) (s_l10Phase_j1 a1 0) (s_l10Phase_j1 a1 a3)
theorem s_l10Phase_ok {a1 : Int} {a2 : Bool} {a3 : Int} {r : List (Int × Int × Int × Int × Int × Int)} (h : s_l10Phase a1 a2 a3 = some r) :
    Spec Try.prog 225 [.int .i64 a1, .bool a2, .int .i64 a3] [] (.own 0 r.length) [.row 215 6 (encL EIIIIII r)] := by
 unfold s_l10Phase at h; refine SO Try.func225 rfl Try.ntmps225 fun C hN hρ => ?_; simp only [st0, tmps0, Nat.zero_add, Nat.reduceAdd]; refine AN hN ?_; refine AW_cutK (fun S => ∃ (v1 : Int), S = ⟨mkT [(0, .int .i64 a1), (2, .int .i64 v1)], mkR [], 64⟩ ∧ s_l10Phase_j1 a1 v1 = some r) ?_ ?_
 ·refine AN hN ?_; refine AB h (fun hc1 h => ?_) fun hc1 h => ?_
  ·refine AS hN fun K hK => ?_; simp only [EV, seval]; exact hK _ _ _ (AC ⟨_, rfl, h⟩ [] [] hρ)
  ·refine AW_skip (show cutK _ _ _ from cutL ⟨_, rfl, h⟩ (Le_can [] [] hρ (by kernel_rfl) ?_ ?_))
   ·simp only [AL, EV, seval]
   ·simp only [AL, EV, seval]
 ·rintro S ⟨v1, rfl, h⟩; unfold s_l10Phase_j1 at h; obtain ⟨x1, h1, h⟩ := bO_inv h; refine AP hN (s_PhaseFactor_ok h1) ?_; injection h with h; subst h; exact AX (b' := 64) [(6, .own 32 ([(a1, x1.1, x1.2.1, x1.2.2.1, x1.2.2.2.1, x1.2.2.2.2)]).length)] [(32, .row 215 6 (encL EIIIIII ([(a1, x1.1, x1.2.1, x1.2.2.1, x1.2.2.2.1, x1.2.2.2.2)])))] [(32, some 128)] [] hρ (EQ [32])
/- spec.l10Flip -/
def s_l10Flip_j1 (v1 : Int) : Option (List (Int × Int × Int × Int × Int × Int)) :=
  bO (s_PhaseFactor 0) fun x1 => some ([(v1, x1.1, x1.2.1, x1.2.2.1, x1.2.2.2.1, x1.2.2.2.2)])
def s_l10Flip (a1 a2 : Int) (a3 : Bool) : Option (List (Int × Int × Int × Int × Int × Int)) :=
  br a3 (gd (decide (¬ (IntKind.wrap .u64 a2) < 0)) (s_l10Flip_j1 (bits .xor .i64 a1 (IntKind.wrap .i64 (1 * 2 ^ min (Int.toNat (IntKind.wrap .u64 a2)) (IntKind.bits .i64)))))) (s_l10Flip_j1 a1)
theorem s_l10Flip_ok {a1 a2 : Int} {a3 : Bool} {r : List (Int × Int × Int × Int × Int × Int)} (h : s_l10Flip a1 a2 a3 = some r) :
    Spec Try.prog 224 [.int .i64 a1, .int .i64 a2, .bool a3] [] (.own 0 r.length) [.row 215 6 (encL EIIIIII r)] := by
 unfold s_l10Flip at h; refine SO Try.func224 rfl Try.ntmps224 fun C hN hρ => ?_; simp only [st0, tmps0, Nat.zero_add, Nat.reduceAdd]; refine AN hN ?_; refine AW_cutK (fun S => ∃ (v1 : Int), S = ⟨mkT [(0, .int .i64 v1)], mkR [], 64⟩ ∧ s_l10Flip_j1 v1 = some r) ?_ ?_
 ·refine AN hN ?_; refine AB h (fun hc1 h => ?_) fun hc1 h => ?_
  ·refine AS hN fun K hK => ?_; obtain ⟨h1, h⟩ := gd_inv h; replace h1 := of_decide_eq_true h1; simp only [EV, seval, h1]; refine hK _ _ _ (show cutK _ _ _ from cutL ⟨_, rfl, h⟩ (Le_can [] [] hρ (by kernel_rfl) ?_ ?_))
   ·simp only [AL, EV, seval, h1]
   ·simp only [AL, EV, seval, h1]
  ·refine AW_skip (show cutK _ _ _ from cutL ⟨_, rfl, h⟩ (Le_can [] [] hρ (by kernel_rfl) ?_ ?_))
   ·simp only [AL, EV, seval]
   ·simp only [AL, EV, seval]
 ·rintro S ⟨v1, rfl, h⟩; unfold s_l10Flip_j1 at h; obtain ⟨x1, h2, h⟩ := bO_inv h; refine AP hN (s_PhaseFactor_ok h2) ?_; injection h with h; subst h; exact AX (b' := 64) [(6, .own 32 ([(v1, x1.1, x1.2.1, x1.2.2.1, x1.2.2.2.1, x1.2.2.2.2)]).length)] [(32, .row 215 6 (encL EIIIIII ([(v1, x1.1, x1.2.1, x1.2.2.1, x1.2.2.2.1, x1.2.2.2.2)])))] [(32, some 112)] [] hρ (EQ [32])
/- spec.NegZOmega -/
def s_NegZOmega (a1 a2 a3 a4 : Int) : Option (Int × Int × Int × Int) :=
  bO (s_IsValidZOmega a1 a2 a3 a4) fun x1 => br (!x1) (some (0, 0, 0, 0)) (some (IntKind.wrap .i64 (0 - a1), IntKind.wrap .i64 (0 - a2), IntKind.wrap .i64 (0 - a3), IntKind.wrap .i64 (0 - a4)))
theorem s_NegZOmega_ok {a1 a2 a3 a4 : Int} {r : Int × Int × Int × Int} (h : s_NegZOmega a1 a2 a3 a4 = some r) :
    Spec Try.prog 227 [.agg [.int .i64 a1, .int .i64 a2, .int .i64 a3, .int .i64 a4]] [] (.agg [.int .i64 r.1, .int .i64 r.2.1, .int .i64 r.2.2.1, .int .i64 r.2.2.2]) [] := by
 unfold s_NegZOmega at h; refine SO Try.func227 rfl Try.ntmps227 fun C hN hρ => ?_; simp only [st0, tmps0, Nat.zero_add, Nat.reduceAdd]; refine AN hN ?_; refine AW_seq ?_; obtain ⟨x1, h1, h⟩ := bO_inv h; refine AP hN (s_IsValidZOmega_ok h1) ?_; refine AB h (fun hc1 h => ?_) fun hc1 h => ?_
 ·refine AN hN ?_; injection h with h; subst h; exact AX (b' := 64) [(2, .ptr 32 0)] [(32, .box 75 [.int .i64 0, .int .i64 0, .int .i64 0, .int .i64 0])] [(32, some 80)] [] hρ (EQ [])
 ·refine AW_skip (AK ?_); refine AN hN ?_; injection h with h; subst h; exact AX (b' := 64) [(2, .ptr 32 0)] [(32, .box 75 [.int .i64 (IntKind.wrap .i64 (0 - a1)), .int .i64 (IntKind.wrap .i64 (0 - a2)), .int .i64 (IntKind.wrap .i64 (0 - a3)), .int .i64 (IntKind.wrap .i64 (0 - a4))])] [(32, some 80)] [] hρ (EQ [])
/- spec.NegDOmega -/
def s_NegDOmega (a1 a2 a3 a4 a5 : Int) : Option (Int × Int × Int × Int × Int) :=
  bO (s_IsValidDOmega a1 a2 a3 a4 a5) fun x1 => br (!x1) (some (0, 0, 0, 0, 0)) (bO (s_NegZOmega a1 a2 a3 a4) fun x2 => some (x2.1, x2.2.1, x2.2.2.1, x2.2.2.2, a5))
theorem s_NegDOmega_ok {a1 a2 a3 a4 a5 : Int} {r : Int × Int × Int × Int × Int} (h : s_NegDOmega a1 a2 a3 a4 a5 = some r) :
    Spec Try.prog 226 [.agg [.int .i64 a1, .int .i64 a2, .int .i64 a3, .int .i64 a4, .int .i64 a5]] [] (.agg [.int .i64 r.1, .int .i64 r.2.1, .int .i64 r.2.2.1, .int .i64 r.2.2.2.1, .int .i64 r.2.2.2.2]) [] := by
 unfold s_NegDOmega at h; refine SO Try.func226 rfl Try.ntmps226 fun C hN hρ => ?_; simp only [st0, tmps0, Nat.zero_add, Nat.reduceAdd]; refine AN hN ?_; refine AW_seq ?_; obtain ⟨x1, h1, h⟩ := bO_inv h; refine AP hN (s_IsValidDOmega_ok h1) ?_; refine AB h (fun hc1 h => ?_) fun hc1 h => ?_
 ·refine AN hN ?_; injection h with h; subst h; exact AX (b' := 64) [(2, .ptr 32 0)] [(32, .box 77 [.int .i64 0, .int .i64 0, .int .i64 0, .int .i64 0, .int .i64 0])] [(32, some 80)] [] hρ (EQ [])
 ·refine AW_skip (AK ?_); obtain ⟨x2, h2, h⟩ := bO_inv h; refine AP hN (s_NegZOmega_ok h2) ?_; injection h with h; subst h; exact AX (b' := 64) [(2, .ptr 32 0)] [(32, .box 77 [.int .i64 x2.1, .int .i64 x2.2.1, .int .i64 x2.2.2.1, .int .i64 x2.2.2.2, .int .i64 a5])] [(32, some 80)] [] hρ (EQ [])
/- spec.l10Goes -/
def s_l10Goes_j1 (a2 a5 v1 : Int) : Option (List (Int × Int × Int × Int × Int × Int)) :=
  gd (decide (¬ (IntKind.wrap .u64 a2) < 0)) (bO (s_PhaseFactor v1) fun x2 => some ([(bits .xor .i64 a5 (IntKind.wrap .i64 (1 * 2 ^ min (Int.toNat (IntKind.wrap .u64 a2)) (IntKind.bits .i64))), x2.1, x2.2.1, x2.2.2.1, x2.2.2.2.1, x2.2.2.2.2)]))
def s_l10Goes_j2 (v2 : List (Int × Int × Int × Int × Int × Int)) : Option (List (Int × Int × Int × Int × Int × Int)) :=
  some v2
def s_l10Goes_j3 (v3 : List (Int × Int × Int × Int × Int × Int)) : Option (List (Int × Int × Int × Int × Int × Int)) :=
  some v3
def s_l10Goes_j4 (v4 : Int) : Option (List (Int × Int × Int × Int × Int × Int)) :=
  bO (s_PhaseFactor 0) fun x17 => some ([(v4, x17.1, x17.2.1, x17.2.2.1, x17.2.2.2.1, x17.2.2.2.2)])
def s_l10Goes_j5 (a2 : Int) (x18 : Int × Int × Int × Int × Int) (v5 v6 v7 v8 v9 v10 : Int) : Option (List (Int × Int × Int × Int × Int × Int)) :=
  gd (decide (¬ (IntKind.wrap .u64 a2) < 0)) (some ([(v5, x18.1, x18.2.1, x18.2.2.1, x18.2.2.2.1, x18.2.2.2.2), (bits .or .i64 v5 (IntKind.wrap .i64 (1 * 2 ^ min (Int.toNat (IntKind.wrap .u64 a2)) (IntKind.bits .i64))), v6, v7, v8, v9, v10)]))
def s_l10Goes (a1 a2 a3 a4 a5 : Int) : Option (List (Int × Int × Int × Int × Int × Int)) :=
  gd (decide (¬ (IntKind.wrap .u64 a2) < 0)) (gd (decide (¬ (IntKind.wrap .u64 a3) < 0)) (br (a1 == 1) (bO (s_l10Flip a5 a2 true) fun x1 => some x1) (br (a1 == 2) (br ((bits .and .i64 (Int.fdiv a5 (2 ^ min (Int.toNat (IntKind.wrap .u64 a2)) (IntKind.bits .i64))) 1) == 1) (s_l10Goes_j1 a2 a5 6) (s_l10Goes_j1 a2 a5 2)) (br (a1 == 3) (bO (s_l10Phase a5 ((bits .and .i64 (Int.fdiv a5 (2 ^ min (Int.toNat (IntKind.wrap .u64 a2)) (IntKind.bits .i64))) 1) == 1) 4) fun x3 => some x3) (br (a1 == 5) (bO (s_l10Phase a5 ((bits .and .i64 (Int.fdiv a5 (2 ^ min (Int.toNat (IntKind.wrap .u64 a2)) (IntKind.bits .i64))) 1) == 1) 2) fun x4 => some x4) (br (a1 == 6) (bO (s_l10Phase a5 ((bits .and .i64 (Int.fdiv a5 (2 ^ min (Int.toNat (IntKind.wrap .u64 a2)) (IntKind.bits .i64))) 1) == 1) 6) fun x5 => some x5) (br (a1 == 7) (bO (s_l10Phase a5 ((bits .and .i64 (Int.fdiv a5 (2 ^ min (Int.toNat (IntKind.wrap .u64 a2)) (IntKind.bits .i64))) 1) == 1) 1) fun x6 => some x6) (br (a1 == 8) (bO (s_l10Phase a5 ((bits .and .i64 (Int.fdiv a5 (2 ^ min (Int.toNat (IntKind.wrap .u64 a2)) (IntKind.bits .i64))) 1) == 1) 7) fun x7 => some x7) (br (a1 == 9) (bO (s_l10Flip a5 a3 ((bits .and .i64 (Int.fdiv a5 (2 ^ min (Int.toNat (IntKind.wrap .u64 a2)) (IntKind.bits .i64))) 1) == 1)) fun x8 => some x8) (br (a1 == 10) (bO (br ((bits .and .i64 (Int.fdiv a5 (2 ^ min (Int.toNat (IntKind.wrap .u64 a2)) (IntKind.bits .i64))) 1) == 1) (some ((bits .and .i64 (Int.fdiv a5 (2 ^ min (Int.toNat (IntKind.wrap .u64 a3)) (IntKind.bits .i64))) 1) == 1)) (some false)) fun x9 => bO (s_l10Phase a5 x9 4) fun x10 => s_l10Goes_j2 x10) (br (a1 == 12) (bO (br ((bits .and .i64 (Int.fdiv a5 (2 ^ min (Int.toNat (IntKind.wrap .u64 a2)) (IntKind.bits .i64))) 1) == 1) (some ((bits .and .i64 (Int.fdiv a5 (2 ^ min (Int.toNat (IntKind.wrap .u64 a3)) (IntKind.bits .i64))) 1) == 1)) (some false)) fun x13 => bO (s_l10Flip a5 a4 x13) fun x14 => s_l10Goes_j3 x14) (br (a1 == 11) (br (((bits .and .i64 (Int.fdiv a5 (2 ^ min (Int.toNat (IntKind.wrap .u64 a2)) (IntKind.bits .i64))) 1) == 1) != ((bits .and .i64 (Int.fdiv a5 (2 ^ min (Int.toNat (IntKind.wrap .u64 a3)) (IntKind.bits .i64))) 1) == 1)) (gd (decide (¬ (IntKind.wrap .u64 a2) < 0)) (gd (decide (¬ (IntKind.wrap .u64 a3) < 0)) (s_l10Goes_j4 (bits .xor .i64 (bits .xor .i64 a5 (IntKind.wrap .i64 (1 * 2 ^ min (Int.toNat (IntKind.wrap .u64 a2)) (IntKind.bits .i64)))) (IntKind.wrap .i64 (1 * 2 ^ min (Int.toNat (IntKind.wrap .u64 a3)) (IntKind.bits .i64))))))) (s_l10Goes_j4 a5)) (gd (decide (¬ (IntKind.wrap .u64 a2) < 0)) (bO (s_InvSqrt2Power 1) fun x18 => br ((bits .and .i64 (Int.fdiv a5 (2 ^ min (Int.toNat (IntKind.wrap .u64 a2)) (IntKind.bits .i64))) 1) == 1) (bO (s_NegDOmega x18.1 x18.2.1 x18.2.2.1 x18.2.2.2.1 x18.2.2.2.2) fun x19 => s_l10Goes_j5 a2 x18 (bits .andNot .i64 a5 (IntKind.wrap .i64 (1 * 2 ^ min (Int.toNat (IntKind.wrap .u64 a2)) (IntKind.bits .i64)))) x19.1 x19.2.1 x19.2.2.1 x19.2.2.2.1 x19.2.2.2.2) (s_l10Goes_j5 a2 x18 (bits .andNot .i64 a5 (IntKind.wrap .i64 (1 * 2 ^ min (Int.toNat (IntKind.wrap .u64 a2)) (IntKind.bits .i64)))) x18.1 x18.2.1 x18.2.2.1 x18.2.2.2.1 x18.2.2.2.2)))))))))))))))
theorem s_l10Goes_ok {a1 a2 a3 a4 a5 : Int} {r : List (Int × Int × Int × Int × Int × Int)} (h : s_l10Goes a1 a2 a3 a4 a5 = some r) :
    Spec Try.prog 222 [.agg [.int .i64 a1, .int .i64 a2, .int .i64 a3, .int .i64 a4], .int .i64 a5] [] (.own 0 r.length) [.row 215 6 (encL EIIIIII r)] := by
 unfold s_l10Goes at h; refine SO Try.func222 rfl Try.ntmps222 fun C hN hρ => ?_; simp only [st0, tmps0, Nat.zero_add, Nat.reduceAdd]; refine AN hN ?_; refine AR hN fun K hK => ?_; obtain ⟨h1, h⟩ := gd_inv h; replace h1 := of_decide_eq_true h1; simp only [EV, seval, h1]; refine hK _ _ _ ?_; clear hK K; refine AR hN fun K hK => ?_; obtain ⟨h2, h⟩ := gd_inv h; replace h2 := of_decide_eq_true h2; simp only [EV, seval, h2]; refine hK _ _ _ ?_; clear hK K; refine AW_seq ?_; refine AN hN ?_; refine AW_block ?_; refine AN hN ?_; refine AB h (fun hc1 h => ?_) fun hc1 h => ?_
 ·refine AR hN fun K hK => ?_; obtain ⟨x1, h3, h⟩ := bO_inv h; simp only [EV, seval]; refine rC_p (s_l10Flip_ok h3) (by simp only [AL, EV, seval]) (le_d rfl) (site_1 (by simp only [EV, seval])) ?_; simp only [EV, seval]; refine hK _ _ _ ?_; clear hK K; injection h with h; subst h; exact AX (b' := 64) [(4, .own 32 x1.length)] [(32, .row 215 6 (encL EIIIIII x1))] [(32, some 5232)] [] hρ (EQ [32])
 ·refine AN hN ?_; refine AB h (fun hc2 h => ?_) fun hc2 h => ?_
  ·refine AN hN ?_; refine AW_cutK (fun S => ∃ (v1 : Int), S = ⟨mkT [(1, .int .i64 a5), (2, .ptr 32 0), (7, .int .i64 v1)], mkR [(32, .box 88 [.int .i64 a1, .int .i64 a2, .int .i64 a3, .int .i64 a4])], 64⟩ ∧ s_l10Goes_j1 a2 a5 v1 = some r) ?_ ?_
   ·refine AN hN ?_; refine AB h (fun hc3 h => ?_) fun hc3 h => ?_
    ·refine AS hN fun K hK => ?_; simp only [EV, seval]; exact hK _ _ _ (AC ⟨_, rfl, h⟩ [(32, some 64)] [] hρ)
    ·refine AW_skip (show cutK _ _ _ from cutL ⟨_, rfl, h⟩ (Le_can [(32, some 64)] [] hρ (by kernel_rfl) ?_ ?_))
     ·simp only [AL, EV, seval]
     ·simp only [AL, EV, seval]
   ·rintro S ⟨v1, rfl, h⟩; unfold s_l10Goes_j1 at h; refine AR hN fun K hK => ?_; obtain ⟨h4, h⟩ := gd_inv h; replace h4 := of_decide_eq_true h4; obtain ⟨x2, h5, h⟩ := bO_inv h; simp only [EV, seval, h4]; refine rC_p (s_PhaseFactor_ok h5) (by simp only [AL, EV, seval, h4]) (le_d rfl) (no_j rfl) ?_; simp only [EV, seval, h4]; refine hK _ _ _ ?_; clear hK K; injection h with h; subst h; refine AW_le (Le_can (lt := [(4, .own 32 ([(bits .xor .i64 a5 (IntKind.wrap .i64 (1 * 2 ^ min (Int.toNat (IntKind.wrap .u64 a2)) (IntKind.bits .i64))), x2.1, x2.2.1, x2.2.2.1, x2.2.2.2.1, x2.2.2.2.2)]).length)]) (lr := [(32, .row 215 6 (encL EIIIIII ([(bits .xor .i64 a5 (IntKind.wrap .i64 (1 * 2 ^ min (Int.toNat (IntKind.wrap .u64 a2)) (IntKind.bits .i64))), x2.1, x2.2.1, x2.2.2.1, x2.2.2.2.1, x2.2.2.2.2)])))]) (b' := 64) [(32, some 208)] [] hρ (by kernel_rfl) ?_ ?_) (AW_ret (end_q [32] (.inr rfl) (by kernel_rfl) (by kernel_rfl) ?_))
    ·simp only [AL, EV, seval, h4]
    ·simp only [AL, EV, seval, h4]
    ·simp only [EV, Try.results222, seval]
  ·refine AN hN ?_; refine AB h (fun hc4 h => ?_) fun hc4 h => ?_
   ·refine AR hN fun K hK => ?_; obtain ⟨x3, h6, h⟩ := bO_inv h; simp only [EV, seval]; refine rC_p (s_l10Phase_ok h6) (by simp only [AL, EV, seval]) (le_d rfl) (site_1 (by simp only [EV, seval])) ?_; simp only [EV, seval]; refine hK _ _ _ ?_; clear hK K; injection h with h; subst h; exact AX (b' := 64) [(4, .own 32 x3.length)] [(32, .row 215 6 (encL EIIIIII x3))] [(32, some 7264)] [] hρ (EQ [32])
   ·refine AN hN ?_; refine AB h (fun hc5 h => ?_) fun hc5 h => ?_
    ·refine AR hN fun K hK => ?_; obtain ⟨x4, h7, h⟩ := bO_inv h; simp only [EV, seval]; refine rC_p (s_l10Phase_ok h7) (by simp only [AL, EV, seval]) (le_d rfl) (site_1 (by simp only [EV, seval])) ?_; simp only [EV, seval]; refine hK _ _ _ ?_; clear hK K; injection h with h; subst h; exact AX (b' := 64) [(4, .own 32 x4.length)] [(32, .row 215 6 (encL EIIIIII x4))] [(32, some 8288)] [] hρ (EQ [32])
    ·refine AN hN ?_; refine AB h (fun hc6 h => ?_) fun hc6 h => ?_
     ·refine AR hN fun K hK => ?_; obtain ⟨x5, h8, h⟩ := bO_inv h; simp only [EV, seval]; refine rC_p (s_l10Phase_ok h8) (by simp only [AL, EV, seval]) (le_d rfl) (site_1 (by simp only [EV, seval])) ?_; simp only [EV, seval]; refine hK _ _ _ ?_; clear hK K; injection h with h; subst h; exact AX (b' := 64) [(4, .own 32 x5.length)] [(32, .row 215 6 (encL EIIIIII x5))] [(32, some 9312)] [] hρ (EQ [32])
     ·refine AN hN ?_; refine AB h (fun hc7 h => ?_) fun hc7 h => ?_
      ·refine AR hN fun K hK => ?_; obtain ⟨x6, h9, h⟩ := bO_inv h; simp only [EV, seval]; refine rC_p (s_l10Phase_ok h9) (by simp only [AL, EV, seval]) (le_d rfl) (site_1 (by simp only [EV, seval])) ?_; simp only [EV, seval]; refine hK _ _ _ ?_; clear hK K; injection h with h; subst h; exact AX (b' := 64) [(4, .own 32 x6.length)] [(32, .row 215 6 (encL EIIIIII x6))] [(32, some 10336)] [] hρ (EQ [32])
      ·refine AN hN ?_; refine AB h (fun hc8 h => ?_) fun hc8 h => ?_
       ·refine AR hN fun K hK => ?_; obtain ⟨x7, h10, h⟩ := bO_inv h; simp only [EV, seval]; refine rC_p (s_l10Phase_ok h10) (by simp only [AL, EV, seval]) (le_d rfl) (site_1 (by simp only [EV, seval])) ?_; simp only [EV, seval]; refine hK _ _ _ ?_; clear hK K; injection h with h; subst h; exact AX (b' := 64) [(4, .own 32 x7.length)] [(32, .row 215 6 (encL EIIIIII x7))] [(32, some 11360)] [] hρ (EQ [32])
       ·refine AN hN ?_; refine AB h (fun hc9 h => ?_) fun hc9 h => ?_
        ·refine AR hN fun K hK => ?_; obtain ⟨x8, h11, h⟩ := bO_inv h; simp only [EV, seval]; refine rC_p (s_l10Flip_ok h11) (by simp only [AL, EV, seval]) (le_d rfl) (site_1 (by simp only [EV, seval])) ?_; simp only [EV, seval]; refine hK _ _ _ ?_; clear hK K; injection h with h; subst h; exact AX (b' := 64) [(4, .own 32 x8.length)] [(32, .row 215 6 (encL EIIIIII x8))] [(32, some 12416)] [] hρ (EQ [32])
        ·refine AN hN ?_; refine AB h (fun hc10 h => ?_) fun hc10 h => ?_
         ·refine AJ (fun S => ∃ (v2 : List (Int × Int × Int × Int × Int × Int)), S = ⟨mkT [(4, .own 32 v2.length)], mkR [(32, .row 215 6 (encL EIIIIII v2))], 64⟩ ∧ s_l10Goes_j2 v2 = some r) hN ?_ ?_
          ·intro K hK; obtain ⟨x9, hv1, h⟩ := bO_inv h; rcases br_inv hv1 with ⟨hc11, hv1⟩ | ⟨hc11, hv1⟩
           ·cases hv1; obtain ⟨x11, h13, h⟩ := bO_inv h; simp only [EV, seval, hc11]; refine rC_p (s_l10Phase_ok h13) (by simp only [AL, EV, seval, hc11]) (le_d rfl) (site_1 (by simp only [EV, seval])) ?_; simp only [EV, seval, hc11]; refine hK _ _ _ (show cutK _ _ _ from cutL ⟨_, rfl, h⟩ (Le_can [(32, some 13456)] [] hρ (by kernel_rfl) ?_ ?_))
            ·simp only [AL, EV, seval, hc11]
            ·simp only [AL, EV, seval, hc11]
           ·cases hv1; obtain ⟨x12, h14, h⟩ := bO_inv h; simp only [EV, seval, hc11]; refine rC_p (s_l10Phase_ok h14) (by simp only [AL, EV, seval, hc11]) (le_d rfl) (site_1 (by simp only [EV, seval])) ?_; simp only [EV, seval, hc11]; refine hK _ _ _ (show cutK _ _ _ from cutL ⟨_, rfl, h⟩ (Le_can [(32, some 13456)] [] hρ (by kernel_rfl) ?_ ?_))
            ·simp only [AL, EV, seval, hc11]
            ·simp only [AL, EV, seval, hc11]
          ·rintro S ⟨v2, rfl, h⟩; unfold s_l10Goes_j2 at h; injection h with h; subst h; exact AX (b' := 64) [(4, .own 32 v2.length)] [(32, .row 215 6 (encL EIIIIII v2))] [(32, some 32)] [] hρ (EQ [32])
         ·refine AN hN ?_; refine AB h (fun hc12 h => ?_) fun hc12 h => ?_
          ·refine AJ (fun S => ∃ (v3 : List (Int × Int × Int × Int × Int × Int)), S = ⟨mkT [(4, .own 32 v3.length)], mkR [(32, .row 215 6 (encL EIIIIII v3))], 64⟩ ∧ s_l10Goes_j3 v3 = some r) hN ?_ ?_
           ·intro K hK; obtain ⟨x13, hv2, h⟩ := bO_inv h; rcases br_inv hv2 with ⟨hc13, hv2⟩ | ⟨hc13, hv2⟩
            ·cases hv2; obtain ⟨x15, h16, h⟩ := bO_inv h; simp only [EV, seval, hc13]; refine rC_p (s_l10Flip_ok h16) (by simp only [AL, EV, seval, hc13]) (le_d rfl) (site_1 (by simp only [EV, seval])) ?_; simp only [EV, seval, hc13]; refine hK _ _ _ (show cutK _ _ _ from cutL ⟨_, rfl, h⟩ (Le_can [(32, some 14512)] [] hρ (by kernel_rfl) ?_ ?_))
             ·simp only [AL, EV, seval, hc13]
             ·simp only [AL, EV, seval, hc13]
            ·cases hv2; obtain ⟨x16, h17, h⟩ := bO_inv h; simp only [EV, seval, hc13]; refine rC_p (s_l10Flip_ok h17) (by simp only [AL, EV, seval, hc13]) (le_d rfl) (site_1 (by simp only [EV, seval])) ?_; simp only [EV, seval, hc13]; refine hK _ _ _ (show cutK _ _ _ from cutL ⟨_, rfl, h⟩ (Le_can [(32, some 14512)] [] hρ (by kernel_rfl) ?_ ?_))
             ·simp only [AL, EV, seval, hc13]
             ·simp only [AL, EV, seval, hc13]
           ·rintro S ⟨v3, rfl, h⟩; unfold s_l10Goes_j3 at h; injection h with h; subst h; exact AX (b' := 64) [(4, .own 32 v3.length)] [(32, .row 215 6 (encL EIIIIII v3))] [(32, some 32)] [] hρ (EQ [32])
          ·refine AN hN ?_; refine AB h (fun hc14 h => ?_) fun hc14 h => ?_
           ·refine AW_cutK (fun S => ∃ (v4 : Int), S = ⟨mkT [(1, .int .i64 v4)], mkR [], 64⟩ ∧ s_l10Goes_j4 v4 = some r) ?_ ?_
            ·refine AN hN ?_; refine AB h (fun hc15 h => ?_) fun hc15 h => ?_
             ·refine AS hN fun K hK => ?_; obtain ⟨h18, h⟩ := gd_inv h; replace h18 := of_decide_eq_true h18; obtain ⟨h19, h⟩ := gd_inv h; replace h19 := of_decide_eq_true h19; simp only [EV, seval, h18, h19]; refine hK _ _ _ (show cutK _ _ _ from cutL ⟨_, rfl, h⟩ (Le_can [] [] hρ (by kernel_rfl) ?_ ?_))
              ·simp only [AL, EV, seval, h18, h19]
              ·simp only [AL, EV, seval, h18, h19]
             ·refine AW_skip (show cutK _ _ _ from cutL ⟨_, rfl, h⟩ (Le_can [] [] hρ (by kernel_rfl) ?_ ?_))
              ·simp only [AL, EV, seval]
              ·simp only [AL, EV, seval]
            ·rintro S ⟨v4, rfl, h⟩; unfold s_l10Goes_j4 at h; obtain ⟨x17, h20, h⟩ := bO_inv h; refine AP hN (s_PhaseFactor_ok h20) ?_; injection h with h; subst h; exact AX (b' := 64) [(4, .own 32 ([(v4, x17.1, x17.2.1, x17.2.2.1, x17.2.2.2.1, x17.2.2.2.2)]).length)] [(32, .row 215 6 (encL EIIIIII ([(v4, x17.1, x17.2.1, x17.2.2.1, x17.2.2.2.1, x17.2.2.2.2)])))] [(32, some 112)] [] hρ (EQ [32])
           ·refine AW_skip (AK ?_); refine AR hN fun K hK => ?_; obtain ⟨h21, h⟩ := gd_inv h; replace h21 := of_decide_eq_true h21; simp only [EV, seval, h21]; refine hK _ _ _ ?_; clear hK K; obtain ⟨x18, h22, h⟩ := bO_inv h; refine AP hN (s_InvSqrt2Power_ok h22) ?_; refine AN hN ?_; refine AW_cutK (fun S => ∃ (v5 v6 v7 v8 v9 v10 : Int), S = ⟨mkT [(2, .ptr 32 0), (8, .int .i64 v5), (9, .ptr 33 0), (10, .ptr 34 0)], mkR [(32, .box 88 [.int .i64 a1, .int .i64 a2, .int .i64 a3, .int .i64 a4]), (33, .box 77 [.int .i64 x18.1, .int .i64 x18.2.1, .int .i64 x18.2.2.1, .int .i64 x18.2.2.2.1, .int .i64 x18.2.2.2.2]), (34, .box 77 [.int .i64 v6, .int .i64 v7, .int .i64 v8, .int .i64 v9, .int .i64 v10])], 64⟩ ∧ s_l10Goes_j5 a2 x18 v5 v6 v7 v8 v9 v10 = some r) ?_ ?_
            ·refine AN hN ?_; refine AB h (fun hc16 h => ?_) fun hc16 h => ?_
             ·refine AS hN fun K hK => ?_; obtain ⟨x19, h23, h⟩ := bO_inv h; simp only [EV, seval]; refine CP (s_NegDOmega_ok h23) ?_; simp only [EV, seval]; exact hK _ _ _ (AC ⟨_, _, _, _, _, _, rfl, h⟩ [(32, some 64), (33, some 16464), (34, some 17488)] [] hρ)
             ·refine AW_skip (show cutK _ _ _ from cutL ⟨_, _, _, _, _, _, rfl, h⟩ (Le_can [(32, some 64), (33, some 16464), (34, some 17488)] [] hρ (by kernel_rfl) ?_ ?_))
              ·simp only [AL, EV, seval]
              ·simp only [AL, EV, seval]
            ·rintro S ⟨v5, v6, v7, v8, v9, v10, rfl, h⟩; unfold s_l10Goes_j5 at h; refine AR hN fun K hK => ?_; obtain ⟨h24, h⟩ := gd_inv h; replace h24 := of_decide_eq_true h24; simp only [EV, seval, h24]; refine hK _ _ _ ?_; clear hK K; injection h with h; subst h; refine AW_le (Le_can (lt := [(4, .own 32 ([(v5, x18.1, x18.2.1, x18.2.2.1, x18.2.2.2.1, x18.2.2.2.2), (bits .or .i64 v5 (IntKind.wrap .i64 (1 * 2 ^ min (Int.toNat (IntKind.wrap .u64 a2)) (IntKind.bits .i64))), v6, v7, v8, v9, v10)]).length)]) (lr := [(32, .row 215 6 (encL EIIIIII ([(v5, x18.1, x18.2.1, x18.2.2.1, x18.2.2.2.1, x18.2.2.2.2), (bits .or .i64 v5 (IntKind.wrap .i64 (1 * 2 ^ min (Int.toNat (IntKind.wrap .u64 a2)) (IntKind.bits .i64))), v6, v7, v8, v9, v10)])))]) (b' := 64) [(32, some 240)] [] hρ (by kernel_rfl) ?_ ?_) (AW_ret (end_q [32] (.inr rfl) (by kernel_rfl) (by kernel_rfl) ?_))
             ·simp only [AL, EV, seval, h24]
             ·simp only [AL, EV, seval, h24]
             ·simp only [EV, Try.results222, seval]
/- spec.ApplyGate -/
def s_ApplyGate_j14 (v27 : Int) (v28 : LF) (kl4 : Int → (LF) → Option (LF × Bool)) (q20 : Int × Int × Int × Int × Int × Int) (x35 : Int × Int × Int × Int × Int × Bool) (v29 : Bool) : Option (LF × Bool) :=
  br v29 (some ([], false)) (kl4 (IntKind.wrap .i64 (v27 + 1)) (v28.set (Int.toNat q20.1) ((x35.1, x35.2.1, x35.2.2.1, x35.2.2.2.1, x35.2.2.2.2.1))))
def s_ApplyGate_j11 (v21 : Int) (kl3 : Int → (LF) → Option (LF × Bool)) (v30 : LF) : Option (LF × Bool) :=
  kl3 (IntKind.wrap .i64 (v21 + 1)) v30
def s_ApplyGate_l4 (v21 : Int) (kl3 : Int → (LF) → Option (LF × Bool)) (q15 : Int × Int × Int × Int × Int) (x27 : List (Int × Int × Int × Int × Int × Int)) : Nat → Int → (LF) → Option (LF × Bool)
  | 0, _, _ => none
  | n4 + 1, v27, v28 =>
  br (decide (v27 < ((x27.length : Int)))) (bO (geti x27 v27) fun q20 => bO (s_MulDOmega q15.1 q15.2.1 q15.2.2.1 q15.2.2.2.1 q15.2.2.2.2 q20.2.1 q20.2.2.1 q20.2.2.2.1 q20.2.2.2.2.1 q20.2.2.2.2.2) fun x34 => bO (geti v28 q20.1) fun q21 => bO (s_AddDOmega q21.1 q21.2.1 q21.2.2.1 q21.2.2.2.1 q21.2.2.2.2 x34.1 x34.2.1 x34.2.2.1 x34.2.2.2.1 x34.2.2.2.2.1) fun x35 => bO (br (!x34.2.2.2.2.2) (some true) (some (!x35.2.2.2.2.2))) fun x36 => s_ApplyGate_j14 v27 v28 (s_ApplyGate_l4 v21 kl3 q15 x27 n4) q20 x35 x36) (s_ApplyGate_j11 v21 kl3 v28)
def s_ApplyGate_j2 (v31 : LF) : Option (LF × Bool) :=
  some (v31, true)
def s_ApplyGate_l1 (a1 a2 a3 a4 : Int) (a5 : LF) : Nat → Int → (LF) → Option (LF × Bool)
  | 0, _, _ => none
  | n3 + 1, v21, v22 =>
  br (decide (v21 < ((a5.length : Int)))) (bO (geti a5 v21) fun q15 => br (((q15.1 == 0) && ((q15.2.1 == 0) && ((q15.2.2.1 == 0) && ((q15.2.2.2.1 == 0) && (q15.2.2.2.2 == 0)))))) (s_ApplyGate_j11 v21 (s_ApplyGate_l1 a1 a2 a3 a4 a5 n3) v22) (bO (s_l10Goes a1 a2 a3 a4 v21) fun x27 => s_ApplyGate_l4 v21 (s_ApplyGate_l1 a1 a2 a3 a4 a5 n3) q15 x27 FU 0 v22)) (s_ApplyGate_j2 v22)
def s_ApplyGate_j1 (a1 a2 a3 a4 : Int) (a5 : LF) (v1 : Bool) : Option (LF × Bool) :=
  br v1 (some ([], false)) (gd (decide (0 ≤ (a5.length : Int) ∧ (a5.length : Int) ≤ 1048576)) (s_ApplyGate_l1 a1 a2 a3 a4 a5 FU 0 (List.replicate (Int.toNat ((a5.length : Int))) ((0, 0, 0, 0, 0) : Int × Int × Int × Int × Int))))
def s_ApplyGate (a1 a2 a3 a4 : Int) (a5 : LF) : Option (LF × Bool) :=
  bO (s_IsValidState a5) fun x1 => bO (br (!x1) (some true) (bO (s_QubitCount a5) fun x2 => bO (s_IsValidGate a1 a2 a3 a4 x2) fun x3 => some (!x3))) fun x4 => s_ApplyGate_j1 a1 a2 a3 a4 a5 x4
theorem s_ApplyGate_ok {a1 a2 a3 a4 : Int} {a5 : LF} {r : LF × Bool} (h : s_ApplyGate a1 a2 a3 a4 a5 = some r) :
    Spec Try.prog 214 [.agg [.int .i64 a1, .int .i64 a2, .int .i64 a3, .int .i64 a4], .sl (encL EIIIII a5) a5.length] [] (.tup [.own 0 r.1.length, .bool r.2]) [.row 77 5 (encL EIIIII r.1)] := by
 unfold s_ApplyGate at h; refine SO Try.func214 rfl Try.ntmps214 fun C hN hρ => ?_; simp only [st0, tmps0, Nat.zero_add, Nat.reduceAdd]; refine AN hN ?_; refine AW_seq ?_; refine AJ (fun S => ∃ (v1 : Bool), S = ⟨mkT [(1, .sl (encL EIIIII a5) a5.length), (2, .ptr 32 0), (23, .bool v1)], mkR [(32, .box 88 [.int .i64 a1, .int .i64 a2, .int .i64 a3, .int .i64 a4])], 64⟩ ∧ s_ApplyGate_j1 a1 a2 a3 a4 a5 v1 = some r) hN ?_ ?_
 ·intro K hK; obtain ⟨x1, h1, h⟩ := bO_inv h; simp only [EV, seval]; refine CP (s_IsValidState_ok h1) ?_; obtain ⟨x4, hv1, h⟩ := bO_inv h; rcases br_inv hv1 with ⟨hc1, hv1⟩ | ⟨hc1, hv1⟩
  ·cases hv1; simp only [EV, seval, hc1]; refine hK _ _ _ (show cutK _ _ _ from cutL ⟨_, rfl, h⟩ (Le_can [(32, some 64)] [] hρ (by kernel_rfl) ?_ ?_))
   ·simp only [AL, EV, seval, hc1]
   ·simp only [AL, EV, seval, hc1]
  ·obtain ⟨x5, h4, hv1⟩ := bO_inv hv1; simp only [EV, seval, hc1]; refine rC_p (s_QubitCount_ok h4) (by simp only [AL, EV, seval, hc1]) (le_d rfl) (no_j rfl) ?_; obtain ⟨x6, h5, hv1⟩ := bO_inv hv1; simp only [EV, seval, hc1]; refine rC_p (s_IsValidGate_ok h5) (by simp only [AL, EV, seval, hc1]) (le_d rfl) (no_j rfl) ?_; cases hv1; simp only [EV, seval, hc1]; refine hK _ _ _ (show cutK _ _ _ from cutL ⟨_, rfl, h⟩ (Le_can [(32, some 64)] [] hρ (by kernel_rfl) ?_ ?_))
   ·simp only [AL, EV, seval, hc1]
   ·simp only [AL, EV, seval, hc1]
 ·rintro S ⟨v1, rfl, h⟩; unfold s_ApplyGate_j1 at h; refine AB h (fun hc2 h => ?_) fun hc2 h => ?_
  ·refine AN hN ?_; injection h with h; subst h; exact AX (b' := 64) [(4, .own 32 0), (5, .bool false)] [(32, .row 77 5 (encL EIIIII ([])))] [(32, some 64)] [] hρ (EQ [32])
  ·refine AW_skip (AK ?_); refine AR hN fun K hK => ?_; obtain ⟨h6, h⟩ := gd_inv h; replace h6 := of_decide_eq_true h6; have h7 := zrow_enc (e := EIIIII) ((0, 0, 0, 0, 0)) (Int.toNat ((a5.length : Int))); simp only [EN] at h7; have h8 : (List.replicate (Int.toNat ((a5.length : Int))) ((0, 0, 0, 0, 0) : Int × Int × Int × Int × Int)).length = Int.toNat ((a5.length : Int)) := List.length_replicate; simp only [EV, seval, h6, h7, h8]; refine hK _ _ _ ?_; clear hK K; refine AW_cutK (fun S => ∃ (v31 : LF), S = ⟨mkT [(6, .own 32 v31.length)], mkR [(32, .row 77 5 (encL EIIIII v31))], 64⟩ ∧ s_ApplyGate_j2 v31 = some r) ?_ ?_
   ·refine AN hN ?_; refine AW_block ?_; refine AW_loopF (fun n S => ∃ (v21 : Int) (v22 : LF), S = ⟨mkT [(1, .sl (encL EIIIII a5) a5.length), (2, .ptr 32 0), (6, .own 33 v22.length), (7, .int .i64 v21)], mkR [(32, .box 88 [.int .i64 a1, .int .i64 a2, .int .i64 a3, .int .i64 a4]), (33, .row 77 5 (encL EIIIII v22))], 64⟩ ∧ s_ApplyGate_l1 a1 a2 a3 a4 a5 n v21 v22 = some r) FU ?_ ?_ ?_
    ·exact AC ⟨_, _, rfl, h⟩ [(32, some 32), (33, some 96)] [] hρ
    ·rintro S ⟨_, _, _, h⟩; rw [s_ApplyGate_l1] at h; cases h
    ·rintro n3 S ⟨v21, v22, rfl, h⟩; rw [s_ApplyGate_l1] at h; refine AW_seq ?_; refine AN hN ?_; refine AB h (fun hc25 h => ?_) fun hc25 h => ?_
     ·refine AW_skip (AK ?_); refine AW_cutK (fun S => ∃ (v30 : LF), S = ⟨mkT [(1, .sl (encL EIIIII a5) a5.length), (2, .ptr 32 0), (6, .own 33 v30.length), (7, .int .i64 v21)], mkR [(32, .box 88 [.int .i64 a1, .int .i64 a2, .int .i64 a3, .int .i64 a4]), (33, .row 77 5 (encL EIIIII v30))], 64⟩ ∧ s_ApplyGate_j11 v21 (s_ApplyGate_l1 a1 a2 a3 a4 a5 n3) v30 = some r) ?_ ?_
      ·refine AW_block ?_; refine AW_seq ?_; refine AR hN fun K hK => ?_; obtain ⟨q15, h63, h⟩ := bO_inv h; obtain ⟨⟨h64a, h64b⟩, h64c⟩ := geti_E EIIIIIl h63; (try simp only [EV, seval] at h64c); simp only [EV, seval, h64a, h64b, h64c]; refine hK _ _ _ ?_; clear hK K; refine AW_condK (a := .bool (((q15.1 == 0) && ((q15.2.1 == 0) && ((q15.2.2.1 == 0) && ((q15.2.2.2.1 == 0) && (q15.2.2.2.2 == 0))))))) (by simp only [EV, seval, h64a, h64b, h64c]) (brK h (fun hc26 h => ?_) (fun hc26 h => ?_))
       ·refine AW_exit (show cutK _ _ _ from cutL ⟨_, rfl, h⟩ (Le_can [(32, some 32), (33, some 33)] [] hρ (by kernel_rfl) ?_ ?_))
        ·simp only [AL, EV, seval, h64a, h64b, h64c]
        ·simp only [AL, EV, seval, h64a, h64b, h64c]
       ·refine AW_skip (AK ?_); refine AR hN fun K hK => ?_; obtain ⟨x27, h65, h⟩ := bO_inv h; simp only [EV, seval]; refine rC_p (s_l10Goes_ok h65) (by simp only [AL, EV, seval]) (le_d rfl) (site_1 (by simp only [EV, seval])) ?_; simp only [EV, seval]; refine hK _ _ _ ?_; clear hK K; refine AN hN ?_; refine AW_block ?_; refine AW_loopF (fun n S => ∃ (v27 : Int) (v28 : LF), S = ⟨mkT [(1, .sl (encL EIIIII a5) a5.length), (2, .ptr 32 0), (6, .own 33 v28.length), (7, .int .i64 v21), (8, .own 34 x27.length), (9, .int .i64 v27)], mkR [(32, .box 88 [.int .i64 a1, .int .i64 a2, .int .i64 a3, .int .i64 a4]), (33, .row 77 5 (encL EIIIII v28)), (34, .row 215 6 (encL EIIIIII x27))], 64⟩ ∧ s_ApplyGate_l4 v21 (s_ApplyGate_l1 a1 a2 a3 a4 a5 n3) q15 x27 n v27 v28 = some r) FU ?_ ?_ ?_
        ·exact AC ⟨_, _, rfl, h⟩ [(32, some 32), (33, some 33), (34, some 2144)] [] hρ
        ·rintro S ⟨_, _, _, h⟩; rw [s_ApplyGate_l4] at h; cases h
        ·rintro n4 S ⟨v27, v28, rfl, h⟩; rw [s_ApplyGate_l4] at h; refine AW_seq ?_; refine AN hN ?_; refine AB h (fun hc33 h => ?_) fun hc33 h => ?_
         ·refine AW_skip (AK ?_); refine AW_seq ?_; refine AW_block ?_; refine AR hN fun K hK => ?_; obtain ⟨q20, h82, h⟩ := bO_inv h; obtain ⟨⟨h83a, h83b⟩, h83c⟩ := geti_E EIIIIIIl h82; (try simp only [EV, seval] at h83c); have h84 := geti_F EIIIIIIl 1 h82; (try simp only [EV, seval] at h84); obtain ⟨x34, h85, h⟩ := bO_inv h; simp only [EV, seval, h64a, h64b, h64c, h83a, h83b, h83c, h84]; refine rC_p (s_MulDOmega_ok h85) (by simp only [AL, EV, seval, h64a, h64b, h64c, h83a, h83b, h83c, h84]) (le_d rfl) (no_j rfl) ?_; simp only [EV, seval, h64a, h64b, h64c, h83a, h83b, h83c, h84]; refine hK _ _ _ ?_; clear hK K; refine AR hN fun K hK => ?_; obtain ⟨q21, h86, h⟩ := bO_inv h; obtain ⟨⟨h87a, h87b⟩, h87c⟩ := geti_E EIIIIIl h86; (try simp only [EV, seval] at h87c); obtain ⟨x35, h88, h⟩ := bO_inv h; simp only [EV, seval, h83a, h83b, h83c, h87a, h87b, h87c]; refine rC_p (s_AddDOmega_ok h88) (by simp only [AL, EV, seval, h83a, h83b, h83c, h87a, h87b, h87c]) (le_d rfl) (no_j rfl) ?_; simp only [EV, seval, h83a, h83b, h83c, h87a, h87b, h87c]; refine hK _ _ _ ?_; clear hK K; refine AW_seq ?_; refine AJ (fun S => ∃ (v29 : Bool), S = ⟨mkT [(1, .sl (encL EIIIII a5) a5.length), (2, .ptr 32 0), (6, .own 33 v28.length), (7, .int .i64 v21), (8, .own 34 x27.length), (9, .int .i64 v27), (12, .ptr 35 0), (80, .bool v29)], mkR [(32, .box 88 [.int .i64 a1, .int .i64 a2, .int .i64 a3, .int .i64 a4]), (33, .row 77 5 (encL EIIIII v28)), (34, .row 215 6 (encL EIIIIII x27)), (35, .box 77 [.int .i64 x35.1, .int .i64 x35.2.1, .int .i64 x35.2.2.1, .int .i64 x35.2.2.2.1, .int .i64 x35.2.2.2.2.1])], 64⟩ ∧ s_ApplyGate_j14 v27 v28 (s_ApplyGate_l4 v21 (s_ApplyGate_l1 a1 a2 a3 a4 a5 n3) q15 x27 n4) q20 x35 v29 = some r) hN ?_ ?_
          ·intro K hK; obtain ⟨x36, hv10, h⟩ := bO_inv h; rcases br_inv hv10 with ⟨hc34, hv10⟩ | ⟨hc34, hv10⟩
           ·cases hv10; simp only [EV, seval, hc34]; refine hK _ _ _ (show cutK _ _ _ from cutL ⟨_, rfl, h⟩ (Le_can [(32, some 32), (33, some 33), (34, some 34), (35, some 2320)] [] hρ (by kernel_rfl) ?_ ?_))
            ·simp only [AL, EV, seval, hc34]
            ·simp only [AL, EV, seval, hc34]
           ·cases hv10; simp only [EV, seval, hc34]; refine hK _ _ _ (show cutK _ _ _ from cutL ⟨_, rfl, h⟩ (Le_can [(32, some 32), (33, some 33), (34, some 34), (35, some 2320)] [] hρ (by kernel_rfl) ?_ ?_))
            ·simp only [AL, EV, seval, hc34]
            ·simp only [AL, EV, seval, hc34]
          ·rintro S ⟨v29, rfl, h⟩; unfold s_ApplyGate_j14 at h; refine AW_condK (a := .bool v29) (by simp only [EV, seval, h83a, h83b, h83c, h87a, h87b, h87c]) (brK h (fun hc35 h => ?_) (fun hc35 h => ?_))
           ·refine AN hN ?_; injection h with h; subst h; exact AX (b' := 64) [(4, .own 32 0), (5, .bool false)] [(32, .row 77 5 (encL EIIIII ([])))] [(32, some 64)] [] hρ (EQ [32])
           ·refine AW_skip (AK ?_); refine AS hN fun K hK => ?_; have h89 := set_E EIIIIIl ((x35.1, x35.2.1, x35.2.2.1, x35.2.2.2.1, x35.2.2.2.2.1)) 0 [.int .i64 x35.1, .int .i64 x35.2.1, .int .i64 x35.2.2.1, .int .i64 x35.2.2.2.1, .int .i64 x35.2.2.2.2.1] h86 (Nat.le_of_ble_eq_true rfl) rfl; obtain ⟨h89a, h89b⟩ := h89; (try simp only [EV, seval] at h89a); (try simp only [EV, seval] at h89b); simp only [EV, seval, h83a, h83b, h83c, h87a, h87b, h87c, h89a, h89b]; refine hK _ _ _ (show AW _ _ _ _ _ from ?_); refine AS hN fun K hK => ?_; simp only [EV, seval]; exact hK _ _ _ (AC ⟨_, _, rfl, h⟩ [(32, some 32), (33, some 33), (34, some 34)] [] hρ)
         ·exact AW_exit (AC ⟨_, rfl, h⟩ [(32, some 32), (33, some 33)] [] hρ)
      ·rintro S ⟨v30, rfl, h⟩; unfold s_ApplyGate_j11 at h; refine AS hN fun K hK => ?_; simp only [EV, seval]; exact hK _ _ _ (AC ⟨_, _, rfl, h⟩ [(32, some 32), (33, some 33)] [] hρ)
     ·exact AW_exit (AC ⟨_, rfl, h⟩ [(32, some 33)] [] hρ)
   ·rintro S ⟨v31, rfl, h⟩; unfold s_ApplyGate_j2 at h; refine AN hN ?_; injection h with h; subst h; exact AX (b' := 64) [(4, .own 32 v31.length), (5, .bool true)] [(32, .row 77 5 (encL EIIIII v31))] [(32, some 32)] [] hρ (EQ [32])
/- spec.OneDOmega -/
def s_OneDOmega : Option (Int × Int × Int × Int × Int) :=
  some (1, 0, 0, 0, 0)
theorem s_OneDOmega_ok {r : Int × Int × Int × Int × Int} (h : s_OneDOmega = some r) :
    Spec Try.prog 119 [] [] (.agg [.int .i64 r.1, .int .i64 r.2.1, .int .i64 r.2.2.1, .int .i64 r.2.2.2.1, .int .i64 r.2.2.2.2]) [] := by
 unfold s_OneDOmega at h; refine SO Try.func119 rfl Try.ntmps119 fun C hN hρ => ?_; simp only [st0, tmps0, Nat.zero_add, Nat.reduceAdd]; refine AN hN ?_; refine AN hN ?_; injection h with h; subst h; exact AX (b' := 64) [(0, .ptr 32 0)] [(32, .box 77 [.int .i64 1, .int .i64 0, .int .i64 0, .int .i64 0, .int .i64 0])] [(32, some 64)] [] hρ (EQ [])
/- spec.BasisState -/
def s_BasisState_j1 (a1 a2 : Int) (v1 : Bool) : Option (LF) :=
  br v1 (some ([])) (gd (decide (¬ (IntKind.wrap .u64 a1) < 0)) (gd (decide (0 ≤ IntKind.wrap .i64 (1 * 2 ^ min (Int.toNat (IntKind.wrap .u64 a1)) (IntKind.bits .i64)) ∧ IntKind.wrap .i64 (1 * 2 ^ min (Int.toNat (IntKind.wrap .u64 a1)) (IntKind.bits .i64)) ≤ 1048576)) (bO (s_OneDOmega) fun x5 => bO (geti (List.replicate (Int.toNat (IntKind.wrap .i64 (1 * 2 ^ min (Int.toNat (IntKind.wrap .u64 a1)) (IntKind.bits .i64)))) ((0, 0, 0, 0, 0) : Int × Int × Int × Int × Int)) a2) fun q1 => some ((List.replicate (Int.toNat (IntKind.wrap .i64 (1 * 2 ^ min (Int.toNat (IntKind.wrap .u64 a1)) (IntKind.bits .i64)))) ((0, 0, 0, 0, 0) : Int × Int × Int × Int × Int)).set (Int.toNat a2) ((x5.1, x5.2.1, x5.2.2.1, x5.2.2.2.1, x5.2.2.2.2))))))
def s_BasisState (a1 a2 : Int) : Option (LF) :=
  bO (s_l1In a1 1 4) fun x1 => bO (br (!x1) (some true) (gd (decide (¬ (IntKind.wrap .u64 a1) < 0)) (bO (s_l1In a2 0 (IntKind.wrap .i64 ((IntKind.wrap .i64 (1 * 2 ^ min (Int.toNat (IntKind.wrap .u64 a1)) (IntKind.bits .i64))) - 1))) fun x2 => some (!x2)))) fun x3 => s_BasisState_j1 a1 a2 x3
theorem s_BasisState_ok {a1 a2 : Int} {r : LF} (h : s_BasisState a1 a2 = some r) :
    Spec Try.prog 114 [.int .i64 a1, .int .i64 a2] [] (.own 0 r.length) [.row 77 5 (encL EIIIII r)] := by
 unfold s_BasisState at h; refine SO Try.func114 rfl Try.ntmps114 fun C hN hρ => ?_; simp only [st0, tmps0, Nat.zero_add, Nat.reduceAdd]; refine AN hN ?_; refine AW_seq ?_; refine AJ (fun S => ∃ (v1 : Bool), S = ⟨mkT [(0, .int .i64 a1), (1, .int .i64 a2), (17, .bool v1)], mkR [], 64⟩ ∧ s_BasisState_j1 a1 a2 v1 = some r) hN ?_ ?_
 ·intro K hK; obtain ⟨x1, h1, h⟩ := bO_inv h; simp only [EV, seval]; refine CP (s_l1In_ok h1) ?_; obtain ⟨x3, hv1, h⟩ := bO_inv h; rcases br_inv hv1 with ⟨hc1, hv1⟩ | ⟨hc1, hv1⟩
  ·cases hv1; simp only [EV, seval, hc1]; refine hK _ _ _ (show cutK _ _ _ from cutL ⟨_, rfl, h⟩ (Le_can [] [] hρ (by kernel_rfl) ?_ ?_))
   ·simp only [AL, EV, seval, hc1]
   ·simp only [AL, EV, seval, hc1]
  ·obtain ⟨h4, hv1⟩ := gd_inv hv1; replace h4 := of_decide_eq_true h4; obtain ⟨x4, h5, hv1⟩ := bO_inv hv1; simp only [EV, seval, hc1, h4]; refine rC_p (s_l1In_ok h5) (by simp only [AL, EV, seval, hc1, h4]) (le_d rfl) (no_j rfl) ?_; cases hv1; simp only [EV, seval, hc1, h4]; refine hK _ _ _ (show cutK _ _ _ from cutL ⟨_, rfl, h⟩ (Le_can [] [] hρ (by kernel_rfl) ?_ ?_))
   ·simp only [AL, EV, seval, hc1, h4]
   ·simp only [AL, EV, seval, hc1, h4]
 ·rintro S ⟨v1, rfl, h⟩; unfold s_BasisState_j1 at h; refine AB h (fun hc2 h => ?_) fun hc2 h => ?_
  ·refine AN hN ?_; injection h with h; subst h; exact AX (b' := 64) [(4, .own 32 0)] [(32, .row 77 5 (encL EIIIII ([])))] [(32, some 64)] [] hρ (EQ [32])
  ·refine AW_skip (AK ?_); refine AR hN fun K hK => ?_; obtain ⟨h6, h⟩ := gd_inv h; replace h6 := of_decide_eq_true h6; obtain ⟨h7, h⟩ := gd_inv h; replace h7 := of_decide_eq_true h7; have h8 := zrow_enc (e := EIIIII) ((0, 0, 0, 0, 0)) (Int.toNat (IntKind.wrap .i64 (1 * 2 ^ min (Int.toNat (IntKind.wrap .u64 a1)) (IntKind.bits .i64)))); simp only [EN] at h8; have h9 : (List.replicate (Int.toNat (IntKind.wrap .i64 (1 * 2 ^ min (Int.toNat (IntKind.wrap .u64 a1)) (IntKind.bits .i64)))) ((0, 0, 0, 0, 0) : Int × Int × Int × Int × Int)).length = Int.toNat (IntKind.wrap .i64 (1 * 2 ^ min (Int.toNat (IntKind.wrap .u64 a1)) (IntKind.bits .i64))) := List.length_replicate; simp only [EV, seval, h6, h7, h8, h9]; refine hK _ _ _ ?_; clear hK K; refine AR hN fun K hK => ?_; obtain ⟨x5, h10, h⟩ := bO_inv h; simp only [EV, seval]; refine CP (s_OneDOmega_ok h10) ?_; obtain ⟨q1, h11, h⟩ := bO_inv h; obtain ⟨⟨h12a, h12b⟩, h12c⟩ := geti_E EIIIIIl h11; (try simp only [EV, seval] at h12c); (try simp only [EV, seval] at h12b); have h13 := set_E EIIIIIl ((x5.1, x5.2.1, x5.2.2.1, x5.2.2.2.1, x5.2.2.2.2)) 0 [.int .i64 x5.1, .int .i64 x5.2.1, .int .i64 x5.2.2.1, .int .i64 x5.2.2.2.1, .int .i64 x5.2.2.2.2] h11 (Nat.le_of_ble_eq_true rfl) rfl; obtain ⟨h13a, h13b⟩ := h13; (try simp only [EV, seval] at h13a); (try simp only [EV, seval] at h13b); simp only [EV, seval, h12a, h12b, h12c, h13a, h13b]; refine hK _ _ _ ?_; clear hK K; refine AN hN ?_; injection h with h; subst h; exact AX (b' := 64) [(4, .own 32 ((List.replicate (Int.toNat (IntKind.wrap .i64 (1 * 2 ^ min (Int.toNat (IntKind.wrap .u64 a1)) (IntKind.bits .i64)))) ((0, 0, 0, 0, 0) : Int × Int × Int × Int × Int)).set (Int.toNat a2) ((x5.1, x5.2.1, x5.2.2.1, x5.2.2.2.1, x5.2.2.2.2))).length)] [(32, .row 77 5 (encL EIIIII ((List.replicate (Int.toNat (IntKind.wrap .i64 (1 * 2 ^ min (Int.toNat (IntKind.wrap .u64 a1)) (IntKind.bits .i64)))) ((0, 0, 0, 0, 0) : Int × Int × Int × Int × Int)).set (Int.toNat a2) ((x5.1, x5.2.1, x5.2.2.1, x5.2.2.2.1, x5.2.2.2.2)))))] [(32, some 112)] [] hρ (EQ [32])
end Go.Proofs.Ytflfodcgoffjkaa
