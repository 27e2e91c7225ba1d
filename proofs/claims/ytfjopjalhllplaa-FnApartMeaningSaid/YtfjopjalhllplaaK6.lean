/- Joined texts: Mza Mzb Map. -/
import Derived.Test.YtfjopjalhllplaaK1
import Derived.Test.YtfjopjalhllplaaKMa
import Derived.Test.YtfjopjalhllplaaKMk
import Derived.Test.YtfjopjalhllplaaKMf
/- Models of functions, and that the functions do what the models say; printed by a program. -/
namespace Go.Proofs.Ytfjopjalhllplaa
open Go.RowKit
set_option maxRecDepth 100000
set_option linter.unusedVariables false
set_option linter.unusedSimpArgs false
set_option linter.defProp false
set_option maxHeartbeats 4000000
/- impl.IsValidZOmega -/
def i_IsValidZOmega_j1 (v1 : Bool) : Option Bool :=
  some v1
def i_IsValidZOmega (a1 a2 a3 a4 : Int) : Option Bool :=
  bO (i_in a1 (-1073741824) 1073741824) fun x1 => bO (br x1 (bO (i_in a2 (-1073741824) 1073741824) fun x2 => some x2) (some false)) fun x3 => bO (br x3 (bO (i_in a3 (-1073741824) 1073741824) fun x4 => some x4) (some false)) fun x5 => bO (br x5 (bO (i_in a4 (-1073741824) 1073741824) fun x6 => some x6) (some false)) fun x7 => i_IsValidZOmega_j1 x7
theorem i_IsValidZOmega_ok {a1 a2 a3 a4 : Int} {r : Bool} (h : i_IsValidZOmega a1 a2 a3 a4 = some r) :
    Spec Try.prog 49 [.agg [.int .i64 a1, .int .i64 a2, .int .i64 a3, .int .i64 a4]] [] (.bool r) [] := by
 unfold i_IsValidZOmega at h; refine SO Try.func49 rfl Try.ntmps49 fun C hN hρ => ?_; simp only [st0, tmps0, Nat.zero_add, Nat.reduceAdd]; refine AN hN ?_; refine AJ (fun S => ∃ (v1 : Bool), S = ⟨mkT [(2, .bool v1)], mkR [], 64⟩ ∧ i_IsValidZOmega_j1 v1 = some r) hN ?_ ?_
 ·intro K hK; obtain ⟨x1, h1, h⟩ := bO_inv h; simp only [EV, seval]; refine CP (i_in_ok h1) ?_; obtain ⟨x3, hv1, h⟩ := bO_inv h; rcases br_inv hv1 with ⟨hc1, hv1⟩ | ⟨hc1, hv1⟩
  ·obtain ⟨x8, h5, hv1⟩ := bO_inv hv1; simp only [EV, seval, hc1]; refine rC_p (i_in_ok h5) (by simp only [AL, EV, seval, hc1]) (le_d rfl) (no_j rfl) ?_; cases hv1; obtain ⟨x10, hv4, h⟩ := bO_inv h; rcases br_inv hv4 with ⟨hc4, hv4⟩ | ⟨hc4, hv4⟩
   ·obtain ⟨x13, h8, hv4⟩ := bO_inv hv4; simp only [EV, seval, hc1, hc4]; refine rC_p (i_in_ok h8) (by simp only [AL, EV, seval, hc1, hc4]) (le_d rfl) (no_j rfl) ?_; cases hv4; obtain ⟨x15, hv6, h⟩ := bO_inv h; rcases br_inv hv6 with ⟨hc6, hv6⟩ | ⟨hc6, hv6⟩
    ·obtain ⟨x16, h10, hv6⟩ := bO_inv hv6; simp only [EV, seval, hc1, hc4, hc6]; refine rC_p (i_in_ok h10) (by simp only [AL, EV, seval, hc1, hc4, hc6]) (le_d rfl) (no_j rfl) ?_; cases hv6; simp only [EV, seval, hc1, hc4, hc6]; refine hK _ _ _ (show cutK _ _ _ from cutL ⟨_, rfl, h⟩ (Le_can [] [] hρ (by kernel_rfl) ?_ ?_))
     ·simp only [AL, EV, seval, hc1, hc4, hc6]
     ·simp only [AL, EV, seval, hc1, hc4, hc6]
    ·cases hv6; simp only [EV, seval, hc1, hc4, hc6]; refine hK _ _ _ (show cutK _ _ _ from cutL ⟨_, rfl, h⟩ (Le_can [] [] hρ (by kernel_rfl) ?_ ?_))
     ·simp only [AL, EV, seval, hc1, hc4, hc6]
     ·simp only [AL, EV, seval, hc1, hc4, hc6]
   ·cases hv4; obtain ⟨x17, hv7, h⟩ := bO_inv h; replace hv7 := br_f hv7; cases hv7; (try dsimp only at h); simp only [EV, seval, hc1, hc4]; refine hK _ _ _ (show cutK _ _ _ from cutL ⟨_, rfl, h⟩ (Le_can [] [] hρ (by kernel_rfl) ?_ ?_))
    ·simp only [AL, EV, seval, hc1, hc4]
    ·simp only [AL, EV, seval, hc1, hc4]
  ·cases hv1; obtain ⟨x18, hv8, h⟩ := bO_inv h; replace hv8 := br_f hv8; cases hv8; (try dsimp only at h); obtain ⟨x19, hv9, h⟩ := bO_inv h; replace hv9 := br_f hv9; cases hv9; (try dsimp only at h); simp only [EV, seval, hc1]; refine hK _ _ _ (show cutK _ _ _ from cutL ⟨_, rfl, h⟩ (Le_can [] [] hρ (by kernel_rfl) ?_ ?_))
   ·simp only [AL, EV, seval, hc1]
   ·simp only [AL, EV, seval, hc1]
 ·rintro S ⟨v1, rfl, h⟩; unfold i_IsValidZOmega_j1 at h; injection h with h; subst h; exact AX (b' := 64) [(2, .bool v1)] [] [] [] hρ (EQ [])
/- spec.l2Near -/
def s_l2Near (a1 : Int) : Option Bool :=
  bO (s_l1In a1 (-1073741824) 1073741824) fun x1 => some x1
theorem s_l2Near_ok {a1 : Int} {r : Bool} (h : s_l2Near a1 = some r) :
    Spec Try.prog 57 [.int .i64 a1] [] (.bool r) [] := by
 unfold s_l2Near at h; refine SO Try.func57 rfl Try.ntmps57 fun C hN hρ => ?_; simp only [st0, tmps0, Nat.zero_add, Nat.reduceAdd]; refine AN hN ?_; obtain ⟨x1, h1, h⟩ := bO_inv h; refine AP hN (s_l1In_ok h1) ?_; injection h with h; subst h; exact AX (b' := 64) [(2, .bool x1)] [] [] [] hρ (EQ [])
/- spec.IsValidZOmega -/
def s_IsValidZOmega_j1 (v1 : Bool) : Option Bool :=
  some v1
def s_IsValidZOmega (a1 a2 a3 a4 : Int) : Option Bool :=
  bO (s_l2Near a1) fun x1 => bO (br x1 (bO (s_l2Near a2) fun x2 => some x2) (some false)) fun x3 => bO (br x3 (bO (s_l2Near a3) fun x4 => some x4) (some false)) fun x5 => bO (br x5 (bO (s_l2Near a4) fun x6 => some x6) (some false)) fun x7 => s_IsValidZOmega_j1 x7
theorem s_IsValidZOmega_ok {a1 a2 a3 a4 : Int} {r : Bool} (h : s_IsValidZOmega a1 a2 a3 a4 = some r) :
    Spec Try.prog 44 [.agg [.int .i64 a1, .int .i64 a2, .int .i64 a3, .int .i64 a4]] [] (.bool r) [] := by
 unfold s_IsValidZOmega at h; refine SO Try.func44 rfl Try.ntmps44 fun C hN hρ => ?_; simp only [st0, tmps0, Nat.zero_add, Nat.reduceAdd]; refine AN hN ?_; refine AJ (fun S => ∃ (v1 : Bool), S = ⟨mkT [(2, .bool v1)], mkR [], 64⟩ ∧ s_IsValidZOmega_j1 v1 = some r) hN ?_ ?_
 ·intro K hK; obtain ⟨x1, h1, h⟩ := bO_inv h; simp only [EV, seval]; refine CP (s_l2Near_ok h1) ?_; obtain ⟨x3, hv1, h⟩ := bO_inv h; rcases br_inv hv1 with ⟨hc1, hv1⟩ | ⟨hc1, hv1⟩
  ·obtain ⟨x8, h5, hv1⟩ := bO_inv hv1; simp only [EV, seval, hc1]; refine rC_p (s_l2Near_ok h5) (by simp only [AL, EV, seval, hc1]) (le_d rfl) (no_j rfl) ?_; cases hv1; obtain ⟨x10, hv4, h⟩ := bO_inv h; rcases br_inv hv4 with ⟨hc4, hv4⟩ | ⟨hc4, hv4⟩
   ·obtain ⟨x13, h8, hv4⟩ := bO_inv hv4; simp only [EV, seval, hc1, hc4]; refine rC_p (s_l2Near_ok h8) (by simp only [AL, EV, seval, hc1, hc4]) (le_d rfl) (no_j rfl) ?_; cases hv4; obtain ⟨x15, hv6, h⟩ := bO_inv h; rcases br_inv hv6 with ⟨hc6, hv6⟩ | ⟨hc6, hv6⟩
    ·obtain ⟨x16, h10, hv6⟩ := bO_inv hv6; simp only [EV, seval, hc1, hc4, hc6]; refine rC_p (s_l2Near_ok h10) (by simp only [AL, EV, seval, hc1, hc4, hc6]) (le_d rfl) (no_j rfl) ?_; cases hv6; simp only [EV, seval, hc1, hc4, hc6]; refine hK _ _ _ (show cutK _ _ _ from cutL ⟨_, rfl, h⟩ (Le_can [] [] hρ (by kernel_rfl) ?_ ?_))
     ·simp only [AL, EV, seval, hc1, hc4, hc6]
     ·simp only [AL, EV, seval, hc1, hc4, hc6]
    ·cases hv6; simp only [EV, seval, hc1, hc4, hc6]; refine hK _ _ _ (show cutK _ _ _ from cutL ⟨_, rfl, h⟩ (Le_can [] [] hρ (by kernel_rfl) ?_ ?_))
     ·simp only [AL, EV, seval, hc1, hc4, hc6]
     ·simp only [AL, EV, seval, hc1, hc4, hc6]
   ·cases hv4; obtain ⟨x17, hv7, h⟩ := bO_inv h; replace hv7 := br_f hv7; cases hv7; (try dsimp only at h); simp only [EV, seval, hc1, hc4]; refine hK _ _ _ (show cutK _ _ _ from cutL ⟨_, rfl, h⟩ (Le_can [] [] hρ (by kernel_rfl) ?_ ?_))
    ·simp only [AL, EV, seval, hc1, hc4]
    ·simp only [AL, EV, seval, hc1, hc4]
  ·cases hv1; obtain ⟨x18, hv8, h⟩ := bO_inv h; replace hv8 := br_f hv8; cases hv8; (try dsimp only at h); obtain ⟨x19, hv9, h⟩ := bO_inv h; replace hv9 := br_f hv9; cases hv9; (try dsimp only at h); simp only [EV, seval, hc1]; refine hK _ _ _ (show cutK _ _ _ from cutL ⟨_, rfl, h⟩ (Le_can [] [] hρ (by kernel_rfl) ?_ ?_))
   ·simp only [AL, EV, seval, hc1]
   ·simp only [AL, EV, seval, hc1]
 ·rintro S ⟨v1, rfl, h⟩; unfold s_IsValidZOmega_j1 at h; injection h with h; subst h; exact AX (b' := 64) [(2, .bool v1)] [] [] [] hρ (EQ [])
/- impl.DivSqrt2 -/
def i_DivSqrt2_j1 (v1 : Bool) (v2 v3 v4 v5 : Int) : Option (Int × Int × Int × Int × Bool) :=
  br v1 (some (0, 0, 0, 0, false)) (some (IntKind.wrap .i64 (Int.tdiv v2 2), IntKind.wrap .i64 (Int.tdiv v3 2), IntKind.wrap .i64 (Int.tdiv v4 2), IntKind.wrap .i64 (Int.tdiv v5 2), true))
def i_DivSqrt2 (a1 a2 a3 a4 : Int) : Option (Int × Int × Int × Int × Bool) :=
  bO (i_IsValidZOmega a1 a2 a3 a4) fun x1 => bO (br (!x1) (some true) (some ((Int.tmod (IntKind.wrap .i64 (a2 - a4)) 2) != 0))) fun x2 => bO (br x2 (some true) (some ((Int.tmod (IntKind.wrap .i64 (a1 + a3)) 2) != 0))) fun x3 => bO (br x3 (some true) (some ((Int.tmod (IntKind.wrap .i64 (a2 + a4)) 2) != 0))) fun x4 => bO (br x4 (some true) (some ((Int.tmod (IntKind.wrap .i64 (a3 - a1)) 2) != 0))) fun x5 => i_DivSqrt2_j1 x5 (IntKind.wrap .i64 (a2 - a4)) (IntKind.wrap .i64 (a1 + a3)) (IntKind.wrap .i64 (a2 + a4)) (IntKind.wrap .i64 (a3 - a1))
theorem i_DivSqrt2_ok {a1 a2 a3 a4 : Int} {r : Int × Int × Int × Int × Bool} (h : i_DivSqrt2 a1 a2 a3 a4 = some r) :
    Spec Try.prog 48 [.agg [.int .i64 a1, .int .i64 a2, .int .i64 a3, .int .i64 a4]] [] (.tup [.agg [.int .i64 r.1, .int .i64 r.2.1, .int .i64 r.2.2.1, .int .i64 r.2.2.2.1], .bool r.2.2.2.2]) [] := by
 unfold i_DivSqrt2 at h; refine SO Try.func48 rfl Try.ntmps48 fun C hN hρ => ?_; simp only [st0, tmps0, Nat.zero_add, Nat.reduceAdd]; refine AN hN ?_; refine AN hN ?_; refine AW_seq ?_; refine AJ (fun S => ∃ (v1 : Bool) (v2 v3 v4 v5 : Int), S = ⟨mkT [(2, .ptr 32 0), (4, .ptr 33 0), (52, .bool v1)], mkR [(32, .box 43 [.int .i64 0, .int .i64 0, .int .i64 0, .int .i64 0]), (33, .box 43 [.int .i64 v2, .int .i64 v3, .int .i64 v4, .int .i64 v5])], 64⟩ ∧ i_DivSqrt2_j1 v1 v2 v3 v4 v5 = some r) hN ?_ ?_
 ·intro K hK; obtain ⟨x1, h1, h⟩ := bO_inv h; simp only [EV, seval]; refine CP (i_IsValidZOmega_ok h1) ?_; obtain ⟨x2, hv1, h⟩ := bO_inv h; rcases br_inv hv1 with ⟨hc1, hv1⟩ | ⟨hc1, hv1⟩
  ·cases hv1; obtain ⟨x6, hv5, h⟩ := bO_inv h; replace hv5 := br_t hv5; cases hv5; (try dsimp only at h); obtain ⟨x7, hv6, h⟩ := bO_inv h; replace hv6 := br_t hv6; cases hv6; (try dsimp only at h); obtain ⟨x8, hv7, h⟩ := bO_inv h; replace hv7 := br_t hv7; cases hv7; (try dsimp only at h); simp only [EV, seval, hc1]; refine hK _ _ _ (show cutK _ _ _ from cutL ⟨_, _, _, _, _, rfl, h⟩ (Le_can [(32, some 80), (33, some 1424)] [] hρ (by kernel_rfl) ?_ ?_))
   ·simp only [AL, EV, seval, hc1]
   ·simp only [AL, EV, seval, hc1]
  ·cases hv1; obtain ⟨x9, hv8, h⟩ := bO_inv h; rcases br_inv hv8 with ⟨hc5, hv8⟩ | ⟨hc5, hv8⟩
   ·cases hv8; obtain ⟨x12, hv11, h⟩ := bO_inv h; replace hv11 := br_t hv11; cases hv11; (try dsimp only at h); obtain ⟨x13, hv12, h⟩ := bO_inv h; replace hv12 := br_t hv12; cases hv12; (try dsimp only at h); simp only [EV, seval, hc1, hc5]; refine hK _ _ _ (show cutK _ _ _ from cutL ⟨_, _, _, _, _, rfl, h⟩ (Le_can [(32, some 80), (33, some 1424)] [] hρ (by kernel_rfl) ?_ ?_))
    ·simp only [AL, EV, seval, hc1, hc5]
    ·simp only [AL, EV, seval, hc1, hc5]
   ·cases hv8; obtain ⟨x14, hv13, h⟩ := bO_inv h; rcases br_inv hv13 with ⟨hc8, hv13⟩ | ⟨hc8, hv13⟩
    ·cases hv13; obtain ⟨x16, hv15, h⟩ := bO_inv h; replace hv15 := br_t hv15; cases hv15; (try dsimp only at h); simp only [EV, seval, hc1, hc5, hc8]; refine hK _ _ _ (show cutK _ _ _ from cutL ⟨_, _, _, _, _, rfl, h⟩ (Le_can [(32, some 80), (33, some 1424)] [] hρ (by kernel_rfl) ?_ ?_))
     ·simp only [AL, EV, seval, hc1, hc5, hc8]
     ·simp only [AL, EV, seval, hc1, hc5, hc8]
    ·cases hv13; obtain ⟨x17, hv16, h⟩ := bO_inv h; rcases br_inv hv16 with ⟨hc10, hv16⟩ | ⟨hc10, hv16⟩
     ·cases hv16; simp only [EV, seval, hc1, hc5, hc8, hc10]; refine hK _ _ _ (show cutK _ _ _ from cutL ⟨_, _, _, _, _, rfl, h⟩ (Le_can [(32, some 80), (33, some 1424)] [] hρ (by kernel_rfl) ?_ ?_))
      ·simp only [AL, EV, seval, hc1, hc5, hc8, hc10]
      ·simp only [AL, EV, seval, hc1, hc5, hc8, hc10]
     ·cases hv16; simp only [EV, seval, hc1, hc5, hc8, hc10]; refine hK _ _ _ (show cutK _ _ _ from cutL ⟨_, _, _, _, _, rfl, h⟩ (Le_can [(32, some 80), (33, some 1424)] [] hρ (by kernel_rfl) ?_ ?_))
      ·simp only [AL, EV, seval, hc1, hc5, hc8, hc10]
      ·simp only [AL, EV, seval, hc1, hc5, hc8, hc10]
 ·rintro S ⟨v1, v2, v3, v4, v5, rfl, h⟩; unfold i_DivSqrt2_j1 at h; refine AB h (fun hc11 h => ?_) fun hc11 h => ?_
  ·refine AN hN ?_; injection h with h; subst h; exact AX (b' := 64) [(2, .ptr 32 0), (3, .bool false)] [(32, .box 43 [.int .i64 0, .int .i64 0, .int .i64 0, .int .i64 0])] [(32, some 32)] [] hρ (EQ [])
  ·refine AW_skip (AK ?_); refine AN hN ?_; injection h with h; subst h; exact AX (b' := 64) [(2, .ptr 32 0), (3, .bool true)] [(32, .box 43 [.int .i64 (IntKind.wrap .i64 (Int.tdiv v2 2)), .int .i64 (IntKind.wrap .i64 (Int.tdiv v3 2)), .int .i64 (IntKind.wrap .i64 (Int.tdiv v4 2)), .int .i64 (IntKind.wrap .i64 (Int.tdiv v5 2))])] [(32, some 32)] [] hρ (EQ [])
/- spec.DivSqrt2 -/
def s_DivSqrt2_j1 (v1 : Bool) (v2 v3 v4 v5 : Int) : Option (Int × Int × Int × Int × Bool) :=
  br v1 (some (0, 0, 0, 0, false)) (some (IntKind.wrap .i64 (Int.tdiv v2 2), IntKind.wrap .i64 (Int.tdiv v3 2), IntKind.wrap .i64 (Int.tdiv v4 2), IntKind.wrap .i64 (Int.tdiv v5 2), true))
def s_DivSqrt2 (a1 a2 a3 a4 : Int) : Option (Int × Int × Int × Int × Bool) :=
  bO (s_IsValidZOmega a1 a2 a3 a4) fun x1 => br (!x1) (some (0, 0, 0, 0, false)) (bO (br ((Int.tmod (IntKind.wrap .i64 (a2 - a4)) 2) != 0) (some true) (some ((Int.tmod (IntKind.wrap .i64 (a1 + a3)) 2) != 0))) fun x2 => bO (br x2 (some true) (some ((Int.tmod (IntKind.wrap .i64 (a2 + a4)) 2) != 0))) fun x3 => bO (br x3 (some true) (some ((Int.tmod (IntKind.wrap .i64 (a3 - a1)) 2) != 0))) fun x4 => s_DivSqrt2_j1 x4 (IntKind.wrap .i64 (a2 - a4)) (IntKind.wrap .i64 (a1 + a3)) (IntKind.wrap .i64 (a2 + a4)) (IntKind.wrap .i64 (a3 - a1)))
theorem s_DivSqrt2_ok {a1 a2 a3 a4 : Int} {r : Int × Int × Int × Int × Bool} (h : s_DivSqrt2 a1 a2 a3 a4 = some r) :
    Spec Try.prog 46 [.agg [.int .i64 a1, .int .i64 a2, .int .i64 a3, .int .i64 a4]] [] (.tup [.agg [.int .i64 r.1, .int .i64 r.2.1, .int .i64 r.2.2.1, .int .i64 r.2.2.2.1], .bool r.2.2.2.2]) [] := by
 unfold s_DivSqrt2 at h; refine SO Try.func46 rfl Try.ntmps46 fun C hN hρ => ?_; simp only [st0, tmps0, Nat.zero_add, Nat.reduceAdd]; refine AN hN ?_; refine AW_seq ?_; obtain ⟨x1, h1, h⟩ := bO_inv h; refine AP hN (s_IsValidZOmega_ok h1) ?_; refine AB h (fun hc1 h => ?_) fun hc1 h => ?_
 ·refine AN hN ?_; injection h with h; subst h; exact AX (b' := 64) [(2, .ptr 32 0), (3, .bool false)] [(32, .box 43 [.int .i64 0, .int .i64 0, .int .i64 0, .int .i64 0])] [(32, some 80)] [] hρ (EQ [])
 ·refine AW_skip (AK ?_); refine AN hN ?_; refine AW_seq ?_; refine AJ (fun S => ∃ (v1 : Bool) (v2 v3 v4 v5 : Int), S = ⟨mkT [(2, .ptr 32 0), (4, .ptr 33 0), (51, .bool v1)], mkR [(32, .box 43 [.int .i64 0, .int .i64 0, .int .i64 0, .int .i64 0]), (33, .box 43 [.int .i64 v2, .int .i64 v3, .int .i64 v4, .int .i64 v5])], 64⟩ ∧ s_DivSqrt2_j1 v1 v2 v3 v4 v5 = some r) hN ?_ ?_
  ·intro K hK; obtain ⟨x2, hv1, h⟩ := bO_inv h; rcases br_inv hv1 with ⟨hc2, hv1⟩ | ⟨hc2, hv1⟩
   ·cases hv1; obtain ⟨x5, hv4, h⟩ := bO_inv h; replace hv4 := br_t hv4; cases hv4; (try dsimp only at h); obtain ⟨x6, hv5, h⟩ := bO_inv h; replace hv5 := br_t hv5; cases hv5; (try dsimp only at h); simp only [EV, seval, hc2]; refine hK _ _ _ (show cutK _ _ _ from cutL ⟨_, _, _, _, _, rfl, h⟩ (Le_can [(32, some 80), (33, some 2448)] [] hρ (by kernel_rfl) ?_ ?_))
    ·simp only [AL, EV, seval, hc2]
    ·simp only [AL, EV, seval, hc2]
   ·cases hv1; obtain ⟨x7, hv6, h⟩ := bO_inv h; rcases br_inv hv6 with ⟨hc5, hv6⟩ | ⟨hc5, hv6⟩
    ·cases hv6; obtain ⟨x9, hv8, h⟩ := bO_inv h; replace hv8 := br_t hv8; cases hv8; (try dsimp only at h); simp only [EV, seval, hc2, hc5]; refine hK _ _ _ (show cutK _ _ _ from cutL ⟨_, _, _, _, _, rfl, h⟩ (Le_can [(32, some 80), (33, some 2448)] [] hρ (by kernel_rfl) ?_ ?_))
     ·simp only [AL, EV, seval, hc2, hc5]
     ·simp only [AL, EV, seval, hc2, hc5]
    ·cases hv6; obtain ⟨x10, hv9, h⟩ := bO_inv h; rcases br_inv hv9 with ⟨hc7, hv9⟩ | ⟨hc7, hv9⟩
     ·cases hv9; simp only [EV, seval, hc2, hc5, hc7]; refine hK _ _ _ (show cutK _ _ _ from cutL ⟨_, _, _, _, _, rfl, h⟩ (Le_can [(32, some 80), (33, some 2448)] [] hρ (by kernel_rfl) ?_ ?_))
      ·simp only [AL, EV, seval, hc2, hc5, hc7]
      ·simp only [AL, EV, seval, hc2, hc5, hc7]
     ·cases hv9; simp only [EV, seval, hc2, hc5, hc7]; refine hK _ _ _ (show cutK _ _ _ from cutL ⟨_, _, _, _, _, rfl, h⟩ (Le_can [(32, some 80), (33, some 2448)] [] hρ (by kernel_rfl) ?_ ?_))
      ·simp only [AL, EV, seval, hc2, hc5, hc7]
      ·simp only [AL, EV, seval, hc2, hc5, hc7]
  ·rintro S ⟨v1, v2, v3, v4, v5, rfl, h⟩; unfold s_DivSqrt2_j1 at h; refine AB h (fun hc8 h => ?_) fun hc8 h => ?_
   ·refine AN hN ?_; injection h with h; subst h; exact AX (b' := 64) [(2, .ptr 32 0), (3, .bool false)] [(32, .box 43 [.int .i64 0, .int .i64 0, .int .i64 0, .int .i64 0])] [(32, some 32)] [] hρ (EQ [])
   ·refine AW_skip (AK ?_); refine AN hN ?_; injection h with h; subst h; exact AX (b' := 64) [(2, .ptr 32 0), (3, .bool true)] [(32, .box 43 [.int .i64 (IntKind.wrap .i64 (Int.tdiv v2 2)), .int .i64 (IntKind.wrap .i64 (Int.tdiv v3 2)), .int .i64 (IntKind.wrap .i64 (Int.tdiv v4 2)), .int .i64 (IntKind.wrap .i64 (Int.tdiv v5 2))])] [(32, some 32)] [] hρ (EQ [])
/- impl.IsValidDOmega -/
def i_IsValidDOmega_j1 (v1 : Bool) : Option Bool :=
  some v1
def i_IsValidDOmega (a1 a2 a3 a4 a5 : Int) : Option Bool :=
  bO (i_DivSqrt2 a1 a2 a3 a4) fun x1 => bO (i_IsValidZOmega a1 a2 a3 a4) fun x2 => bO (br x2 (bO (i_in a5 0 60) fun x3 => some x3) (some false)) fun x4 => bO (br x4 (bO (br (a5 == 0) (some true) (some (!x1.2.2.2.2))) fun x5 => some x5) (some false)) fun x6 => i_IsValidDOmega_j1 x6
theorem i_IsValidDOmega_ok {a1 a2 a3 a4 a5 : Int} {r : Bool} (h : i_IsValidDOmega a1 a2 a3 a4 a5 = some r) :
    Spec Try.prog 35 [.agg [.int .i64 a1, .int .i64 a2, .int .i64 a3, .int .i64 a4, .int .i64 a5]] [] (.bool r) [] := by
 unfold i_IsValidDOmega at h; refine SO Try.func35 rfl Try.ntmps35 fun C hN hρ => ?_; simp only [st0, tmps0, Nat.zero_add, Nat.reduceAdd]; refine AN hN ?_; obtain ⟨x1, h1, h⟩ := bO_inv h; refine AP hN (i_DivSqrt2_ok h1) ?_; refine AJ (fun S => ∃ (v1 : Bool), S = ⟨mkT [(2, .bool v1)], mkR [], 64⟩ ∧ i_IsValidDOmega_j1 v1 = some r) hN ?_ ?_
 ·intro K hK; obtain ⟨x2, h2, h⟩ := bO_inv h; simp only [EV, seval]; refine CP (i_IsValidZOmega_ok h2) ?_; obtain ⟨x4, hv1, h⟩ := bO_inv h; rcases br_inv hv1 with ⟨hc1, hv1⟩ | ⟨hc1, hv1⟩
  ·obtain ⟨x7, h4, hv1⟩ := bO_inv hv1; simp only [EV, seval, hc1]; refine rC_p (i_in_ok h4) (by simp only [AL, EV, seval, hc1]) (le_d rfl) (no_j rfl) ?_; cases hv1; obtain ⟨x9, hv4, h⟩ := bO_inv h; rcases br_inv hv4 with ⟨hc4, hv4⟩ | ⟨hc4, hv4⟩
   ·obtain ⟨x10, hv6, hv4⟩ := bO_inv hv4; rcases br_inv hv6 with ⟨hc6, hv6⟩ | ⟨hc6, hv6⟩
    ·cases hv6; cases hv4; simp only [EV, seval, hc1, hc4, hc6]; refine hK _ _ _ (show cutK _ _ _ from cutL ⟨_, rfl, h⟩ (Le_can [] [] hρ (by kernel_rfl) ?_ ?_))
     ·simp only [AL, EV, seval, hc1, hc4, hc6]
     ·simp only [AL, EV, seval, hc1, hc4, hc6]
    ·cases hv6; cases hv4; simp only [EV, seval, hc1, hc4, hc6]; refine hK _ _ _ (show cutK _ _ _ from cutL ⟨_, rfl, h⟩ (Le_can [] [] hρ (by kernel_rfl) ?_ ?_))
     ·simp only [AL, EV, seval, hc1, hc4, hc6]
     ·simp only [AL, EV, seval, hc1, hc4, hc6]
   ·cases hv4; simp only [EV, seval, hc1, hc4]; refine hK _ _ _ (show cutK _ _ _ from cutL ⟨_, rfl, h⟩ (Le_can [] [] hρ (by kernel_rfl) ?_ ?_))
    ·simp only [AL, EV, seval, hc1, hc4]
    ·simp only [AL, EV, seval, hc1, hc4]
  ·cases hv1; obtain ⟨x11, hv7, h⟩ := bO_inv h; replace hv7 := br_f hv7; cases hv7; (try dsimp only at h); simp only [EV, seval, hc1]; refine hK _ _ _ (show cutK _ _ _ from cutL ⟨_, rfl, h⟩ (Le_can [] [] hρ (by kernel_rfl) ?_ ?_))
   ·simp only [AL, EV, seval, hc1]
   ·simp only [AL, EV, seval, hc1]
 ·rintro S ⟨v1, rfl, h⟩; unfold i_IsValidDOmega_j1 at h; injection h with h; subst h; exact AX (b' := 64) [(2, .bool v1)] [] [] [] hρ (EQ [])
/- spec.IsValidDOmega -/
def s_IsValidDOmega_j1 (v1 : Bool) : Option Bool :=
  some v1
def s_IsValidDOmega (a1 a2 a3 a4 a5 : Int) : Option Bool :=
  bO (s_DivSqrt2 a1 a2 a3 a4) fun x1 => bO (s_IsValidZOmega a1 a2 a3 a4) fun x2 => bO (br x2 (bO (s_l1In a5 0 60) fun x3 => some x3) (some false)) fun x4 => bO (br x4 (bO (br (!x1.2.2.2.2) (some true) (some (a5 == 0))) fun x5 => some x5) (some false)) fun x6 => s_IsValidDOmega_j1 x6
theorem s_IsValidDOmega_ok {a1 a2 a3 a4 a5 : Int} {r : Bool} (h : s_IsValidDOmega a1 a2 a3 a4 a5 = some r) :
    Spec Try.prog 32 [.agg [.int .i64 a1, .int .i64 a2, .int .i64 a3, .int .i64 a4, .int .i64 a5]] [] (.bool r) [] := by
 unfold s_IsValidDOmega at h; refine SO Try.func32 rfl Try.ntmps32 fun C hN hρ => ?_; simp only [st0, tmps0, Nat.zero_add, Nat.reduceAdd]; refine AN hN ?_; obtain ⟨x1, h1, h⟩ := bO_inv h; refine AP hN (s_DivSqrt2_ok h1) ?_; refine AJ (fun S => ∃ (v1 : Bool), S = ⟨mkT [(2, .bool v1)], mkR [], 64⟩ ∧ s_IsValidDOmega_j1 v1 = some r) hN ?_ ?_
 ·intro K hK; obtain ⟨x2, h2, h⟩ := bO_inv h; simp only [EV, seval]; refine CP (s_IsValidZOmega_ok h2) ?_; obtain ⟨x4, hv1, h⟩ := bO_inv h; rcases br_inv hv1 with ⟨hc1, hv1⟩ | ⟨hc1, hv1⟩
  ·obtain ⟨x7, h4, hv1⟩ := bO_inv hv1; simp only [EV, seval, hc1]; refine rC_p (s_l1In_ok h4) (by simp only [AL, EV, seval, hc1]) (le_d rfl) (no_j rfl) ?_; cases hv1; obtain ⟨x9, hv4, h⟩ := bO_inv h; rcases br_inv hv4 with ⟨hc4, hv4⟩ | ⟨hc4, hv4⟩
   ·obtain ⟨x10, hv6, hv4⟩ := bO_inv hv4; rcases br_inv hv6 with ⟨hc6, hv6⟩ | ⟨hc6, hv6⟩
    ·cases hv6; cases hv4; simp only [EV, seval, hc1, hc4, hc6]; refine hK _ _ _ (show cutK _ _ _ from cutL ⟨_, rfl, h⟩ (Le_can [] [] hρ (by kernel_rfl) ?_ ?_))
     ·simp only [AL, EV, seval, hc1, hc4, hc6]
     ·simp only [AL, EV, seval, hc1, hc4, hc6]
    ·cases hv6; cases hv4; simp only [EV, seval, hc1, hc4, hc6]; refine hK _ _ _ (show cutK _ _ _ from cutL ⟨_, rfl, h⟩ (Le_can [] [] hρ (by kernel_rfl) ?_ ?_))
     ·simp only [AL, EV, seval, hc1, hc4, hc6]
     ·simp only [AL, EV, seval, hc1, hc4, hc6]
   ·cases hv4; simp only [EV, seval, hc1, hc4]; refine hK _ _ _ (show cutK _ _ _ from cutL ⟨_, rfl, h⟩ (Le_can [] [] hρ (by kernel_rfl) ?_ ?_))
    ·simp only [AL, EV, seval, hc1, hc4]
    ·simp only [AL, EV, seval, hc1, hc4]
  ·cases hv1; obtain ⟨x11, hv7, h⟩ := bO_inv h; replace hv7 := br_f hv7; cases hv7; (try dsimp only at h); simp only [EV, seval, hc1]; refine hK _ _ _ (show cutK _ _ _ from cutL ⟨_, rfl, h⟩ (Le_can [] [] hρ (by kernel_rfl) ?_ ?_))
   ·simp only [AL, EV, seval, hc1]
   ·simp only [AL, EV, seval, hc1]
 ·rintro S ⟨v1, rfl, h⟩; unfold s_IsValidDOmega_j1 at h; injection h with h; subst h; exact AX (b' := 64) [(2, .bool v1)] [] [] [] hρ (EQ [])
/- impl.NewDOmega -/
def i_NewDOmega_j2 (v12 v13 v14 v15 v16 : Int) : Option (Int × Int × Int × Int × Int × Bool) :=
  br (decide (60 < v12)) (some (0, 0, 0, 0, 0, false)) (some (v13, v14, v15, v16, v12, true))
def i_NewDOmega_l1 : Nat → Int → Int → Int → Int → Int → Option (Int × Int × Int × Int × Int × Bool)
  | 0, _, _, _, _, _ => none
  | n1 + 1, v7, v8, v9, v10, v11 =>
  br (decide (0 < v7)) (bO (i_DivSqrt2 v8 v9 v10 v11) fun x7 => br (!x7.2.2.2.2) (i_NewDOmega_j2 v7 v8 v9 v10 v11) ((i_NewDOmega_l1 n1) (IntKind.wrap .i64 (v7 - 1)) x7.1 x7.2.1 x7.2.2.1 x7.2.2.2.1)) (i_NewDOmega_j2 v7 v8 v9 v10 v11)
def i_NewDOmega_j1 (a1 a2 a3 a4 a5 : Int) (v1 : Bool) : Option (Int × Int × Int × Int × Int × Bool) :=
  br v1 (some (0, 0, 0, 0, 0, false)) (i_NewDOmega_l1 FU a5 a1 a2 a3 a4)
def i_NewDOmega (a1 a2 a3 a4 a5 : Int) : Option (Int × Int × Int × Int × Int × Bool) :=
  bO (i_IsValidZOmega a1 a2 a3 a4) fun x1 => bO (br (!x1) (some true) (bO (i_in a5 0 120) fun x2 => some (!x2))) fun x3 => i_NewDOmega_j1 a1 a2 a3 a4 a5 x3
theorem i_NewDOmega_ok {a1 a2 a3 a4 a5 : Int} {r : Int × Int × Int × Int × Int × Bool} (h : i_NewDOmega a1 a2 a3 a4 a5 = some r) :
    Spec Try.prog 37 [.agg [.int .i64 a1, .int .i64 a2, .int .i64 a3, .int .i64 a4], .int .i64 a5] [] (.tup [.agg [.int .i64 r.1, .int .i64 r.2.1, .int .i64 r.2.2.1, .int .i64 r.2.2.2.1, .int .i64 r.2.2.2.2.1], .bool r.2.2.2.2.2]) [] := by
 unfold i_NewDOmega at h; refine SO Try.func37 rfl Try.ntmps37 fun C hN hρ => ?_; simp only [st0, tmps0, Nat.zero_add, Nat.reduceAdd]; refine AN hN ?_; refine AW_seq ?_; refine AJ (fun S => ∃ (v1 : Bool), S = ⟨mkT [(1, .int .i64 a5), (2, .ptr 32 0), (4, .ptr 33 0), (15, .bool v1)], mkR [(32, .box 43 [.int .i64 a1, .int .i64 a2, .int .i64 a3, .int .i64 a4]), (33, .box 45 [.int .i64 0, .int .i64 0, .int .i64 0, .int .i64 0, .int .i64 0])], 64⟩ ∧ i_NewDOmega_j1 a1 a2 a3 a4 a5 v1 = some r) hN ?_ ?_
 ·intro K hK; obtain ⟨x1, h1, h⟩ := bO_inv h; simp only [EV, seval]; refine CP (i_IsValidZOmega_ok h1) ?_; obtain ⟨x3, hv1, h⟩ := bO_inv h; rcases br_inv hv1 with ⟨hc1, hv1⟩ | ⟨hc1, hv1⟩
  ·cases hv1; simp only [EV, seval, hc1]; refine hK _ _ _ (show cutK _ _ _ from cutL ⟨_, rfl, h⟩ (Le_can [(32, some 64), (33, some 80)] [] hρ (by kernel_rfl) ?_ ?_))
   ·simp only [AL, EV, seval, hc1]
   ·simp only [AL, EV, seval, hc1]
  ·obtain ⟨x4, h3, hv1⟩ := bO_inv hv1; simp only [EV, seval, hc1]; refine rC_p (i_in_ok h3) (by simp only [AL, EV, seval, hc1]) (le_d rfl) (no_j rfl) ?_; cases hv1; simp only [EV, seval, hc1]; refine hK _ _ _ (show cutK _ _ _ from cutL ⟨_, rfl, h⟩ (Le_can [(32, some 64), (33, some 80)] [] hρ (by kernel_rfl) ?_ ?_))
   ·simp only [AL, EV, seval, hc1]
   ·simp only [AL, EV, seval, hc1]
 ·rintro S ⟨v1, rfl, h⟩; unfold i_NewDOmega_j1 at h; refine AB h (fun hc2 h => ?_) fun hc2 h => ?_
  ·refine AN hN ?_; injection h with h; subst h; exact AX (b' := 64) [(4, .ptr 32 0), (5, .bool false)] [(32, .box 45 [.int .i64 0, .int .i64 0, .int .i64 0, .int .i64 0, .int .i64 0])] [(32, some 33)] [] hρ (EQ [])
  ·refine AW_skip (AK ?_); refine AW_cutK (fun S => ∃ (v12 v13 v14 v15 v16 : Int), S = ⟨mkT [(1, .int .i64 v12), (2, .ptr 32 0), (4, .ptr 33 0)], mkR [(32, .box 43 [.int .i64 v13, .int .i64 v14, .int .i64 v15, .int .i64 v16]), (33, .box 45 [.int .i64 0, .int .i64 0, .int .i64 0, .int .i64 0, .int .i64 0])], 64⟩ ∧ i_NewDOmega_j2 v12 v13 v14 v15 v16 = some r) ?_ ?_
   ·refine AW_block ?_; refine AW_loopF (fun n S => ∃ (v7 v8 v9 v10 v11 : Int), S = ⟨mkT [(1, .int .i64 v7), (2, .ptr 32 0), (4, .ptr 33 0)], mkR [(32, .box 43 [.int .i64 v8, .int .i64 v9, .int .i64 v10, .int .i64 v11]), (33, .box 45 [.int .i64 0, .int .i64 0, .int .i64 0, .int .i64 0, .int .i64 0])], 64⟩ ∧ i_NewDOmega_l1 n v7 v8 v9 v10 v11 = some r) FU ?_ ?_ ?_
    ·exact AC ⟨_, _, _, _, _, rfl, h⟩ [(32, some 32), (33, some 33)] [] hρ
    ·rintro S ⟨_, _, _, _, _, _, h⟩; rw [i_NewDOmega_l1] at h; cases h
    ·rintro n1 S ⟨v7, v8, v9, v10, v11, rfl, h⟩; rw [i_NewDOmega_l1] at h; refine AW_seq ?_; refine AN hN ?_; refine AB h (fun hc7 h => ?_) fun hc7 h => ?_
     ·refine AW_skip (AK ?_); refine AW_block ?_; obtain ⟨x7, h6, h⟩ := bO_inv h; refine AP hN (i_DivSqrt2_ok h6) ?_; refine AW_seq ?_; refine AN hN ?_; refine AB h (fun hc8 h => ?_) fun hc8 h => ?_
      ·exact AW_exit (AC ⟨_, _, _, _, _, rfl, h⟩ [(32, some 32), (33, some 33)] [] hρ)
      ·refine AW_skip (AK ?_); refine AN hN ?_; refine AS hN fun K hK => ?_; simp only [EV, seval]; exact hK _ _ _ (AC ⟨_, _, _, _, _, rfl, h⟩ [(32, some 32), (33, some 33)] [] hρ)
     ·exact AW_exit (AC ⟨_, _, _, _, _, rfl, h⟩ [(32, some 32), (33, some 33)] [] hρ)
   ·rintro S ⟨v12, v13, v14, v15, v16, rfl, h⟩; unfold i_NewDOmega_j2 at h; refine AW_seq ?_; refine AN hN ?_; refine AB h (fun hc9 h => ?_) fun hc9 h => ?_
    ·refine AN hN ?_; injection h with h; subst h; exact AX (b' := 64) [(4, .ptr 32 0), (5, .bool false)] [(32, .box 45 [.int .i64 0, .int .i64 0, .int .i64 0, .int .i64 0, .int .i64 0])] [(32, some 33)] [] hρ (EQ [])
    ·refine AW_skip (AK ?_); refine AN hN ?_; injection h with h; subst h; exact AX (b' := 64) [(4, .ptr 32 0), (5, .bool true)] [(32, .box 45 [.int .i64 v13, .int .i64 v14, .int .i64 v15, .int .i64 v16, .int .i64 v12])] [(32, some 33)] [] hρ (EQ [])
/- spec.NewDOmega -/
def s_NewDOmega_j2 (v12 v13 v14 v15 v16 : Int) : Option (Int × Int × Int × Int × Int × Bool) :=
  br (decide (60 < v12)) (some (0, 0, 0, 0, 0, false)) (some (v13, v14, v15, v16, v12, true))
def s_NewDOmega_l1 : Nat → Int → Int → Int → Int → Int → Option (Int × Int × Int × Int × Int × Bool)
  | 0, _, _, _, _, _ => none
  | n1 + 1, v7, v8, v9, v10, v11 =>
  br (decide (0 < v7)) (bO (s_DivSqrt2 v8 v9 v10 v11) fun x7 => br (!x7.2.2.2.2) (s_NewDOmega_j2 v7 v8 v9 v10 v11) ((s_NewDOmega_l1 n1) (IntKind.wrap .i64 (v7 - 1)) x7.1 x7.2.1 x7.2.2.1 x7.2.2.2.1)) (s_NewDOmega_j2 v7 v8 v9 v10 v11)
def s_NewDOmega_j1 (a1 a2 a3 a4 a5 : Int) (v1 : Bool) : Option (Int × Int × Int × Int × Int × Bool) :=
  br v1 (some (0, 0, 0, 0, 0, false)) (s_NewDOmega_l1 FU a5 a1 a2 a3 a4)
def s_NewDOmega (a1 a2 a3 a4 a5 : Int) : Option (Int × Int × Int × Int × Int × Bool) :=
  bO (s_IsValidZOmega a1 a2 a3 a4) fun x1 => bO (br (!x1) (some true) (bO (s_l1In a5 0 120) fun x2 => some (!x2))) fun x3 => s_NewDOmega_j1 a1 a2 a3 a4 a5 x3
theorem s_NewDOmega_ok {a1 a2 a3 a4 a5 : Int} {r : Int × Int × Int × Int × Int × Bool} (h : s_NewDOmega a1 a2 a3 a4 a5 = some r) :
    Spec Try.prog 33 [.agg [.int .i64 a1, .int .i64 a2, .int .i64 a3, .int .i64 a4], .int .i64 a5] [] (.tup [.agg [.int .i64 r.1, .int .i64 r.2.1, .int .i64 r.2.2.1, .int .i64 r.2.2.2.1, .int .i64 r.2.2.2.2.1], .bool r.2.2.2.2.2]) [] := by
 unfold s_NewDOmega at h; refine SO Try.func33 rfl Try.ntmps33 fun C hN hρ => ?_; simp only [st0, tmps0, Nat.zero_add, Nat.reduceAdd]; refine AN hN ?_; refine AW_seq ?_; refine AJ (fun S => ∃ (v1 : Bool), S = ⟨mkT [(1, .int .i64 a5), (2, .ptr 32 0), (4, .ptr 33 0), (15, .bool v1)], mkR [(32, .box 43 [.int .i64 a1, .int .i64 a2, .int .i64 a3, .int .i64 a4]), (33, .box 45 [.int .i64 0, .int .i64 0, .int .i64 0, .int .i64 0, .int .i64 0])], 64⟩ ∧ s_NewDOmega_j1 a1 a2 a3 a4 a5 v1 = some r) hN ?_ ?_
 ·intro K hK; obtain ⟨x1, h1, h⟩ := bO_inv h; simp only [EV, seval]; refine CP (s_IsValidZOmega_ok h1) ?_; obtain ⟨x3, hv1, h⟩ := bO_inv h; rcases br_inv hv1 with ⟨hc1, hv1⟩ | ⟨hc1, hv1⟩
  ·cases hv1; simp only [EV, seval, hc1]; refine hK _ _ _ (show cutK _ _ _ from cutL ⟨_, rfl, h⟩ (Le_can [(32, some 64), (33, some 80)] [] hρ (by kernel_rfl) ?_ ?_))
   ·simp only [AL, EV, seval, hc1]
   ·simp only [AL, EV, seval, hc1]
  ·obtain ⟨x4, h3, hv1⟩ := bO_inv hv1; simp only [EV, seval, hc1]; refine rC_p (s_l1In_ok h3) (by simp only [AL, EV, seval, hc1]) (le_d rfl) (no_j rfl) ?_; cases hv1; simp only [EV, seval, hc1]; refine hK _ _ _ (show cutK _ _ _ from cutL ⟨_, rfl, h⟩ (Le_can [(32, some 64), (33, some 80)] [] hρ (by kernel_rfl) ?_ ?_))
   ·simp only [AL, EV, seval, hc1]
   ·simp only [AL, EV, seval, hc1]
 ·rintro S ⟨v1, rfl, h⟩; unfold s_NewDOmega_j1 at h; refine AB h (fun hc2 h => ?_) fun hc2 h => ?_
  ·refine AN hN ?_; injection h with h; subst h; exact AX (b' := 64) [(4, .ptr 32 0), (5, .bool false)] [(32, .box 45 [.int .i64 0, .int .i64 0, .int .i64 0, .int .i64 0, .int .i64 0])] [(32, some 33)] [] hρ (EQ [])
  ·refine AW_skip (AK ?_); refine AW_cutK (fun S => ∃ (v12 v13 v14 v15 v16 : Int), S = ⟨mkT [(1, .int .i64 v12), (2, .ptr 32 0), (4, .ptr 33 0)], mkR [(32, .box 43 [.int .i64 v13, .int .i64 v14, .int .i64 v15, .int .i64 v16]), (33, .box 45 [.int .i64 0, .int .i64 0, .int .i64 0, .int .i64 0, .int .i64 0])], 64⟩ ∧ s_NewDOmega_j2 v12 v13 v14 v15 v16 = some r) ?_ ?_
   ·refine AW_block ?_; refine AW_loopF (fun n S => ∃ (v7 v8 v9 v10 v11 : Int), S = ⟨mkT [(1, .int .i64 v7), (2, .ptr 32 0), (4, .ptr 33 0)], mkR [(32, .box 43 [.int .i64 v8, .int .i64 v9, .int .i64 v10, .int .i64 v11]), (33, .box 45 [.int .i64 0, .int .i64 0, .int .i64 0, .int .i64 0, .int .i64 0])], 64⟩ ∧ s_NewDOmega_l1 n v7 v8 v9 v10 v11 = some r) FU ?_ ?_ ?_
    ·exact AC ⟨_, _, _, _, _, rfl, h⟩ [(32, some 32), (33, some 33)] [] hρ
    ·rintro S ⟨_, _, _, _, _, _, h⟩; rw [s_NewDOmega_l1] at h; cases h
    ·rintro n1 S ⟨v7, v8, v9, v10, v11, rfl, h⟩; rw [s_NewDOmega_l1] at h; refine AW_seq ?_; refine AN hN ?_; refine AB h (fun hc7 h => ?_) fun hc7 h => ?_
     ·refine AW_skip (AK ?_); refine AW_block ?_; obtain ⟨x7, h6, h⟩ := bO_inv h; refine AP hN (s_DivSqrt2_ok h6) ?_; refine AW_seq ?_; refine AN hN ?_; refine AB h (fun hc8 h => ?_) fun hc8 h => ?_
      ·exact AW_exit (AC ⟨_, _, _, _, _, rfl, h⟩ [(32, some 32), (33, some 33)] [] hρ)
      ·refine AW_skip (AK ?_); refine AN hN ?_; refine AS hN fun K hK => ?_; simp only [EV, seval]; exact hK _ _ _ (AC ⟨_, _, _, _, _, rfl, h⟩ [(32, some 32), (33, some 33)] [] hρ)
     ·exact AW_exit (AC ⟨_, _, _, _, _, rfl, h⟩ [(32, some 32), (33, some 33)] [] hρ)
   ·rintro S ⟨v12, v13, v14, v15, v16, rfl, h⟩; unfold s_NewDOmega_j2 at h; refine AW_seq ?_; refine AN hN ?_; refine AB h (fun hc9 h => ?_) fun hc9 h => ?_
    ·refine AN hN ?_; injection h with h; subst h; exact AX (b' := 64) [(4, .ptr 32 0), (5, .bool false)] [(32, .box 45 [.int .i64 0, .int .i64 0, .int .i64 0, .int .i64 0, .int .i64 0])] [(32, some 33)] [] hρ (EQ [])
    ·refine AW_skip (AK ?_); refine AN hN ?_; injection h with h; subst h; exact AX (b' := 64) [(4, .ptr 32 0), (5, .bool true)] [(32, .box 45 [.int .i64 v13, .int .i64 v14, .int .i64 v15, .int .i64 v16, .int .i64 v12])] [(32, some 33)] [] hρ (EQ [])
/- impl.checked -/
def i_checked (a1 a2 a3 a4 : Int) : Option (Int × Int × Int × Int × Bool) :=
  bO (i_IsValidZOmega a1 a2 a3 a4) fun x1 => br (!x1) (some (0, 0, 0, 0, false)) (some (a1, a2, a3, a4, true))
theorem i_checked_ok {a1 a2 a3 a4 : Int} {r : Int × Int × Int × Int × Bool} (h : i_checked a1 a2 a3 a4 = some r) :
    Spec Try.prog 51 [.agg [.int .i64 a1, .int .i64 a2, .int .i64 a3, .int .i64 a4]] [] (.tup [.agg [.int .i64 r.1, .int .i64 r.2.1, .int .i64 r.2.2.1, .int .i64 r.2.2.2.1], .bool r.2.2.2.2]) [] := by
 unfold i_checked at h; refine SO Try.func51 rfl Try.ntmps51 fun C hN hρ => ?_; simp only [st0, tmps0, Nat.zero_add, Nat.reduceAdd]; refine AN hN ?_; refine AW_seq ?_; obtain ⟨x1, h1, h⟩ := bO_inv h; refine AP hN (i_IsValidZOmega_ok h1) ?_; refine AB h (fun hc1 h => ?_) fun hc1 h => ?_
 ·refine AN hN ?_; injection h with h; subst h; exact AX (b' := 64) [(2, .ptr 32 0), (3, .bool false)] [(32, .box 43 [.int .i64 0, .int .i64 0, .int .i64 0, .int .i64 0])] [(32, some 80)] [] hρ (EQ [])
 ·refine AW_skip (AK ?_); refine AN hN ?_; injection h with h; subst h; exact AX (b' := 64) [(2, .ptr 32 0), (3, .bool true)] [(32, .box 43 [.int .i64 a1, .int .i64 a2, .int .i64 a3, .int .i64 a4])] [(32, some 80)] [] hρ (EQ [])
/- impl.MulZOmega -/
def i_MulZOmega_j1 (a1 a2 a3 a4 a5 a6 a7 a8 : Int) (v1 : Bool) : Option (Int × Int × Int × Int × Bool) :=
  br v1 (some (0, 0, 0, 0, false)) (bO (i_checked (IntKind.wrap .i64 ((IntKind.wrap .i64 ((IntKind.wrap .i64 ((IntKind.wrap .i64 (a1 * a5)) - (IntKind.wrap .i64 (a2 * a8)))) - (IntKind.wrap .i64 (a3 * a7)))) - (IntKind.wrap .i64 (a4 * a6)))) (IntKind.wrap .i64 ((IntKind.wrap .i64 ((IntKind.wrap .i64 ((IntKind.wrap .i64 (a1 * a6)) + (IntKind.wrap .i64 (a2 * a5)))) - (IntKind.wrap .i64 (a3 * a8)))) - (IntKind.wrap .i64 (a4 * a7)))) (IntKind.wrap .i64 ((IntKind.wrap .i64 ((IntKind.wrap .i64 ((IntKind.wrap .i64 (a1 * a7)) + (IntKind.wrap .i64 (a2 * a6)))) + (IntKind.wrap .i64 (a3 * a5)))) - (IntKind.wrap .i64 (a4 * a8)))) (IntKind.wrap .i64 ((IntKind.wrap .i64 ((IntKind.wrap .i64 ((IntKind.wrap .i64 (a1 * a8)) + (IntKind.wrap .i64 (a2 * a7)))) + (IntKind.wrap .i64 (a3 * a6)))) + (IntKind.wrap .i64 (a4 * a5))))) fun x5 => some (x5.1, x5.2.1, x5.2.2.1, x5.2.2.2.1, x5.2.2.2.2))
def i_MulZOmega (a1 a2 a3 a4 a5 a6 a7 a8 : Int) : Option (Int × Int × Int × Int × Bool) :=
  bO (i_IsValidZOmega a1 a2 a3 a4) fun x1 => bO (br (!x1) (some true) (bO (i_IsValidZOmega a5 a6 a7 a8) fun x2 => some (!x2))) fun x3 => i_MulZOmega_j1 a1 a2 a3 a4 a5 a6 a7 a8 x3
theorem i_MulZOmega_ok {a1 a2 a3 a4 a5 a6 a7 a8 : Int} {r : Int × Int × Int × Int × Bool} (h : i_MulZOmega a1 a2 a3 a4 a5 a6 a7 a8 = some r) :
    Spec Try.prog 36 [.agg [.int .i64 a1, .int .i64 a2, .int .i64 a3, .int .i64 a4], .agg [.int .i64 a5, .int .i64 a6, .int .i64 a7, .int .i64 a8]] [] (.tup [.agg [.int .i64 r.1, .int .i64 r.2.1, .int .i64 r.2.2.1, .int .i64 r.2.2.2.1], .bool r.2.2.2.2]) [] := by
 unfold i_MulZOmega at h; refine SO Try.func36 rfl Try.ntmps36 fun C hN hρ => ?_; simp only [st0, tmps0, Nat.zero_add, Nat.reduceAdd]; refine AN hN ?_; refine AW_seq ?_; refine AJ (fun S => ∃ (v1 : Bool), S = ⟨mkT [(2, .ptr 32 0), (3, .ptr 33 0), (4, .ptr 34 0), (15, .bool v1)], mkR [(32, .box 43 [.int .i64 a1, .int .i64 a2, .int .i64 a3, .int .i64 a4]), (33, .box 43 [.int .i64 a5, .int .i64 a6, .int .i64 a7, .int .i64 a8]), (34, .box 43 [.int .i64 0, .int .i64 0, .int .i64 0, .int .i64 0])], 64⟩ ∧ i_MulZOmega_j1 a1 a2 a3 a4 a5 a6 a7 a8 v1 = some r) hN ?_ ?_
 ·intro K hK; obtain ⟨x1, h1, h⟩ := bO_inv h; simp only [EV, seval]; refine CP (i_IsValidZOmega_ok h1) ?_; obtain ⟨x3, hv1, h⟩ := bO_inv h; rcases br_inv hv1 with ⟨hc1, hv1⟩ | ⟨hc1, hv1⟩
  ·cases hv1; simp only [EV, seval, hc1]; refine hK _ _ _ (show cutK _ _ _ from cutL ⟨_, rfl, h⟩ (Le_can [(32, some 64), (33, some 80), (34, some 96)] [] hρ (by kernel_rfl) ?_ ?_))
   ·simp only [AL, EV, seval, hc1]
   ·simp only [AL, EV, seval, hc1]
  ·obtain ⟨x4, h3, hv1⟩ := bO_inv hv1; simp only [EV, seval, hc1]; refine rC_p (i_IsValidZOmega_ok h3) (by simp only [AL, EV, seval, hc1]) (le_d rfl) (no_j rfl) ?_; cases hv1; simp only [EV, seval, hc1]; refine hK _ _ _ (show cutK _ _ _ from cutL ⟨_, rfl, h⟩ (Le_can [(32, some 64), (33, some 80), (34, some 96)] [] hρ (by kernel_rfl) ?_ ?_))
   ·simp only [AL, EV, seval, hc1]
   ·simp only [AL, EV, seval, hc1]
 ·rintro S ⟨v1, rfl, h⟩; unfold i_MulZOmega_j1 at h; refine AB h (fun hc2 h => ?_) fun hc2 h => ?_
  ·refine AN hN ?_; injection h with h; subst h; exact AX (b' := 64) [(4, .ptr 32 0), (5, .bool false)] [(32, .box 43 [.int .i64 0, .int .i64 0, .int .i64 0, .int .i64 0])] [(32, some 34)] [] hρ (EQ [])
  ·refine AW_skip (AK ?_); obtain ⟨x5, h4, h⟩ := bO_inv h; refine AP hN (i_checked_ok h4) ?_; refine AN hN ?_; injection h with h; subst h; exact AX (b' := 64) [(4, .ptr 32 0), (5, .bool x5.2.2.2.2)] [(32, .box 43 [.int .i64 x5.1, .int .i64 x5.2.1, .int .i64 x5.2.2.1, .int .i64 x5.2.2.2.1])] [(32, some 34)] [] hρ (EQ [])
/- spec.l2If -/
def s_l2If (a1 a2 a3 a4 : Int) : Option (Int × Int × Int × Int × Bool) :=
  bO (s_IsValidZOmega a1 a2 a3 a4) fun x1 => br (!x1) (some (0, 0, 0, 0, false)) (some (a1, a2, a3, a4, true))
theorem s_l2If_ok {a1 a2 a3 a4 : Int} {r : Int × Int × Int × Int × Bool} (h : s_l2If a1 a2 a3 a4 = some r) :
    Spec Try.prog 45 [.agg [.int .i64 a1, .int .i64 a2, .int .i64 a3, .int .i64 a4]] [] (.tup [.agg [.int .i64 r.1, .int .i64 r.2.1, .int .i64 r.2.2.1, .int .i64 r.2.2.2.1], .bool r.2.2.2.2]) [] := by
 unfold s_l2If at h; refine SO Try.func45 rfl Try.ntmps45 fun C hN hρ => ?_; simp only [st0, tmps0, Nat.zero_add, Nat.reduceAdd]; refine AN hN ?_; refine AW_seq ?_; obtain ⟨x1, h1, h⟩ := bO_inv h; refine AP hN (s_IsValidZOmega_ok h1) ?_; refine AB h (fun hc1 h => ?_) fun hc1 h => ?_
 ·refine AN hN ?_; injection h with h; subst h; exact AX (b' := 64) [(2, .ptr 32 0), (3, .bool false)] [(32, .box 43 [.int .i64 0, .int .i64 0, .int .i64 0, .int .i64 0])] [(32, some 80)] [] hρ (EQ [])
 ·refine AW_skip (AK ?_); refine AN hN ?_; injection h with h; subst h; exact AX (b' := 64) [(2, .ptr 32 0), (3, .bool true)] [(32, .box 43 [.int .i64 a1, .int .i64 a2, .int .i64 a3, .int .i64 a4])] [(32, some 80)] [] hρ (EQ [])
/- spec.MulZOmega -/
def s_MulZOmega_j1 (a1 a2 a3 a4 a5 a6 a7 a8 : Int) (v1 : Bool) : Option (Int × Int × Int × Int × Bool) :=
  br v1 (some (0, 0, 0, 0, false)) (bO (s_l2If (IntKind.wrap .i64 ((IntKind.wrap .i64 ((IntKind.wrap .i64 ((IntKind.wrap .i64 (a1 * a5)) - (IntKind.wrap .i64 (a2 * a8)))) - (IntKind.wrap .i64 (a3 * a7)))) - (IntKind.wrap .i64 (a4 * a6)))) (IntKind.wrap .i64 ((IntKind.wrap .i64 ((IntKind.wrap .i64 ((IntKind.wrap .i64 (a1 * a6)) + (IntKind.wrap .i64 (a2 * a5)))) - (IntKind.wrap .i64 (a3 * a8)))) - (IntKind.wrap .i64 (a4 * a7)))) (IntKind.wrap .i64 ((IntKind.wrap .i64 ((IntKind.wrap .i64 ((IntKind.wrap .i64 (a1 * a7)) + (IntKind.wrap .i64 (a2 * a6)))) + (IntKind.wrap .i64 (a3 * a5)))) - (IntKind.wrap .i64 (a4 * a8)))) (IntKind.wrap .i64 ((IntKind.wrap .i64 ((IntKind.wrap .i64 ((IntKind.wrap .i64 (a1 * a8)) + (IntKind.wrap .i64 (a2 * a7)))) + (IntKind.wrap .i64 (a3 * a6)))) + (IntKind.wrap .i64 (a4 * a5))))) fun x5 => some (x5.1, x5.2.1, x5.2.2.1, x5.2.2.2.1, x5.2.2.2.2))
def s_MulZOmega (a1 a2 a3 a4 a5 a6 a7 a8 : Int) : Option (Int × Int × Int × Int × Bool) :=
  bO (s_IsValidZOmega a1 a2 a3 a4) fun x1 => bO (br (!x1) (some true) (bO (s_IsValidZOmega a5 a6 a7 a8) fun x2 => some (!x2))) fun x3 => s_MulZOmega_j1 a1 a2 a3 a4 a5 a6 a7 a8 x3
theorem s_MulZOmega_ok {a1 a2 a3 a4 a5 a6 a7 a8 : Int} {r : Int × Int × Int × Int × Bool} (h : s_MulZOmega a1 a2 a3 a4 a5 a6 a7 a8 = some r) :
    Spec Try.prog 31 [.agg [.int .i64 a1, .int .i64 a2, .int .i64 a3, .int .i64 a4], .agg [.int .i64 a5, .int .i64 a6, .int .i64 a7, .int .i64 a8]] [] (.tup [.agg [.int .i64 r.1, .int .i64 r.2.1, .int .i64 r.2.2.1, .int .i64 r.2.2.2.1], .bool r.2.2.2.2]) [] := by
 unfold s_MulZOmega at h; refine SO Try.func31 rfl Try.ntmps31 fun C hN hρ => ?_; simp only [st0, tmps0, Nat.zero_add, Nat.reduceAdd]; refine AN hN ?_; refine AW_seq ?_; refine AJ (fun S => ∃ (v1 : Bool), S = ⟨mkT [(2, .ptr 32 0), (3, .ptr 33 0), (4, .ptr 34 0), (13, .bool v1)], mkR [(32, .box 43 [.int .i64 a1, .int .i64 a2, .int .i64 a3, .int .i64 a4]), (33, .box 43 [.int .i64 a5, .int .i64 a6, .int .i64 a7, .int .i64 a8]), (34, .box 43 [.int .i64 0, .int .i64 0, .int .i64 0, .int .i64 0])], 64⟩ ∧ s_MulZOmega_j1 a1 a2 a3 a4 a5 a6 a7 a8 v1 = some r) hN ?_ ?_
 ·intro K hK; obtain ⟨x1, h1, h⟩ := bO_inv h; simp only [EV, seval]; refine CP (s_IsValidZOmega_ok h1) ?_; obtain ⟨x3, hv1, h⟩ := bO_inv h; rcases br_inv hv1 with ⟨hc1, hv1⟩ | ⟨hc1, hv1⟩
  ·cases hv1; simp only [EV, seval, hc1]; refine hK _ _ _ (show cutK _ _ _ from cutL ⟨_, rfl, h⟩ (Le_can [(32, some 64), (33, some 80), (34, some 96)] [] hρ (by kernel_rfl) ?_ ?_))
   ·simp only [AL, EV, seval, hc1]
   ·simp only [AL, EV, seval, hc1]
  ·obtain ⟨x4, h3, hv1⟩ := bO_inv hv1; simp only [EV, seval, hc1]; refine rC_p (s_IsValidZOmega_ok h3) (by simp only [AL, EV, seval, hc1]) (le_d rfl) (no_j rfl) ?_; cases hv1; simp only [EV, seval, hc1]; refine hK _ _ _ (show cutK _ _ _ from cutL ⟨_, rfl, h⟩ (Le_can [(32, some 64), (33, some 80), (34, some 96)] [] hρ (by kernel_rfl) ?_ ?_))
   ·simp only [AL, EV, seval, hc1]
   ·simp only [AL, EV, seval, hc1]
 ·rintro S ⟨v1, rfl, h⟩; unfold s_MulZOmega_j1 at h; refine AB h (fun hc2 h => ?_) fun hc2 h => ?_
  ·refine AN hN ?_; injection h with h; subst h; exact AX (b' := 64) [(4, .ptr 32 0), (5, .bool false)] [(32, .box 43 [.int .i64 0, .int .i64 0, .int .i64 0, .int .i64 0])] [(32, some 34)] [] hρ (EQ [])
  ·refine AW_skip (AK ?_); obtain ⟨x5, h4, h⟩ := bO_inv h; refine AP hN (s_l2If_ok h4) ?_; injection h with h; subst h; exact AX (b' := 64) [(4, .ptr 32 0), (5, .bool x5.2.2.2.2)] [(32, .box 43 [.int .i64 x5.1, .int .i64 x5.2.1, .int .i64 x5.2.2.1, .int .i64 x5.2.2.2.1])] [(32, some 34)] [] hρ (EQ [])
/- spec.AddZOmega -/
def s_AddZOmega_j1 (a1 a2 a3 a4 a5 a6 a7 a8 : Int) (v1 : Bool) : Option (Int × Int × Int × Int × Bool) :=
  br v1 (some (0, 0, 0, 0, false)) (bO (s_l2If (IntKind.wrap .i64 (a1 + a5)) (IntKind.wrap .i64 (a2 + a6)) (IntKind.wrap .i64 (a3 + a7)) (IntKind.wrap .i64 (a4 + a8))) fun x5 => some (x5.1, x5.2.1, x5.2.2.1, x5.2.2.2.1, x5.2.2.2.2))
def s_AddZOmega (a1 a2 a3 a4 a5 a6 a7 a8 : Int) : Option (Int × Int × Int × Int × Bool) :=
  bO (s_IsValidZOmega a1 a2 a3 a4) fun x1 => bO (br (!x1) (some true) (bO (s_IsValidZOmega a5 a6 a7 a8) fun x2 => some (!x2))) fun x3 => s_AddZOmega_j1 a1 a2 a3 a4 a5 a6 a7 a8 x3
theorem s_AddZOmega_ok {a1 a2 a3 a4 a5 a6 a7 a8 : Int} {r : Int × Int × Int × Int × Bool} (h : s_AddZOmega a1 a2 a3 a4 a5 a6 a7 a8 = some r) :
    Spec Try.prog 73 [.agg [.int .i64 a1, .int .i64 a2, .int .i64 a3, .int .i64 a4], .agg [.int .i64 a5, .int .i64 a6, .int .i64 a7, .int .i64 a8]] [] (.tup [.agg [.int .i64 r.1, .int .i64 r.2.1, .int .i64 r.2.2.1, .int .i64 r.2.2.2.1], .bool r.2.2.2.2]) [] := by
 unfold s_AddZOmega at h; refine SO Try.func73 rfl Try.ntmps73 fun C hN hρ => ?_; simp only [st0, tmps0, Nat.zero_add, Nat.reduceAdd]; refine AN hN ?_; refine AW_seq ?_; refine AJ (fun S => ∃ (v1 : Bool), S = ⟨mkT [(2, .ptr 32 0), (3, .ptr 33 0), (4, .ptr 34 0), (13, .bool v1)], mkR [(32, .box 43 [.int .i64 a1, .int .i64 a2, .int .i64 a3, .int .i64 a4]), (33, .box 43 [.int .i64 a5, .int .i64 a6, .int .i64 a7, .int .i64 a8]), (34, .box 43 [.int .i64 0, .int .i64 0, .int .i64 0, .int .i64 0])], 64⟩ ∧ s_AddZOmega_j1 a1 a2 a3 a4 a5 a6 a7 a8 v1 = some r) hN ?_ ?_
 ·intro K hK; obtain ⟨x1, h1, h⟩ := bO_inv h; simp only [EV, seval]; refine CP (s_IsValidZOmega_ok h1) ?_; obtain ⟨x3, hv1, h⟩ := bO_inv h; rcases br_inv hv1 with ⟨hc1, hv1⟩ | ⟨hc1, hv1⟩
  ·cases hv1; simp only [EV, seval, hc1]; refine hK _ _ _ (show cutK _ _ _ from cutL ⟨_, rfl, h⟩ (Le_can [(32, some 64), (33, some 80), (34, some 96)] [] hρ (by kernel_rfl) ?_ ?_))
   ·simp only [AL, EV, seval, hc1]
   ·simp only [AL, EV, seval, hc1]
  ·obtain ⟨x4, h3, hv1⟩ := bO_inv hv1; simp only [EV, seval, hc1]; refine rC_p (s_IsValidZOmega_ok h3) (by simp only [AL, EV, seval, hc1]) (le_d rfl) (no_j rfl) ?_; cases hv1; simp only [EV, seval, hc1]; refine hK _ _ _ (show cutK _ _ _ from cutL ⟨_, rfl, h⟩ (Le_can [(32, some 64), (33, some 80), (34, some 96)] [] hρ (by kernel_rfl) ?_ ?_))
   ·simp only [AL, EV, seval, hc1]
   ·simp only [AL, EV, seval, hc1]
 ·rintro S ⟨v1, rfl, h⟩; unfold s_AddZOmega_j1 at h; refine AB h (fun hc2 h => ?_) fun hc2 h => ?_
  ·refine AN hN ?_; injection h with h; subst h; exact AX (b' := 64) [(4, .ptr 32 0), (5, .bool false)] [(32, .box 43 [.int .i64 0, .int .i64 0, .int .i64 0, .int .i64 0])] [(32, some 34)] [] hρ (EQ [])
  ·refine AW_skip (AK ?_); obtain ⟨x5, h4, h⟩ := bO_inv h; refine AP hN (s_l2If_ok h4) ?_; injection h with h; subst h; exact AX (b' := 64) [(4, .ptr 32 0), (5, .bool x5.2.2.2.2)] [(32, .box 43 [.int .i64 x5.1, .int .i64 x5.2.1, .int .i64 x5.2.2.1, .int .i64 x5.2.2.2.1])] [(32, some 34)] [] hρ (EQ [])
/- spec.l3Up -/
def s_l3Up_j1 (v11 v12 v13 v14 : Int) : Option (Int × Int × Int × Int × Bool) :=
  some (v11, v12, v13, v14, true)
def s_l3Up_l1 (a5 : Int) : Nat → Int → Int → Int → Int → Int → Option (Int × Int × Int × Int × Bool)
  | 0, _, _, _, _, _ => none
  | n1 + 1, v6, v7, v8, v9, v10 =>
  br (decide (v6 < a5)) (bO (s_MulZOmega v7 v8 v9 v10 0 1 0 (-1)) fun x3 => br (!x3.2.2.2.2) (some (0, 0, 0, 0, false)) ((s_l3Up_l1 a5 n1) (IntKind.wrap .i64 (v6 + 1)) x3.1 x3.2.1 x3.2.2.1 x3.2.2.2.1)) (s_l3Up_j1 v7 v8 v9 v10)
def s_l3Up (a1 a2 a3 a4 a5 : Int) : Option (Int × Int × Int × Int × Bool) :=
  s_l3Up_l1 a5 FU 0 a1 a2 a3 a4
theorem s_l3Up_ok {a1 a2 a3 a4 a5 : Int} {r : Int × Int × Int × Int × Bool} (h : s_l3Up a1 a2 a3 a4 a5 = some r) :
    Spec Try.prog 72 [.agg [.int .i64 a1, .int .i64 a2, .int .i64 a3, .int .i64 a4], .int .i64 a5] [] (.tup [.agg [.int .i64 r.1, .int .i64 r.2.1, .int .i64 r.2.2.1, .int .i64 r.2.2.2.1], .bool r.2.2.2.2]) [] := by
 unfold s_l3Up at h; refine SO Try.func72 rfl Try.ntmps72 fun C hN hρ => ?_; simp only [st0, tmps0, Nat.zero_add, Nat.reduceAdd]; refine AN hN ?_; refine AW_cutK (fun S => ∃ (v11 v12 v13 v14 : Int), S = ⟨mkT [(2, .ptr 32 0), (4, .ptr 33 0)], mkR [(32, .box 43 [.int .i64 v11, .int .i64 v12, .int .i64 v13, .int .i64 v14]), (33, .box 43 [.int .i64 0, .int .i64 0, .int .i64 0, .int .i64 0])], 64⟩ ∧ s_l3Up_j1 v11 v12 v13 v14 = some r) ?_ ?_
 ·refine AN hN ?_; refine AW_block ?_; refine AW_loopF (fun n S => ∃ (v6 v7 v8 v9 v10 : Int), S = ⟨mkT [(1, .int .i64 a5), (2, .ptr 32 0), (4, .ptr 33 0), (6, .int .i64 v6)], mkR [(32, .box 43 [.int .i64 v7, .int .i64 v8, .int .i64 v9, .int .i64 v10]), (33, .box 43 [.int .i64 0, .int .i64 0, .int .i64 0, .int .i64 0])], 64⟩ ∧ s_l3Up_l1 a5 n v6 v7 v8 v9 v10 = some r) FU ?_ ?_ ?_
  ·exact AC ⟨_, _, _, _, _, rfl, h⟩ [(32, some 64), (33, some 80)] [] hρ
  ·rintro S ⟨_, _, _, _, _, _, h⟩; rw [s_l3Up_l1] at h; cases h
  ·rintro n1 S ⟨v6, v7, v8, v9, v10, rfl, h⟩; rw [s_l3Up_l1] at h; refine AW_seq ?_; refine AN hN ?_; refine AB h (fun hc5 h => ?_) fun hc5 h => ?_
   ·refine AW_skip (AK ?_); refine AW_seq ?_; refine AW_block ?_; obtain ⟨x3, h3, h⟩ := bO_inv h; refine AP hN (s_MulZOmega_ok h3) ?_; refine AW_seq ?_; refine AN hN ?_; refine AB h (fun hc6 h => ?_) fun hc6 h => ?_
    ·refine AN hN ?_; injection h with h; subst h; exact AX (b' := 64) [(4, .ptr 32 0), (5, .bool false)] [(32, .box 43 [.int .i64 0, .int .i64 0, .int .i64 0, .int .i64 0])] [(32, some 33)] [] hρ (EQ [])
    ·refine AW_skip (AK ?_); refine AS hN fun K hK => ?_; simp only [EV, seval]; refine hK _ _ _ (show AW _ _ _ _ _ from ?_); refine AS hN fun K hK => ?_; simp only [EV, seval]; exact hK _ _ _ (AC ⟨_, _, _, _, _, rfl, h⟩ [(32, some 32), (33, some 33)] [] hρ)
   ·exact AW_exit (AC ⟨_, _, _, _, rfl, h⟩ [(32, some 32), (33, some 33)] [] hρ)
 ·rintro S ⟨v11, v12, v13, v14, rfl, h⟩; unfold s_l3Up_j1 at h; refine AN hN ?_; injection h with h; subst h; exact AX (b' := 64) [(4, .ptr 32 0), (5, .bool true)] [(32, .box 43 [.int .i64 v11, .int .i64 v12, .int .i64 v13, .int .i64 v14])] [(32, some 33)] [] hρ (EQ [])
/- spec.AddDOmega -/
def s_AddDOmega_j2 (x5 : Int) (x8 : Int × Int × Int × Int × Bool) (v2 : Bool) : Option (Int × Int × Int × Int × Int × Bool) :=
  br v2 (some (0, 0, 0, 0, 0, false)) (bO (s_NewDOmega x8.1 x8.2.1 x8.2.2.1 x8.2.2.2.1 x5) fun x13 => some (x13.1, x13.2.1, x13.2.2.1, x13.2.2.2.1, x13.2.2.2.2.1, x13.2.2.2.2.2))
def s_AddDOmega_j1 (a1 a2 a3 a4 a5 a6 a7 a8 a9 a10 : Int) (v1 : Bool) : Option (Int × Int × Int × Int × Int × Bool) :=
  br v1 (some (0, 0, 0, 0, 0, false)) (bO (s_l1Max a5 a10) fun x5 => bO (s_l3Up a1 a2 a3 a4 (IntKind.wrap .i64 (x5 - a5))) fun x6 => bO (s_l3Up a6 a7 a8 a9 (IntKind.wrap .i64 (x5 - a10))) fun x7 => bO (s_AddZOmega x6.1 x6.2.1 x6.2.2.1 x6.2.2.2.1 x7.1 x7.2.1 x7.2.2.1 x7.2.2.2.1) fun x8 => bO (br (!x6.2.2.2.2) (some true) (some (!x7.2.2.2.2))) fun x9 => bO (br x9 (some true) (some (!x8.2.2.2.2))) fun x10 => s_AddDOmega_j2 x5 x8 x10)
def s_AddDOmega (a1 a2 a3 a4 a5 a6 a7 a8 a9 a10 : Int) : Option (Int × Int × Int × Int × Int × Bool) :=
  bO (s_IsValidDOmega a1 a2 a3 a4 a5) fun x1 => bO (br (!x1) (some true) (bO (s_IsValidDOmega a6 a7 a8 a9 a10) fun x2 => some (!x2))) fun x3 => s_AddDOmega_j1 a1 a2 a3 a4 a5 a6 a7 a8 a9 a10 x3
theorem s_AddDOmega_ok {a1 a2 a3 a4 a5 a6 a7 a8 a9 a10 : Int} {r : Int × Int × Int × Int × Int × Bool} (h : s_AddDOmega a1 a2 a3 a4 a5 a6 a7 a8 a9 a10 = some r) :
    Spec Try.prog 66 [.agg [.int .i64 a1, .int .i64 a2, .int .i64 a3, .int .i64 a4, .int .i64 a5], .agg [.int .i64 a6, .int .i64 a7, .int .i64 a8, .int .i64 a9, .int .i64 a10]] [] (.tup [.agg [.int .i64 r.1, .int .i64 r.2.1, .int .i64 r.2.2.1, .int .i64 r.2.2.2.1, .int .i64 r.2.2.2.2.1], .bool r.2.2.2.2.2]) [] := by
 unfold s_AddDOmega at h; refine SO Try.func66 rfl Try.ntmps66 fun C hN hρ => ?_; simp only [st0, tmps0, Nat.zero_add, Nat.reduceAdd]; refine AN hN ?_; refine AW_seq ?_; refine AJ (fun S => ∃ (v1 : Bool), S = ⟨mkT [(2, .ptr 32 0), (3, .ptr 33 0), (4, .ptr 34 0), (20, .bool v1)], mkR [(32, .box 45 [.int .i64 a1, .int .i64 a2, .int .i64 a3, .int .i64 a4, .int .i64 a5]), (33, .box 45 [.int .i64 a6, .int .i64 a7, .int .i64 a8, .int .i64 a9, .int .i64 a10]), (34, .box 45 [.int .i64 0, .int .i64 0, .int .i64 0, .int .i64 0, .int .i64 0])], 64⟩ ∧ s_AddDOmega_j1 a1 a2 a3 a4 a5 a6 a7 a8 a9 a10 v1 = some r) hN ?_ ?_
 ·intro K hK; obtain ⟨x1, h1, h⟩ := bO_inv h; simp only [EV, seval]; refine CP (s_IsValidDOmega_ok h1) ?_; obtain ⟨x3, hv1, h⟩ := bO_inv h; rcases br_inv hv1 with ⟨hc1, hv1⟩ | ⟨hc1, hv1⟩
  ·cases hv1; simp only [EV, seval, hc1]; refine hK _ _ _ (show cutK _ _ _ from cutL ⟨_, rfl, h⟩ (Le_can [(32, some 64), (33, some 80), (34, some 96)] [] hρ (by kernel_rfl) ?_ ?_))
   ·simp only [AL, EV, seval, hc1]
   ·simp only [AL, EV, seval, hc1]
  ·obtain ⟨x4, h3, hv1⟩ := bO_inv hv1; simp only [EV, seval, hc1]; refine rC_p (s_IsValidDOmega_ok h3) (by simp only [AL, EV, seval, hc1]) (le_d rfl) (no_j rfl) ?_; cases hv1; simp only [EV, seval, hc1]; refine hK _ _ _ (show cutK _ _ _ from cutL ⟨_, rfl, h⟩ (Le_can [(32, some 64), (33, some 80), (34, some 96)] [] hρ (by kernel_rfl) ?_ ?_))
   ·simp only [AL, EV, seval, hc1]
   ·simp only [AL, EV, seval, hc1]
 ·rintro S ⟨v1, rfl, h⟩; unfold s_AddDOmega_j1 at h; refine AB h (fun hc2 h => ?_) fun hc2 h => ?_
  ·refine AN hN ?_; injection h with h; subst h; exact AX (b' := 64) [(4, .ptr 32 0), (5, .bool false)] [(32, .box 45 [.int .i64 0, .int .i64 0, .int .i64 0, .int .i64 0, .int .i64 0])] [(32, some 34)] [] hρ (EQ [])
  ·refine AW_skip (AK ?_); obtain ⟨x5, h4, h⟩ := bO_inv h; refine AP hN (s_l1Max_ok h4) ?_; obtain ⟨x6, h5, h⟩ := bO_inv h; refine AP hN (s_l3Up_ok h5) ?_; obtain ⟨x7, h6, h⟩ := bO_inv h; refine AP hN (s_l3Up_ok h6) ?_; obtain ⟨x8, h7, h⟩ := bO_inv h; refine AP hN (s_AddZOmega_ok h7) ?_; refine AW_seq ?_; refine AJ (fun S => ∃ (v2 : Bool), S = ⟨mkT [(4, .ptr 32 0), (6, .int .i64 x5), (11, .ptr 33 0), (62, .bool v2)], mkR [(32, .box 45 [.int .i64 0, .int .i64 0, .int .i64 0, .int .i64 0, .int .i64 0]), (33, .box 43 [.int .i64 x8.1, .int .i64 x8.2.1, .int .i64 x8.2.2.1, .int .i64 x8.2.2.2.1])], 64⟩ ∧ s_AddDOmega_j2 x5 x8 v2 = some r) hN ?_ ?_
   ·intro K hK; obtain ⟨x9, hv2, h⟩ := bO_inv h; rcases br_inv hv2 with ⟨hc3, hv2⟩ | ⟨hc3, hv2⟩
    ·cases hv2; obtain ⟨x11, hv4, h⟩ := bO_inv h; replace hv4 := br_t hv4; cases hv4; (try dsimp only at h); simp only [EV, seval, hc3]; refine hK _ _ _ (show cutK _ _ _ from cutL ⟨_, rfl, h⟩ (Le_can [(32, some 34), (33, some 3232)] [] hρ (by kernel_rfl) ?_ ?_))
     ·simp only [AL, EV, seval, hc3]
     ·simp only [AL, EV, seval, hc3]
    ·cases hv2; obtain ⟨x12, hv5, h⟩ := bO_inv h; rcases br_inv hv5 with ⟨hc5, hv5⟩ | ⟨hc5, hv5⟩
     ·cases hv5; simp only [EV, seval, hc3, hc5]; refine hK _ _ _ (show cutK _ _ _ from cutL ⟨_, rfl, h⟩ (Le_can [(32, some 34), (33, some 3232)] [] hρ (by kernel_rfl) ?_ ?_))
      ·simp only [AL, EV, seval, hc3, hc5]
      ·simp only [AL, EV, seval, hc3, hc5]
     ·cases hv5; simp only [EV, seval, hc3, hc5]; refine hK _ _ _ (show cutK _ _ _ from cutL ⟨_, rfl, h⟩ (Le_can [(32, some 34), (33, some 3232)] [] hρ (by kernel_rfl) ?_ ?_))
      ·simp only [AL, EV, seval, hc3, hc5]
      ·simp only [AL, EV, seval, hc3, hc5]
   ·rintro S ⟨v2, rfl, h⟩; unfold s_AddDOmega_j2 at h; refine AB h (fun hc6 h => ?_) fun hc6 h => ?_
    ·refine AN hN ?_; injection h with h; subst h; exact AX (b' := 64) [(4, .ptr 32 0), (5, .bool false)] [(32, .box 45 [.int .i64 0, .int .i64 0, .int .i64 0, .int .i64 0, .int .i64 0])] [(32, some 32)] [] hρ (EQ [])
    ·refine AW_skip (AK ?_); obtain ⟨x13, h8, h⟩ := bO_inv h; refine AP hN (s_NewDOmega_ok h8) ?_; injection h with h; subst h; exact AX (b' := 64) [(4, .ptr 32 0), (5, .bool x13.2.2.2.2.2)] [(32, .box 45 [.int .i64 x13.1, .int .i64 x13.2.1, .int .i64 x13.2.2.1, .int .i64 x13.2.2.2.1, .int .i64 x13.2.2.2.2.1])] [(32, some 32)] [] hρ (EQ [])
/- impl.MulDOmega -/
def i_MulDOmega_j1 (a1 a2 a3 a4 a5 a6 a7 a8 a9 a10 : Int) (v1 : Bool) : Option (Int × Int × Int × Int × Int × Bool) :=
  br v1 (some (0, 0, 0, 0, 0, false)) (bO (i_MulZOmega a1 a2 a3 a4 a6 a7 a8 a9) fun x5 => br (!x5.2.2.2.2) (some (0, 0, 0, 0, 0, false)) (bO (i_NewDOmega x5.1 x5.2.1 x5.2.2.1 x5.2.2.2.1 (IntKind.wrap .i64 (a5 + a10))) fun x6 => some (x6.1, x6.2.1, x6.2.2.1, x6.2.2.2.1, x6.2.2.2.2.1, x6.2.2.2.2.2)))
def i_MulDOmega (a1 a2 a3 a4 a5 a6 a7 a8 a9 a10 : Int) : Option (Int × Int × Int × Int × Int × Bool) :=
  bO (i_IsValidDOmega a1 a2 a3 a4 a5) fun x1 => bO (br (!x1) (some true) (bO (i_IsValidDOmega a6 a7 a8 a9 a10) fun x2 => some (!x2))) fun x3 => i_MulDOmega_j1 a1 a2 a3 a4 a5 a6 a7 a8 a9 a10 x3
theorem i_MulDOmega_ok {a1 a2 a3 a4 a5 a6 a7 a8 a9 a10 : Int} {r : Int × Int × Int × Int × Int × Bool} (h : i_MulDOmega a1 a2 a3 a4 a5 a6 a7 a8 a9 a10 = some r) :
    Spec Try.prog 25 [.agg [.int .i64 a1, .int .i64 a2, .int .i64 a3, .int .i64 a4, .int .i64 a5], .agg [.int .i64 a6, .int .i64 a7, .int .i64 a8, .int .i64 a9, .int .i64 a10]] [] (.tup [.agg [.int .i64 r.1, .int .i64 r.2.1, .int .i64 r.2.2.1, .int .i64 r.2.2.2.1, .int .i64 r.2.2.2.2.1], .bool r.2.2.2.2.2]) [] := by
 unfold i_MulDOmega at h; refine SO Try.func25 rfl Try.ntmps25 fun C hN hρ => ?_; simp only [st0, tmps0, Nat.zero_add, Nat.reduceAdd]; refine AN hN ?_; refine AW_seq ?_; refine AJ (fun S => ∃ (v1 : Bool), S = ⟨mkT [(2, .ptr 32 0), (3, .ptr 33 0), (4, .ptr 34 0), (17, .bool v1)], mkR [(32, .box 45 [.int .i64 a1, .int .i64 a2, .int .i64 a3, .int .i64 a4, .int .i64 a5]), (33, .box 45 [.int .i64 a6, .int .i64 a7, .int .i64 a8, .int .i64 a9, .int .i64 a10]), (34, .box 45 [.int .i64 0, .int .i64 0, .int .i64 0, .int .i64 0, .int .i64 0])], 64⟩ ∧ i_MulDOmega_j1 a1 a2 a3 a4 a5 a6 a7 a8 a9 a10 v1 = some r) hN ?_ ?_
 ·intro K hK; obtain ⟨x1, h1, h⟩ := bO_inv h; simp only [EV, seval]; refine CP (i_IsValidDOmega_ok h1) ?_; obtain ⟨x3, hv1, h⟩ := bO_inv h; rcases br_inv hv1 with ⟨hc1, hv1⟩ | ⟨hc1, hv1⟩
  ·cases hv1; simp only [EV, seval, hc1]; refine hK _ _ _ (show cutK _ _ _ from cutL ⟨_, rfl, h⟩ (Le_can [(32, some 64), (33, some 80), (34, some 96)] [] hρ (by kernel_rfl) ?_ ?_))
   ·simp only [AL, EV, seval, hc1]
   ·simp only [AL, EV, seval, hc1]
  ·obtain ⟨x4, h3, hv1⟩ := bO_inv hv1; simp only [EV, seval, hc1]; refine rC_p (i_IsValidDOmega_ok h3) (by simp only [AL, EV, seval, hc1]) (le_d rfl) (no_j rfl) ?_; cases hv1; simp only [EV, seval, hc1]; refine hK _ _ _ (show cutK _ _ _ from cutL ⟨_, rfl, h⟩ (Le_can [(32, some 64), (33, some 80), (34, some 96)] [] hρ (by kernel_rfl) ?_ ?_))
   ·simp only [AL, EV, seval, hc1]
   ·simp only [AL, EV, seval, hc1]
 ·rintro S ⟨v1, rfl, h⟩; unfold i_MulDOmega_j1 at h; refine AB h (fun hc2 h => ?_) fun hc2 h => ?_
  ·refine AN hN ?_; injection h with h; subst h; exact AX (b' := 64) [(4, .ptr 32 0), (5, .bool false)] [(32, .box 45 [.int .i64 0, .int .i64 0, .int .i64 0, .int .i64 0, .int .i64 0])] [(32, some 34)] [] hρ (EQ [])
  ·refine AW_skip (AK ?_); obtain ⟨x5, h4, h⟩ := bO_inv h; refine AP hN (i_MulZOmega_ok h4) ?_; refine AW_seq ?_; refine AN hN ?_; refine AB h (fun hc3 h => ?_) fun hc3 h => ?_
   ·refine AN hN ?_; injection h with h; subst h; exact AX (b' := 64) [(4, .ptr 32 0), (5, .bool false)] [(32, .box 45 [.int .i64 0, .int .i64 0, .int .i64 0, .int .i64 0, .int .i64 0])] [(32, some 34)] [] hρ (EQ [])
   ·refine AW_skip (AK ?_); obtain ⟨x6, h5, h⟩ := bO_inv h; refine AP hN (i_NewDOmega_ok h5) ?_; refine AN hN ?_; injection h with h; subst h; exact AX (b' := 64) [(4, .ptr 32 0), (5, .bool x6.2.2.2.2.2)] [(32, .box 45 [.int .i64 x6.1, .int .i64 x6.2.1, .int .i64 x6.2.2.1, .int .i64 x6.2.2.2.1, .int .i64 x6.2.2.2.2.1])] [(32, some 34)] [] hρ (EQ [])
/- spec.MulDOmega -/
def s_MulDOmega_j1 (a5 a10 : Int) (x1 : Int × Int × Int × Int × Bool) (v1 : Bool) : Option (Int × Int × Int × Int × Int × Bool) :=
  br v1 (some (0, 0, 0, 0, 0, false)) (bO (s_NewDOmega x1.1 x1.2.1 x1.2.2.1 x1.2.2.2.1 (IntKind.wrap .i64 (a5 + a10))) fun x9 => some (x9.1, x9.2.1, x9.2.2.1, x9.2.2.2.1, x9.2.2.2.2.1, x9.2.2.2.2.2))
def s_MulDOmega (a1 a2 a3 a4 a5 a6 a7 a8 a9 a10 : Int) : Option (Int × Int × Int × Int × Int × Bool) :=
  bO (s_MulZOmega a1 a2 a3 a4 a6 a7 a8 a9) fun x1 => bO (s_IsValidDOmega a1 a2 a3 a4 a5) fun x2 => bO (br (!x2) (some true) (bO (s_IsValidDOmega a6 a7 a8 a9 a10) fun x3 => some (!x3))) fun x4 => bO (br x4 (some true) (some (!x1.2.2.2.2))) fun x5 => s_MulDOmega_j1 a5 a10 x1 x5
theorem s_MulDOmega_ok {a1 a2 a3 a4 a5 a6 a7 a8 a9 a10 : Int} {r : Int × Int × Int × Int × Int × Bool} (h : s_MulDOmega a1 a2 a3 a4 a5 a6 a7 a8 a9 a10 = some r) :
    Spec Try.prog 23 [.agg [.int .i64 a1, .int .i64 a2, .int .i64 a3, .int .i64 a4, .int .i64 a5], .agg [.int .i64 a6, .int .i64 a7, .int .i64 a8, .int .i64 a9, .int .i64 a10]] [] (.tup [.agg [.int .i64 r.1, .int .i64 r.2.1, .int .i64 r.2.2.1, .int .i64 r.2.2.2.1, .int .i64 r.2.2.2.2.1], .bool r.2.2.2.2.2]) [] := by
 unfold s_MulDOmega at h; refine SO Try.func23 rfl Try.ntmps23 fun C hN hρ => ?_; simp only [st0, tmps0, Nat.zero_add, Nat.reduceAdd]; refine AN hN ?_; obtain ⟨x1, h1, h⟩ := bO_inv h; refine AP hN (s_MulZOmega_ok h1) ?_; refine AW_seq ?_; refine AJ (fun S => ∃ (v1 : Bool), S = ⟨mkT [(2, .ptr 32 0), (3, .ptr 33 0), (4, .ptr 34 0), (6, .ptr 35 0), (27, .bool v1)], mkR [(32, .box 45 [.int .i64 a1, .int .i64 a2, .int .i64 a3, .int .i64 a4, .int .i64 a5]), (33, .box 45 [.int .i64 a6, .int .i64 a7, .int .i64 a8, .int .i64 a9, .int .i64 a10]), (34, .box 45 [.int .i64 0, .int .i64 0, .int .i64 0, .int .i64 0, .int .i64 0]), (35, .box 43 [.int .i64 x1.1, .int .i64 x1.2.1, .int .i64 x1.2.2.1, .int .i64 x1.2.2.2.1])], 64⟩ ∧ s_MulDOmega_j1 a5 a10 x1 v1 = some r) hN ?_ ?_
 ·intro K hK; obtain ⟨x2, h2, h⟩ := bO_inv h; simp only [EV, seval]; refine CP (s_IsValidDOmega_ok h2) ?_; obtain ⟨x4, hv1, h⟩ := bO_inv h; rcases br_inv hv1 with ⟨hc1, hv1⟩ | ⟨hc1, hv1⟩
  ·cases hv1; obtain ⟨x6, hv3, h⟩ := bO_inv h; replace hv3 := br_t hv3; cases hv3; (try dsimp only at h); simp only [EV, seval, hc1]; refine hK _ _ _ (show cutK _ _ _ from cutL ⟨_, rfl, h⟩ (Le_can [(32, some 64), (33, some 80), (34, some 96), (35, some 1216)] [] hρ (by kernel_rfl) ?_ ?_))
   ·simp only [AL, EV, seval, hc1]
   ·simp only [AL, EV, seval, hc1]
  ·obtain ⟨x7, h4, hv1⟩ := bO_inv hv1; simp only [EV, seval, hc1]; refine rC_p (s_IsValidDOmega_ok h4) (by simp only [AL, EV, seval, hc1]) (le_d rfl) (no_j rfl) ?_; cases hv1; obtain ⟨x8, hv4, h⟩ := bO_inv h; rcases br_inv hv4 with ⟨hc3, hv4⟩ | ⟨hc3, hv4⟩
   ·cases hv4; simp only [EV, seval, hc1, hc3]; refine hK _ _ _ (show cutK _ _ _ from cutL ⟨_, rfl, h⟩ (Le_can [(32, some 64), (33, some 80), (34, some 96), (35, some 1216)] [] hρ (by kernel_rfl) ?_ ?_))
    ·simp only [AL, EV, seval, hc1, hc3]
    ·simp only [AL, EV, seval, hc1, hc3]
   ·cases hv4; simp only [EV, seval, hc1, hc3]; refine hK _ _ _ (show cutK _ _ _ from cutL ⟨_, rfl, h⟩ (Le_can [(32, some 64), (33, some 80), (34, some 96), (35, some 1216)] [] hρ (by kernel_rfl) ?_ ?_))
    ·simp only [AL, EV, seval, hc1, hc3]
    ·simp only [AL, EV, seval, hc1, hc3]
 ·rintro S ⟨v1, rfl, h⟩; unfold s_MulDOmega_j1 at h; refine AB h (fun hc4 h => ?_) fun hc4 h => ?_
  ·refine AN hN ?_; injection h with h; subst h; exact AX (b' := 64) [(4, .ptr 32 0), (5, .bool false)] [(32, .box 45 [.int .i64 0, .int .i64 0, .int .i64 0, .int .i64 0, .int .i64 0])] [(32, some 34)] [] hρ (EQ [])
  ·refine AW_skip (AK ?_); obtain ⟨x9, h5, h⟩ := bO_inv h; refine AP hN (s_NewDOmega_ok h5) ?_; injection h with h; subst h; exact AX (b' := 64) [(4, .ptr 32 0), (5, .bool x9.2.2.2.2.2)] [(32, .box 45 [.int .i64 x9.1, .int .i64 x9.2.1, .int .i64 x9.2.2.1, .int .i64 x9.2.2.2.1, .int .i64 x9.2.2.2.2.1])] [(32, some 34)] [] hρ (EQ [])
end Go.Proofs.Ytfjopjalhllplaa
/- Models of functions, and that the functions do what the models say; printed by a program. -/
namespace Go.Proofs.Ytfjopjalhllplaa
open Go.RowKit
set_option maxRecDepth 100000
set_option linter.unusedVariables false
set_option linter.unusedSimpArgs false
set_option linter.defProp false
set_option maxHeartbeats 4000000
/- spec.QubitCount -/
def s_QubitCount_j1 : Option Int :=
  some 0
def s_QubitCount_l1 (a1 : LF) : Nat → Int → Option Int
  | 0, _ => none
  | n1 + 1, v2 =>
  br (decide (v2 ≤ 4)) (gd (decide (¬ (IntKind.wrap .u64 v2) < 0)) (br (((a1.length : Int)) == (IntKind.wrap .i64 (1 * 2 ^ min (Int.toNat (IntKind.wrap .u64 v2)) (IntKind.bits .i64)))) (some v2) ((s_QubitCount_l1 a1 n1) (IntKind.wrap .i64 (v2 + 1))))) (s_QubitCount_j1)
def s_QubitCount (a1 : LF) : Option Int :=
  s_QubitCount_l1 a1 FU 1
theorem s_QubitCount_ok {a1 : LF} {r : Int} (h : s_QubitCount a1 = some r) :
    Spec Try.prog 34 [.sl (encL EIIIII a1) a1.length] [] (.int .i64 r) [] := by
 unfold s_QubitCount at h; refine SO Try.func34 rfl Try.ntmps34 fun C hN hρ => ?_; simp only [st0, tmps0, Nat.zero_add, Nat.reduceAdd]; refine AN hN ?_; refine AW_cutK (fun S => S = ⟨mkT [], mkR [], 64⟩ ∧ s_QubitCount_j1 = some r) ?_ ?_
 ·refine AN hN ?_; refine AW_block ?_; refine AW_loopF (fun n S => ∃ (v2 : Int), S = ⟨mkT [(0, .sl (encL EIIIII a1) a1.length), (3, .int .i64 v2)], mkR [], 64⟩ ∧ s_QubitCount_l1 a1 n v2 = some r) FU ?_ ?_ ?_
  ·exact AC ⟨_, rfl, h⟩ [] [] hρ
  ·rintro S ⟨_, _, h⟩; rw [s_QubitCount_l1] at h; cases h
  ·rintro n1 S ⟨v2, rfl, h⟩; rw [s_QubitCount_l1] at h; refine AW_seq ?_; refine AN hN ?_; refine AB h (fun hc5 h => ?_) fun hc5 h => ?_
   ·refine AW_skip (AK ?_); refine AW_seq ?_; refine AW_block ?_; refine AR hN fun K hK => ?_; obtain ⟨h3, h⟩ := gd_inv h; replace h3 := of_decide_eq_true h3; simp only [EV, seval, h3]; refine hK _ _ _ ?_; clear hK K; refine AW_condK (a := .bool (((a1.length : Int)) == (IntKind.wrap .i64 (1 * 2 ^ min (Int.toNat (IntKind.wrap .u64 v2)) (IntKind.bits .i64))))) (by simp only [EV, seval, h3]) (brK h (fun hc6 h => ?_) (fun hc6 h => ?_))
    ·refine AN hN ?_; injection h with h; subst h; exact AX (b' := 64) [(2, .int .i64 v2)] [] [] [] hρ (EQ [])
    ·refine AW_skip (AK ?_); refine AS hN fun K hK => ?_; simp only [EV, seval]; exact hK _ _ _ (AC ⟨_, rfl, h⟩ [] [] hρ)
   ·exact AW_exit (AC ⟨rfl, h⟩ [] [] hρ)
 ·rintro S ⟨rfl, h⟩; unfold s_QubitCount_j1 at h; refine AN hN ?_; injection h with h; subst h; exact AX (b' := 64) [(2, .int .i64 0)] [] [] [] hρ (EQ [])
/- spec.IsValidState -/
def s_IsValidState_j1 (a1 : LF) : Option Bool :=
  bO (s_QubitCount a1) fun x4 => some (decide (0 < x4))
def s_IsValidState_l1 (a1 : LF) : Nat → Int → Option Bool
  | 0, _ => none
  | n1 + 1, v2 =>
  br (decide (v2 < ((a1.length : Int)))) (bO (geti a1 v2) fun q3 => bO (s_IsValidDOmega q3.1 q3.2.1 q3.2.2.1 q3.2.2.2.1 q3.2.2.2.2) fun x3 => br (!x3) (some false) ((s_IsValidState_l1 a1 n1) (IntKind.wrap .i64 (v2 + 1)))) (s_IsValidState_j1 a1)
def s_IsValidState (a1 : LF) : Option Bool :=
  s_IsValidState_l1 a1 FU 0
theorem s_IsValidState_ok {a1 : LF} {r : Bool} (h : s_IsValidState a1 = some r) :
    Spec Try.prog 24 [.sl (encL EIIIII a1) a1.length] [] (.bool r) [] := by
 unfold s_IsValidState at h; refine SO Try.func24 rfl Try.ntmps24 fun C hN hρ => ?_; simp only [st0, tmps0, Nat.zero_add, Nat.reduceAdd]; refine AN hN ?_; refine AW_cutK (fun S => S = ⟨mkT [(0, .sl (encL EIIIII a1) a1.length)], mkR [], 64⟩ ∧ s_IsValidState_j1 a1 = some r) ?_ ?_
 ·refine AN hN ?_; refine AW_block ?_; refine AW_loopF (fun n S => ∃ (v2 : Int), S = ⟨mkT [(0, .sl (encL EIIIII a1) a1.length), (3, .int .i64 v2)], mkR [], 64⟩ ∧ s_IsValidState_l1 a1 n v2 = some r) FU ?_ ?_ ?_
  ·exact AC ⟨_, rfl, h⟩ [] [] hρ
  ·rintro S ⟨_, _, h⟩; rw [s_IsValidState_l1] at h; cases h
  ·rintro n1 S ⟨v2, rfl, h⟩; rw [s_IsValidState_l1] at h; refine AW_seq ?_; refine AN hN ?_; refine AB h (fun hc5 h => ?_) fun hc5 h => ?_
   ·refine AW_skip (AK ?_); refine AW_seq ?_; refine AW_block ?_; refine AR hN fun K hK => ?_; obtain ⟨q3, h7, h⟩ := bO_inv h; obtain ⟨⟨h8a, h8b⟩, h8c⟩ := geti_E EIIIIIl h7; (try simp only [EV, seval] at h8c); obtain ⟨x3, h9, h⟩ := bO_inv h; simp only [EV, seval, h8a, h8b, h8c]; refine rC_p (s_IsValidDOmega_ok h9) (by simp only [AL, EV, seval, h8a, h8b, h8c]) (le_d rfl) (no_j rfl) ?_; simp only [EV, seval, h8a, h8b, h8c]; refine hK _ _ _ ?_; clear hK K; refine AW_condK (a := .bool (!x3)) (by simp only [EV, seval, h8a, h8b, h8c]) (brK h (fun hc6 h => ?_) (fun hc6 h => ?_))
    ·refine AN hN ?_; injection h with h; subst h; exact AX (b' := 64) [(2, .bool false)] [] [] [] hρ (EQ [])
    ·refine AW_skip (AK ?_); refine AS hN fun K hK => ?_; simp only [EV, seval]; exact hK _ _ _ (AC ⟨_, rfl, h⟩ [] [] hρ)
   ·exact AW_exit (AC ⟨rfl, h⟩ [] [] hρ)
 ·rintro S ⟨rfl, h⟩; unfold s_IsValidState_j1 at h; obtain ⟨x4, h10, h⟩ := bO_inv h; refine AP hN (s_QubitCount_ok h10) ?_; injection h with h; subst h; exact AX (b' := 64) [(2, .bool (decide (0 < x4)))] [] [] [] hρ (EQ [])
/- spec.ScaleState -/
def s_ScaleState_j4 (v6 : Int) (v7 : LF) (kl1 : Int → (LF) → Option (LF × Bool)) (x7 : Int × Int × Int × Int × Int × Bool) (v8 : Bool) : Option (LF × Bool) :=
  br v8 (some ([], false)) (gd (decide (v7.length + ([(x7.1, x7.2.1, x7.2.2.1, x7.2.2.2.1, x7.2.2.2.2.1)]).length ≤ 16777216)) (kl1 (IntKind.wrap .i64 (v6 + 1)) (v7 ++ ([(x7.1, x7.2.1, x7.2.2.1, x7.2.2.2.1, x7.2.2.2.2.1)]))))
def s_ScaleState_j1 (a1 : LF) (v9 : LF) : Option (LF × Bool) :=
  bO (s_IsValidState a1) fun x11 => some (v9, x11)
def s_ScaleState_l1 (a1 : LF) (a2 a3 a4 a5 a6 : Int) : Nat → Int → (LF) → Option (LF × Bool)
  | 0, _, _ => none
  | n1 + 1, v6, v7 =>
  br (decide (v6 < ((a1.length : Int)))) (bO (geti a1 v6) fun q3 => bO (s_MulDOmega q3.1 q3.2.1 q3.2.2.1 q3.2.2.2.1 q3.2.2.2.2 a2 a3 a4 a5 a6) fun x7 => bO (br (!x7.2.2.2.2.2) (some true) (bO (s_IsValidState a1) fun x8 => some (!x8))) fun x9 => s_ScaleState_j4 v6 v7 (s_ScaleState_l1 a1 a2 a3 a4 a5 a6 n1) x7 x9) (s_ScaleState_j1 a1 v7)
def s_ScaleState (a1 : LF) (a2 a3 a4 a5 a6 : Int) : Option (LF × Bool) :=
  s_ScaleState_l1 a1 a2 a3 a4 a5 a6 FU 0 ([] : LF)
theorem s_ScaleState_ok {a1 : LF} {a2 a3 a4 a5 a6 : Int} {r : LF × Bool} (h : s_ScaleState a1 a2 a3 a4 a5 a6 = some r) :
    Spec Try.prog 14 [.sl (encL EIIIII a1) a1.length, .agg [.int .i64 a2, .int .i64 a3, .int .i64 a4, .int .i64 a5, .int .i64 a6]] [] (.tup [.own 0 r.1.length, .bool r.2]) [.row 45 5 (encL EIIIII r.1)] := by
 unfold s_ScaleState at h; refine SO Try.func14 rfl Try.ntmps14 fun C hN hρ => ?_; simp only [st0, tmps0, Nat.zero_add, Nat.reduceAdd]; refine AN hN ?_; refine AN hN ?_; refine AW_cutK (fun S => ∃ (v9 : LF), S = ⟨mkT [(0, .sl (encL EIIIII a1) a1.length), (6, .own 32 v9.length)], mkR [(32, .row 45 5 (encL EIIIII v9))], 64⟩ ∧ s_ScaleState_j1 a1 v9 = some r) ?_ ?_
 ·refine AN hN ?_; refine AW_block ?_; refine AW_loopF (fun n S => ∃ (v6 : Int) (v7 : LF), S = ⟨mkT [(0, .sl (encL EIIIII a1) a1.length), (3, .ptr 32 0), (6, .own 33 v7.length), (7, .int .i64 v6)], mkR [(32, .box 45 [.int .i64 a2, .int .i64 a3, .int .i64 a4, .int .i64 a5, .int .i64 a6]), (33, .row 45 5 (encL EIIIII v7))], 64⟩ ∧ s_ScaleState_l1 a1 a2 a3 a4 a5 a6 n v6 v7 = some r) FU ?_ ?_ ?_
  ·exact AC ⟨_, _, rfl, h⟩ [(32, some 64), (33, some 1088)] [] hρ
  ·rintro S ⟨_, _, _, h⟩; rw [s_ScaleState_l1] at h; cases h
  ·rintro n1 S ⟨v6, v7, rfl, h⟩; rw [s_ScaleState_l1] at h; refine AW_seq ?_; refine AN hN ?_; refine AB h (fun hc7 h => ?_) fun hc7 h => ?_
   ·refine AW_skip (AK ?_); refine AW_seq ?_; refine AW_block ?_; refine AR hN fun K hK => ?_; obtain ⟨q3, h11, h⟩ := bO_inv h; obtain ⟨⟨h12a, h12b⟩, h12c⟩ := geti_E EIIIIIl h11; (try simp only [EV, seval] at h12c); obtain ⟨x7, h13, h⟩ := bO_inv h; simp only [EV, seval, h12a, h12b, h12c]; refine rC_p (s_MulDOmega_ok h13) (by simp only [AL, EV, seval, h12a, h12b, h12c]) (le_d rfl) (no_j rfl) ?_; simp only [EV, seval, h12a, h12b, h12c]; refine hK _ _ _ ?_; clear hK K; refine AW_seq ?_; refine AJ (fun S => ∃ (v8 : Bool), S = ⟨mkT [(0, .sl (encL EIIIII a1) a1.length), (3, .ptr 32 0), (6, .own 33 v7.length), (7, .int .i64 v6), (8, .ptr 34 0), (32, .bool v8)], mkR [(32, .box 45 [.int .i64 a2, .int .i64 a3, .int .i64 a4, .int .i64 a5, .int .i64 a6]), (33, .row 45 5 (encL EIIIII v7)), (34, .box 45 [.int .i64 x7.1, .int .i64 x7.2.1, .int .i64 x7.2.2.1, .int .i64 x7.2.2.2.1, .int .i64 x7.2.2.2.2.1])], 64⟩ ∧ s_ScaleState_j4 v6 v7 (s_ScaleState_l1 a1 a2 a3 a4 a5 a6 n1) x7 v8 = some r) hN ?_ ?_
    ·intro K hK; obtain ⟨x9, hv3, h⟩ := bO_inv h; rcases br_inv hv3 with ⟨hc8, hv3⟩ | ⟨hc8, hv3⟩
     ·cases hv3; simp only [EV, seval, hc8]; refine hK _ _ _ (show cutK _ _ _ from cutL ⟨_, rfl, h⟩ (Le_can [(32, some 32), (33, some 33), (34, some 1232)] [] hρ (by kernel_rfl) ?_ ?_))
      ·simp only [AL, EV, seval, hc8]
      ·simp only [AL, EV, seval, hc8]
     ·obtain ⟨x10, h15, hv3⟩ := bO_inv hv3; simp only [EV, seval, hc8]; refine rC_p (s_IsValidState_ok h15) (by simp only [AL, EV, seval, hc8]) (le_d rfl) (no_j rfl) ?_; cases hv3; simp only [EV, seval, hc8]; refine hK _ _ _ (show cutK _ _ _ from cutL ⟨_, rfl, h⟩ (Le_can [(32, some 32), (33, some 33), (34, some 1232)] [] hρ (by kernel_rfl) ?_ ?_))
      ·simp only [AL, EV, seval, hc8]
      ·simp only [AL, EV, seval, hc8]
    ·rintro S ⟨v8, rfl, h⟩; unfold s_ScaleState_j4 at h; refine AW_condK (a := .bool v8) (by simp only [EV, seval, h12a, h12b, h12c]) (brK h (fun hc9 h => ?_) (fun hc9 h => ?_))
     ·refine AN hN ?_; injection h with h; subst h; exact AX (b' := 64) [(4, .own 32 0), (5, .bool false)] [(32, .row 45 5 (encL EIIIII ([])))] [(32, some 64)] [] hρ (EQ [32])
     ·refine AW_skip (AK ?_); refine AS hN fun K hK => ?_; obtain ⟨h16, h⟩ := gd_inv h; replace h16 := of_decide_eq_true h16; (try simp only [EV, seval] at h16); simp only [EV, seval, h16]; refine hK _ _ _ (show AW _ _ _ _ _ from ?_); refine AS hN fun K hK => ?_; simp only [EV, seval]; exact hK _ _ _ (AC ⟨_, _, rfl, h⟩ [(32, some 32), (33, some 112)] [] hρ)
   ·exact AW_exit (AC ⟨_, rfl, h⟩ [(32, some 33)] [] hρ)
 ·rintro S ⟨v9, rfl, h⟩; unfold s_ScaleState_j1 at h; obtain ⟨x11, h17, h⟩ := bO_inv h; refine AP hN (s_IsValidState_ok h17) ?_; injection h with h; subst h; exact AX (b' := 64) [(4, .own 32 v9.length), (5, .bool x11)] [(32, .row 45 5 (encL EIIIII v9))] [(32, some 32)] [] hρ (EQ [32])
/- spec.InvSqrt2Power -/
def s_InvSqrt2Power (a1 : Int) : Option (Int × Int × Int × Int × Int) :=
  bO (s_l1In a1 0 60) fun x1 => br (!x1) (some (0, 0, 0, 0, 0)) (some (1, 0, 0, 0, a1))
theorem s_InvSqrt2Power_ok {a1 : Int} {r : Int × Int × Int × Int × Int} (h : s_InvSqrt2Power a1 = some r) :
    Spec Try.prog 69 [.int .i64 a1] [] (.agg [.int .i64 r.1, .int .i64 r.2.1, .int .i64 r.2.2.1, .int .i64 r.2.2.2.1, .int .i64 r.2.2.2.2]) [] := by
 unfold s_InvSqrt2Power at h; refine SO Try.func69 rfl Try.ntmps69 fun C hN hρ => ?_; simp only [st0, tmps0, Nat.zero_add, Nat.reduceAdd]; refine AN hN ?_; refine AW_seq ?_; obtain ⟨x1, h1, h⟩ := bO_inv h; refine AP hN (s_l1In_ok h1) ?_; refine AB h (fun hc1 h => ?_) fun hc1 h => ?_
 ·refine AN hN ?_; injection h with h; subst h; exact AX (b' := 64) [(2, .ptr 32 0)] [(32, .box 45 [.int .i64 0, .int .i64 0, .int .i64 0, .int .i64 0, .int .i64 0])] [(32, some 64)] [] hρ (EQ [])
 ·refine AW_skip (AK ?_); refine AN hN ?_; injection h with h; subst h; exact AX (b' := 64) [(2, .ptr 32 0)] [(32, .box 45 [.int .i64 1, .int .i64 0, .int .i64 0, .int .i64 0, .int .i64 a1])] [(32, some 64)] [] hρ (EQ [])
/- impl.PhaseFactor -/
def i_PhaseFactor_j2 (v3 v4 v5 v6 : Int) : Option (Int × Int × Int × Int × Int) :=
  some (v3, v4, v5, v6, 0)
def i_PhaseFactor_j1 (v1 v2 : Int) : Option (Int × Int × Int × Int × Int) :=
  br ((Int.tmod v1 4) == 0) (i_PhaseFactor_j2 v2 0 0 0) (br ((Int.tmod v1 4) == 1) (i_PhaseFactor_j2 0 v2 0 0) (br ((Int.tmod v1 4) == 2) (i_PhaseFactor_j2 0 0 v2 0) (br ((Int.tmod v1 4) == 3) (i_PhaseFactor_j2 0 0 0 v2) (i_PhaseFactor_j2 0 0 0 0))))
def i_PhaseFactor (a1 : Int) : Option (Int × Int × Int × Int × Int) :=
  br (decide (4 ≤ (Int.tmod (IntKind.wrap .i64 ((Int.tmod a1 8) + 8)) 8))) (i_PhaseFactor_j1 (Int.tmod (IntKind.wrap .i64 ((Int.tmod a1 8) + 8)) 8) (-1)) (i_PhaseFactor_j1 (Int.tmod (IntKind.wrap .i64 ((Int.tmod a1 8) + 8)) 8) 1)
theorem i_PhaseFactor_ok {a1 : Int} {r : Int × Int × Int × Int × Int} (h : i_PhaseFactor a1 = some r) :
    Spec Try.prog 26 [.int .i64 a1] [] (.agg [.int .i64 r.1, .int .i64 r.2.1, .int .i64 r.2.2.1, .int .i64 r.2.2.2.1, .int .i64 r.2.2.2.2]) [] := by
 unfold i_PhaseFactor at h; refine SO Try.func26 rfl Try.ntmps26 fun C hN hρ => ?_; simp only [st0, tmps0, Nat.zero_add, Nat.reduceAdd]; refine AN hN ?_; refine AN hN ?_; refine AN hN ?_; refine AW_cutK (fun S => ∃ (v1 v2 : Int), S = ⟨mkT [(2, .ptr 32 0), (3, .int .i64 v1), (4, .int .i64 v2)], mkR [(32, .box 45 [.int .i64 0, .int .i64 0, .int .i64 0, .int .i64 0, .int .i64 0])], 64⟩ ∧ i_PhaseFactor_j1 v1 v2 = some r) ?_ ?_
 ·refine AN hN ?_; refine AB h (fun hc1 h => ?_) fun hc1 h => ?_
  ·refine AS hN fun K hK => ?_; simp only [EV, seval]; exact hK _ _ _ (AC ⟨_, _, rfl, h⟩ [(32, some 64)] [] hρ)
  ·refine AW_skip (show cutK _ _ _ from cutL ⟨_, _, rfl, h⟩ (Le_can [(32, some 64)] [] hρ (by kernel_rfl) ?_ ?_))
   ·simp only [AL, EV, seval]
   ·simp only [AL, EV, seval]
 ·rintro S ⟨v1, v2, rfl, h⟩; unfold i_PhaseFactor_j1 at h; refine AN hN ?_; refine AW_cutK (fun S => ∃ (v3 v4 v5 v6 : Int), S = ⟨mkT [(2, .ptr 32 0), (5, .ptr 33 0)], mkR [(32, .box 45 [.int .i64 0, .int .i64 0, .int .i64 0, .int .i64 0, .int .i64 0]), (33, .box 43 [.int .i64 v3, .int .i64 v4, .int .i64 v5, .int .i64 v6])], 64⟩ ∧ i_PhaseFactor_j2 v3 v4 v5 v6 = some r) ?_ ?_
  ·refine AN hN ?_; refine AW_block ?_; refine AN hN ?_; refine AB h (fun hc2 h => ?_) fun hc2 h => ?_
   ·refine AS hN fun K hK => ?_; simp only [EV, seval]; exact hK _ _ _ (AC ⟨_, _, _, _, rfl, h⟩ [(32, some 32), (33, some 80)] [] hρ)
   ·refine AN hN ?_; refine AB h (fun hc3 h => ?_) fun hc3 h => ?_
    ·refine AS hN fun K hK => ?_; simp only [EV, seval]; exact hK _ _ _ (AC ⟨_, _, _, _, rfl, h⟩ [(32, some 32), (33, some 80)] [] hρ)
    ·refine AN hN ?_; refine AB h (fun hc4 h => ?_) fun hc4 h => ?_
     ·refine AS hN fun K hK => ?_; simp only [EV, seval]; exact hK _ _ _ (AC ⟨_, _, _, _, rfl, h⟩ [(32, some 32), (33, some 80)] [] hρ)
     ·refine AN hN ?_; refine AB h (fun hc5 h => ?_) fun hc5 h => ?_
      ·refine AS hN fun K hK => ?_; simp only [EV, seval]; exact hK _ _ _ (AC ⟨_, _, _, _, rfl, h⟩ [(32, some 32), (33, some 80)] [] hρ)
      ·refine AW_skip (show cutK _ _ _ from cutL ⟨_, _, _, _, rfl, h⟩ (Le_can [(32, some 32), (33, some 80)] [] hρ (by kernel_rfl) ?_ ?_))
       ·simp only [AL, EV, seval]
       ·simp only [AL, EV, seval]
  ·rintro S ⟨v3, v4, v5, v6, rfl, h⟩; unfold i_PhaseFactor_j2 at h; refine AN hN ?_; injection h with h; subst h; exact AX (b' := 64) [(2, .ptr 32 0)] [(32, .box 45 [.int .i64 v3, .int .i64 v4, .int .i64 v5, .int .i64 v6, .int .i64 0])] [(32, some 32)] [] hρ (EQ [])
/- spec.PhaseFactor -/
def s_PhaseFactor_j1 (v1 : Int) : Option (Int × Int × Int × Int × Int) :=
  bO (geti ([(1, 0, 0, 0), (0, 1, 0, 0), (0, 0, 1, 0), (0, 0, 0, 1), (-1, 0, 0, 0), (0, -1, 0, 0), (0, 0, -1, 0), (0, 0, 0, -1)]) v1) fun q1 => some (q1.1, q1.2.1, q1.2.2.1, q1.2.2.2, 0)
def s_PhaseFactor (a1 : Int) : Option (Int × Int × Int × Int × Int) :=
  br (decide ((Int.tmod a1 8) < 0)) (s_PhaseFactor_j1 (IntKind.wrap .i64 ((Int.tmod a1 8) + 8))) (s_PhaseFactor_j1 (Int.tmod a1 8))
theorem s_PhaseFactor_ok {a1 : Int} {r : Int × Int × Int × Int × Int} (h : s_PhaseFactor a1 = some r) :
    Spec Try.prog 15 [.int .i64 a1] [] (.agg [.int .i64 r.1, .int .i64 r.2.1, .int .i64 r.2.2.1, .int .i64 r.2.2.2.1, .int .i64 r.2.2.2.2]) [] := by
 unfold s_PhaseFactor at h; refine SO Try.func15 rfl Try.ntmps15 fun C hN hρ => ?_; simp only [st0, tmps0, Nat.zero_add, Nat.reduceAdd]; refine AN hN ?_; refine AN hN ?_; refine AW_cutK (fun S => ∃ (v1 : Int), S = ⟨mkT [(0, .int .i64 v1), (2, .ptr 32 0)], mkR [(32, .box 45 [.int .i64 0, .int .i64 0, .int .i64 0, .int .i64 0, .int .i64 0])], 64⟩ ∧ s_PhaseFactor_j1 v1 = some r) ?_ ?_
 ·refine AN hN ?_; refine AB h (fun hc1 h => ?_) fun hc1 h => ?_
  ·refine AS hN fun K hK => ?_; simp only [EV, seval]; exact hK _ _ _ (AC ⟨_, rfl, h⟩ [(32, some 64)] [] hρ)
  ·refine AW_skip (show cutK _ _ _ from cutL ⟨_, rfl, h⟩ (Le_can [(32, some 64)] [] hρ (by kernel_rfl) ?_ ?_))
   ·simp only [AL, EV, seval]
   ·simp only [AL, EV, seval]
 ·rintro S ⟨v1, rfl, h⟩; unfold s_PhaseFactor_j1 at h; refine AN hN ?_; refine AR hN fun K hK => ?_; obtain ⟨q1, h1, h⟩ := bO_inv h; obtain ⟨⟨h2a, h2b⟩, h2c⟩ := geti_E EIIIIl h1; (try simp only [EV, seval] at h2c); (try simp only [EV, seval] at h2b); simp only [EV, seval, h2a, h2b, h2c]; refine hK _ _ _ ?_; clear hK K; injection h with h; subst h; refine AW_le (Le_can (lt := [(2, .ptr 32 0)]) (lr := [(32, .box 45 [.int .i64 q1.1, .int .i64 q1.2.1, .int .i64 q1.2.2.1, .int .i64 q1.2.2.2, .int .i64 0])]) (b' := 64) [(32, some 32)] [] hρ (by kernel_rfl) ?_ ?_) (AW_ret (end_q [] (.inr rfl) (by kernel_rfl) (by kernel_rfl) ?_))
  ·simp only [AL, EV, seval, h2a, h2b, h2c]
  ·simp only [AL, EV, seval, h2a, h2b, h2c]
  ·simp only [EV, Try.results15, seval]
end Go.Proofs.Ytfjopjalhllplaa
/- Models of functions, and that the functions do what the models say; printed by a program. -/
namespace Go.Proofs.Ytfjopjalhllplaa
open Go.RowKit
set_option maxRecDepth 100000
set_option linter.unusedVariables false
set_option linter.unusedSimpArgs false
set_option linter.defProp false
set_option maxHeartbeats 4000000
/- spec.l10Phase -/
def s_l10Phase_j1 (a1 v1 : Int) : Option (List (Int × Int × Int × Int × Int × Int)) :=
  bO (s_PhaseFactor v1) fun x1 => some ([(a1, x1.1, x1.2.1, x1.2.2.1, x1.2.2.2.1, x1.2.2.2.2)])
def s_l10Phase (a1 : Int) (a2 : Bool) (a3 : Int) : Option (List (Int × Int × Int × Int × Int × Int)) :=
  br (!a2) (s_l10Phase_j1 a1 0) (s_l10Phase_j1 a1 a3)
theorem s_l10Phase_ok {a1 : Int} {a2 : Bool} {a3 : Int} {r : List (Int × Int × Int × Int × Int × Int)} (h : s_l10Phase a1 a2 a3 = some r) :
    Spec Try.prog 68 [.int .i64 a1, .bool a2, .int .i64 a3] [] (.own 0 r.length) [.row 105 6 (encL EIIIIII r)] := by
 unfold s_l10Phase at h; refine SO Try.func68 rfl Try.ntmps68 fun C hN hρ => ?_; simp only [st0, tmps0, Nat.zero_add, Nat.reduceAdd]; refine AN hN ?_; refine AW_cutK (fun S => ∃ (v1 : Int), S = ⟨mkT [(0, .int .i64 a1), (2, .int .i64 v1)], mkR [], 64⟩ ∧ s_l10Phase_j1 a1 v1 = some r) ?_ ?_
 ·refine AN hN ?_; refine AB h (fun hc1 h => ?_) fun hc1 h => ?_
  ·refine AS hN fun K hK => ?_; simp only [EV, seval]; exact hK _ _ _ (AC ⟨_, rfl, h⟩ [] [] hρ)
  ·refine AW_skip (show cutK _ _ _ from cutL ⟨_, rfl, h⟩ (Le_can [] [] hρ (by kernel_rfl) ?_ ?_))
   ·simp only [AL, EV, seval]
   ·simp only [AL, EV, seval]
 ·rintro S ⟨v1, rfl, h⟩; unfold s_l10Phase_j1 at h; obtain ⟨x1, h1, h⟩ := bO_inv h; refine AP hN (s_PhaseFactor_ok h1) ?_; injection h with h; subst h; exact AX (b' := 64) [(6, .own 32 ([(a1, x1.1, x1.2.1, x1.2.2.1, x1.2.2.2.1, x1.2.2.2.2)]).length)] [(32, .row 105 6 (encL EIIIIII ([(a1, x1.1, x1.2.1, x1.2.2.1, x1.2.2.2.1, x1.2.2.2.2)])))] [(32, some 128)] [] hρ (EQ [32])
/- spec.l10Flip -/
def s_l10Flip_j1 (v1 : Int) : Option (List (Int × Int × Int × Int × Int × Int)) :=
  bO (s_PhaseFactor 0) fun x1 => some ([(v1, x1.1, x1.2.1, x1.2.2.1, x1.2.2.2.1, x1.2.2.2.2)])
def s_l10Flip (a1 a2 : Int) (a3 : Bool) : Option (List (Int × Int × Int × Int × Int × Int)) :=
  br a3 (gd (decide (¬ (IntKind.wrap .u64 a2) < 0)) (s_l10Flip_j1 (bits .xor .i64 a1 (IntKind.wrap .i64 (1 * 2 ^ min (Int.toNat (IntKind.wrap .u64 a2)) (IntKind.bits .i64)))))) (s_l10Flip_j1 a1)
theorem s_l10Flip_ok {a1 a2 : Int} {a3 : Bool} {r : List (Int × Int × Int × Int × Int × Int)} (h : s_l10Flip a1 a2 a3 = some r) :
    Spec Try.prog 67 [.int .i64 a1, .int .i64 a2, .bool a3] [] (.own 0 r.length) [.row 105 6 (encL EIIIIII r)] := by
 unfold s_l10Flip at h; refine SO Try.func67 rfl Try.ntmps67 fun C hN hρ => ?_; simp only [st0, tmps0, Nat.zero_add, Nat.reduceAdd]; refine AN hN ?_; refine AW_cutK (fun S => ∃ (v1 : Int), S = ⟨mkT [(0, .int .i64 v1)], mkR [], 64⟩ ∧ s_l10Flip_j1 v1 = some r) ?_ ?_
 ·refine AN hN ?_; refine AB h (fun hc1 h => ?_) fun hc1 h => ?_
  ·refine AS hN fun K hK => ?_; obtain ⟨h1, h⟩ := gd_inv h; replace h1 := of_decide_eq_true h1; simp only [EV, seval, h1]; refine hK _ _ _ (show cutK _ _ _ from cutL ⟨_, rfl, h⟩ (Le_can [] [] hρ (by kernel_rfl) ?_ ?_))
   ·simp only [AL, EV, seval, h1]
   ·simp only [AL, EV, seval, h1]
  ·refine AW_skip (show cutK _ _ _ from cutL ⟨_, rfl, h⟩ (Le_can [] [] hρ (by kernel_rfl) ?_ ?_))
   ·simp only [AL, EV, seval]
   ·simp only [AL, EV, seval]
 ·rintro S ⟨v1, rfl, h⟩; unfold s_l10Flip_j1 at h; obtain ⟨x1, h2, h⟩ := bO_inv h; refine AP hN (s_PhaseFactor_ok h2) ?_; injection h with h; subst h; exact AX (b' := 64) [(6, .own 32 ([(v1, x1.1, x1.2.1, x1.2.2.1, x1.2.2.2.1, x1.2.2.2.2)]).length)] [(32, .row 105 6 (encL EIIIIII ([(v1, x1.1, x1.2.1, x1.2.2.1, x1.2.2.2.1, x1.2.2.2.2)])))] [(32, some 112)] [] hρ (EQ [32])
/- spec.NegZOmega -/
def s_NegZOmega (a1 a2 a3 a4 : Int) : Option (Int × Int × Int × Int) :=
  bO (s_IsValidZOmega a1 a2 a3 a4) fun x1 => br (!x1) (some (0, 0, 0, 0)) (some (IntKind.wrap .i64 (0 - a1), IntKind.wrap .i64 (0 - a2), IntKind.wrap .i64 (0 - a3), IntKind.wrap .i64 (0 - a4)))
theorem s_NegZOmega_ok {a1 a2 a3 a4 : Int} {r : Int × Int × Int × Int} (h : s_NegZOmega a1 a2 a3 a4 = some r) :
    Spec Try.prog 74 [.agg [.int .i64 a1, .int .i64 a2, .int .i64 a3, .int .i64 a4]] [] (.agg [.int .i64 r.1, .int .i64 r.2.1, .int .i64 r.2.2.1, .int .i64 r.2.2.2]) [] := by
 unfold s_NegZOmega at h; refine SO Try.func74 rfl Try.ntmps74 fun C hN hρ => ?_; simp only [st0, tmps0, Nat.zero_add, Nat.reduceAdd]; refine AN hN ?_; refine AW_seq ?_; obtain ⟨x1, h1, h⟩ := bO_inv h; refine AP hN (s_IsValidZOmega_ok h1) ?_; refine AB h (fun hc1 h => ?_) fun hc1 h => ?_
 ·refine AN hN ?_; injection h with h; subst h; exact AX (b' := 64) [(2, .ptr 32 0)] [(32, .box 43 [.int .i64 0, .int .i64 0, .int .i64 0, .int .i64 0])] [(32, some 80)] [] hρ (EQ [])
 ·refine AW_skip (AK ?_); refine AN hN ?_; injection h with h; subst h; exact AX (b' := 64) [(2, .ptr 32 0)] [(32, .box 43 [.int .i64 (IntKind.wrap .i64 (0 - a1)), .int .i64 (IntKind.wrap .i64 (0 - a2)), .int .i64 (IntKind.wrap .i64 (0 - a3)), .int .i64 (IntKind.wrap .i64 (0 - a4))])] [(32, some 80)] [] hρ (EQ [])
/- spec.NegDOmega -/
def s_NegDOmega (a1 a2 a3 a4 a5 : Int) : Option (Int × Int × Int × Int × Int) :=
  bO (s_IsValidDOmega a1 a2 a3 a4 a5) fun x1 => br (!x1) (some (0, 0, 0, 0, 0)) (bO (s_NegZOmega a1 a2 a3 a4) fun x2 => some (x2.1, x2.2.1, x2.2.2.1, x2.2.2.2, a5))
theorem s_NegDOmega_ok {a1 a2 a3 a4 a5 : Int} {r : Int × Int × Int × Int × Int} (h : s_NegDOmega a1 a2 a3 a4 a5 = some r) :
    Spec Try.prog 70 [.agg [.int .i64 a1, .int .i64 a2, .int .i64 a3, .int .i64 a4, .int .i64 a5]] [] (.agg [.int .i64 r.1, .int .i64 r.2.1, .int .i64 r.2.2.1, .int .i64 r.2.2.2.1, .int .i64 r.2.2.2.2]) [] := by
 unfold s_NegDOmega at h; refine SO Try.func70 rfl Try.ntmps70 fun C hN hρ => ?_; simp only [st0, tmps0, Nat.zero_add, Nat.reduceAdd]; refine AN hN ?_; refine AW_seq ?_; obtain ⟨x1, h1, h⟩ := bO_inv h; refine AP hN (s_IsValidDOmega_ok h1) ?_; refine AB h (fun hc1 h => ?_) fun hc1 h => ?_
 ·refine AN hN ?_; injection h with h; subst h; exact AX (b' := 64) [(2, .ptr 32 0)] [(32, .box 45 [.int .i64 0, .int .i64 0, .int .i64 0, .int .i64 0, .int .i64 0])] [(32, some 80)] [] hρ (EQ [])
 ·refine AW_skip (AK ?_); obtain ⟨x2, h2, h⟩ := bO_inv h; refine AP hN (s_NegZOmega_ok h2) ?_; injection h with h; subst h; exact AX (b' := 64) [(2, .ptr 32 0)] [(32, .box 45 [.int .i64 x2.1, .int .i64 x2.2.1, .int .i64 x2.2.2.1, .int .i64 x2.2.2.2, .int .i64 a5])] [(32, some 80)] [] hρ (EQ [])
/- spec.l10Goes -/
def s_l10Goes_j1 (a2 a5 v1 : Int) : Option (List (Int × Int × Int × Int × Int × Int)) :=
  gd (decide (¬ (IntKind.wrap .u64 a2) < 0)) (bO (s_PhaseFactor v1) fun x2 => some ([(bits .xor .i64 a5 (IntKind.wrap .i64 (1 * 2 ^ min (Int.toNat (IntKind.wrap .u64 a2)) (IntKind.bits .i64))), x2.1, x2.2.1, x2.2.2.1, x2.2.2.2.1, x2.2.2.2.2)]))
def s_l10Goes_j2 (v2 : List (Int × Int × Int × Int × Int × Int)) : Option (List (Int × Int × Int × Int × Int × Int)) :=
  some v2
def s_l10Goes_j3 (v3 : List (Int × Int × Int × Int × Int × Int)) : Option (List (Int × Int × Int × Int × Int × Int)) :=
  some v3
def s_l10Goes_j4 (v4 : Int) : Option (List (Int × Int × Int × Int × Int × Int)) :=
  bO (s_PhaseFactor 0) fun x17 => some ([(v4, x17.1, x17.2.1, x17.2.2.1, x17.2.2.2.1, x17.2.2.2.2)])
def s_l10Goes_j5 (a2 : Int) (x18 : Int × Int × Int × Int × Int) (v5 v6 v7 v8 v9 v10 : Int) : Option (List (Int × Int × Int × Int × Int × Int)) :=
  gd (decide (¬ (IntKind.wrap .u64 a2) < 0)) (some ([(v5, x18.1, x18.2.1, x18.2.2.1, x18.2.2.2.1, x18.2.2.2.2), (bits .or .i64 v5 (IntKind.wrap .i64 (1 * 2 ^ min (Int.toNat (IntKind.wrap .u64 a2)) (IntKind.bits .i64))), v6, v7, v8, v9, v10)]))
def s_l10Goes (a1 a2 a3 a4 a5 : Int) : Option (List (Int × Int × Int × Int × Int × Int)) :=
  gd (decide (¬ (IntKind.wrap .u64 a2) < 0)) (gd (decide (¬ (IntKind.wrap .u64 a3) < 0)) (br (a1 == 1) (bO (s_l10Flip a5 a2 true) fun x1 => some x1) (br (a1 == 2) (br ((bits .and .i64 (Int.fdiv a5 (2 ^ min (Int.toNat (IntKind.wrap .u64 a2)) (IntKind.bits .i64))) 1) == 1) (s_l10Goes_j1 a2 a5 6) (s_l10Goes_j1 a2 a5 2)) (br (a1 == 3) (bO (s_l10Phase a5 ((bits .and .i64 (Int.fdiv a5 (2 ^ min (Int.toNat (IntKind.wrap .u64 a2)) (IntKind.bits .i64))) 1) == 1) 4) fun x3 => some x3) (br (a1 == 5) (bO (s_l10Phase a5 ((bits .and .i64 (Int.fdiv a5 (2 ^ min (Int.toNat (IntKind.wrap .u64 a2)) (IntKind.bits .i64))) 1) == 1) 2) fun x4 => some x4) (br (a1 == 6) (bO (s_l10Phase a5 ((bits .and .i64 (Int.fdiv a5 (2 ^ min (Int.toNat (IntKind.wrap .u64 a2)) (IntKind.bits .i64))) 1) == 1) 6) fun x5 => some x5) (br (a1 == 7) (bO (s_l10Phase a5 ((bits .and .i64 (Int.fdiv a5 (2 ^ min (Int.toNat (IntKind.wrap .u64 a2)) (IntKind.bits .i64))) 1) == 1) 1) fun x6 => some x6) (br (a1 == 8) (bO (s_l10Phase a5 ((bits .and .i64 (Int.fdiv a5 (2 ^ min (Int.toNat (IntKind.wrap .u64 a2)) (IntKind.bits .i64))) 1) == 1) 7) fun x7 => some x7) (br (a1 == 9) (bO (s_l10Flip a5 a3 ((bits .and .i64 (Int.fdiv a5 (2 ^ min (Int.toNat (IntKind.wrap .u64 a2)) (IntKind.bits .i64))) 1) == 1)) fun x8 => some x8) (br (a1 == 10) (bO (br ((bits .and .i64 (Int.fdiv a5 (2 ^ min (Int.toNat (IntKind.wrap .u64 a2)) (IntKind.bits .i64))) 1) == 1) (some ((bits .and .i64 (Int.fdiv a5 (2 ^ min (Int.toNat (IntKind.wrap .u64 a3)) (IntKind.bits .i64))) 1) == 1)) (some false)) fun x9 => bO (s_l10Phase a5 x9 4) fun x10 => s_l10Goes_j2 x10) (br (a1 == 12) (bO (br ((bits .and .i64 (Int.fdiv a5 (2 ^ min (Int.toNat (IntKind.wrap .u64 a2)) (IntKind.bits .i64))) 1) == 1) (some ((bits .and .i64 (Int.fdiv a5 (2 ^ min (Int.toNat (IntKind.wrap .u64 a3)) (IntKind.bits .i64))) 1) == 1)) (some false)) fun x13 => bO (s_l10Flip a5 a4 x13) fun x14 => s_l10Goes_j3 x14) (br (a1 == 11) (br (((bits .and .i64 (Int.fdiv a5 (2 ^ min (Int.toNat (IntKind.wrap .u64 a2)) (IntKind.bits .i64))) 1) == 1) != ((bits .and .i64 (Int.fdiv a5 (2 ^ min (Int.toNat (IntKind.wrap .u64 a3)) (IntKind.bits .i64))) 1) == 1)) (gd (decide (¬ (IntKind.wrap .u64 a2) < 0)) (gd (decide (¬ (IntKind.wrap .u64 a3) < 0)) (s_l10Goes_j4 (bits .xor .i64 (bits .xor .i64 a5 (IntKind.wrap .i64 (1 * 2 ^ min (Int.toNat (IntKind.wrap .u64 a2)) (IntKind.bits .i64)))) (IntKind.wrap .i64 (1 * 2 ^ min (Int.toNat (IntKind.wrap .u64 a3)) (IntKind.bits .i64))))))) (s_l10Goes_j4 a5)) (gd (decide (¬ (IntKind.wrap .u64 a2) < 0)) (bO (s_InvSqrt2Power 1) fun x18 => br ((bits .and .i64 (Int.fdiv a5 (2 ^ min (Int.toNat (IntKind.wrap .u64 a2)) (IntKind.bits .i64))) 1) == 1) (bO (s_NegDOmega x18.1 x18.2.1 x18.2.2.1 x18.2.2.2.1 x18.2.2.2.2) fun x19 => s_l10Goes_j5 a2 x18 (bits .andNot .i64 a5 (IntKind.wrap .i64 (1 * 2 ^ min (Int.toNat (IntKind.wrap .u64 a2)) (IntKind.bits .i64)))) x19.1 x19.2.1 x19.2.2.1 x19.2.2.2.1 x19.2.2.2.2) (s_l10Goes_j5 a2 x18 (bits .andNot .i64 a5 (IntKind.wrap .i64 (1 * 2 ^ min (Int.toNat (IntKind.wrap .u64 a2)) (IntKind.bits .i64)))) x18.1 x18.2.1 x18.2.2.1 x18.2.2.2.1 x18.2.2.2.2)))))))))))))))
theorem s_l10Goes_ok {a1 a2 a3 a4 a5 : Int} {r : List (Int × Int × Int × Int × Int × Int)} (h : s_l10Goes a1 a2 a3 a4 a5 = some r) :
    Spec Try.prog 65 [.agg [.int .i64 a1, .int .i64 a2, .int .i64 a3, .int .i64 a4], .int .i64 a5] [] (.own 0 r.length) [.row 105 6 (encL EIIIIII r)] := by
 unfold s_l10Goes at h; refine SO Try.func65 rfl Try.ntmps65 fun C hN hρ => ?_; simp only [st0, tmps0, Nat.zero_add, Nat.reduceAdd]; refine AN hN ?_; refine AR hN fun K hK => ?_; obtain ⟨h1, h⟩ := gd_inv h; replace h1 := of_decide_eq_true h1; simp only [EV, seval, h1]; refine hK _ _ _ ?_; clear hK K; refine AR hN fun K hK => ?_; obtain ⟨h2, h⟩ := gd_inv h; replace h2 := of_decide_eq_true h2; simp only [EV, seval, h2]; refine hK _ _ _ ?_; clear hK K; refine AW_seq ?_; refine AN hN ?_; refine AW_block ?_; refine AN hN ?_; refine AB h (fun hc1 h => ?_) fun hc1 h => ?_
 ·refine AR hN fun K hK => ?_; obtain ⟨x1, h3, h⟩ := bO_inv h; simp only [EV, seval]; refine rC_p (s_l10Flip_ok h3) (by simp only [AL, EV, seval]) (le_d rfl) (site_1 (by simp only [EV, seval])) ?_; simp only [EV, seval]; refine hK _ _ _ ?_; clear hK K; injection h with h; subst h; exact AX (b' := 64) [(4, .own 32 x1.length)] [(32, .row 105 6 (encL EIIIIII x1))] [(32, some 5232)] [] hρ (EQ [32])
 ·refine AN hN ?_; refine AB h (fun hc2 h => ?_) fun hc2 h => ?_
  ·refine AN hN ?_; refine AW_cutK (fun S => ∃ (v1 : Int), S = ⟨mkT [(1, .int .i64 a5), (2, .ptr 32 0), (7, .int .i64 v1)], mkR [(32, .box 68 [.int .i64 a1, .int .i64 a2, .int .i64 a3, .int .i64 a4])], 64⟩ ∧ s_l10Goes_j1 a2 a5 v1 = some r) ?_ ?_
   ·refine AN hN ?_; refine AB h (fun hc3 h => ?_) fun hc3 h => ?_
    ·refine AS hN fun K hK => ?_; simp only [EV, seval]; exact hK _ _ _ (AC ⟨_, rfl, h⟩ [(32, some 64)] [] hρ)
    ·refine AW_skip (show cutK _ _ _ from cutL ⟨_, rfl, h⟩ (Le_can [(32, some 64)] [] hρ (by kernel_rfl) ?_ ?_))
     ·simp only [AL, EV, seval]
     ·simp only [AL, EV, seval]
   ·rintro S ⟨v1, rfl, h⟩; unfold s_l10Goes_j1 at h; refine AR hN fun K hK => ?_; obtain ⟨h4, h⟩ := gd_inv h; replace h4 := of_decide_eq_true h4; obtain ⟨x2, h5, h⟩ := bO_inv h; simp only [EV, seval, h4]; refine rC_p (s_PhaseFactor_ok h5) (by simp only [AL, EV, seval, h4]) (le_d rfl) (no_j rfl) ?_; simp only [EV, seval, h4]; refine hK _ _ _ ?_; clear hK K; injection h with h; subst h; refine AW_le (Le_can (lt := [(4, .own 32 ([(bits .xor .i64 a5 (IntKind.wrap .i64 (1 * 2 ^ min (Int.toNat (IntKind.wrap .u64 a2)) (IntKind.bits .i64))), x2.1, x2.2.1, x2.2.2.1, x2.2.2.2.1, x2.2.2.2.2)]).length)]) (lr := [(32, .row 105 6 (encL EIIIIII ([(bits .xor .i64 a5 (IntKind.wrap .i64 (1 * 2 ^ min (Int.toNat (IntKind.wrap .u64 a2)) (IntKind.bits .i64))), x2.1, x2.2.1, x2.2.2.1, x2.2.2.2.1, x2.2.2.2.2)])))]) (b' := 64) [(32, some 208)] [] hρ (by kernel_rfl) ?_ ?_) (AW_ret (end_q [32] (.inr rfl) (by kernel_rfl) (by kernel_rfl) ?_))
    ·simp only [AL, EV, seval, h4]
    ·simp only [AL, EV, seval, h4]
    ·simp only [EV, Try.results65, seval]
  ·refine AN hN ?_; refine AB h (fun hc4 h => ?_) fun hc4 h => ?_
   ·refine AR hN fun K hK => ?_; obtain ⟨x3, h6, h⟩ := bO_inv h; simp only [EV, seval]; refine rC_p (s_l10Phase_ok h6) (by simp only [AL, EV, seval]) (le_d rfl) (site_1 (by simp only [EV, seval])) ?_; simp only [EV, seval]; refine hK _ _ _ ?_; clear hK K; injection h with h; subst h; exact AX (b' := 64) [(4, .own 32 x3.length)] [(32, .row 105 6 (encL EIIIIII x3))] [(32, some 7264)] [] hρ (EQ [32])
   ·refine AN hN ?_; refine AB h (fun hc5 h => ?_) fun hc5 h => ?_
    ·refine AR hN fun K hK => ?_; obtain ⟨x4, h7, h⟩ := bO_inv h; simp only [EV, seval]; refine rC_p (s_l10Phase_ok h7) (by simp only [AL, EV, seval]) (le_d rfl) (site_1 (by simp only [EV, seval])) ?_; simp only [EV, seval]; refine hK _ _ _ ?_; clear hK K; injection h with h; subst h; exact AX (b' := 64) [(4, .own 32 x4.length)] [(32, .row 105 6 (encL EIIIIII x4))] [(32, some 8288)] [] hρ (EQ [32])
    ·refine AN hN ?_; refine AB h (fun hc6 h => ?_) fun hc6 h => ?_
     ·refine AR hN fun K hK => ?_; obtain ⟨x5, h8, h⟩ := bO_inv h; simp only [EV, seval]; refine rC_p (s_l10Phase_ok h8) (by simp only [AL, EV, seval]) (le_d rfl) (site_1 (by simp only [EV, seval])) ?_; simp only [EV, seval]; refine hK _ _ _ ?_; clear hK K; injection h with h; subst h; exact AX (b' := 64) [(4, .own 32 x5.length)] [(32, .row 105 6 (encL EIIIIII x5))] [(32, some 9312)] [] hρ (EQ [32])
     ·refine AN hN ?_; refine AB h (fun hc7 h => ?_) fun hc7 h => ?_
      ·refine AR hN fun K hK => ?_; obtain ⟨x6, h9, h⟩ := bO_inv h; simp only [EV, seval]; refine rC_p (s_l10Phase_ok h9) (by simp only [AL, EV, seval]) (le_d rfl) (site_1 (by simp only [EV, seval])) ?_; simp only [EV, seval]; refine hK _ _ _ ?_; clear hK K; injection h with h; subst h; exact AX (b' := 64) [(4, .own 32 x6.length)] [(32, .row 105 6 (encL EIIIIII x6))] [(32, some 10336)] [] hρ (EQ [32])
      ·refine AN hN ?_; refine AB h (fun hc8 h => ?_) fun hc8 h => ?_
       ·refine AR hN fun K hK => ?_; obtain ⟨x7, h10, h⟩ := bO_inv h; simp only [EV, seval]; refine rC_p (s_l10Phase_ok h10) (by simp only [AL, EV, seval]) (le_d rfl) (site_1 (by simp only [EV, seval])) ?_; simp only [EV, seval]; refine hK _ _ _ ?_; clear hK K; injection h with h; subst h; exact AX (b' := 64) [(4, .own 32 x7.length)] [(32, .row 105 6 (encL EIIIIII x7))] [(32, some 11360)] [] hρ (EQ [32])
       ·refine AN hN ?_; refine AB h (fun hc9 h => ?_) fun hc9 h => ?_
        ·refine AR hN fun K hK => ?_; obtain ⟨x8, h11, h⟩ := bO_inv h; simp only [EV, seval]; refine rC_p (s_l10Flip_ok h11) (by simp only [AL, EV, seval]) (le_d rfl) (site_1 (by simp only [EV, seval])) ?_; simp only [EV, seval]; refine hK _ _ _ ?_; clear hK K; injection h with h; subst h; exact AX (b' := 64) [(4, .own 32 x8.length)] [(32, .row 105 6 (encL EIIIIII x8))] [(32, some 12416)] [] hρ (EQ [32])
        ·refine AN hN ?_; refine AB h (fun hc10 h => ?_) fun hc10 h => ?_
         ·refine AJ (fun S => ∃ (v2 : List (Int × Int × Int × Int × Int × Int)), S = ⟨mkT [(4, .own 32 v2.length)], mkR [(32, .row 105 6 (encL EIIIIII v2))], 64⟩ ∧ s_l10Goes_j2 v2 = some r) hN ?_ ?_
          ·intro K hK; obtain ⟨x9, hv1, h⟩ := bO_inv h; rcases br_inv hv1 with ⟨hc11, hv1⟩ | ⟨hc11, hv1⟩
           ·cases hv1; obtain ⟨x11, h13, h⟩ := bO_inv h; simp only [EV, seval, hc11]; refine rC_p (s_l10Phase_ok h13) (by simp only [AL, EV, seval, hc11]) (le_d rfl) (site_1 (by simp only [EV, seval])) ?_; simp only [EV, seval, hc11]; refine hK _ _ _ (show cutK _ _ _ from cutL ⟨_, rfl, h⟩ (Le_can [(32, some 13456)] [] hρ (by kernel_rfl) ?_ ?_))
            ·simp only [AL, EV, seval, hc11]
            ·simp only [AL, EV, seval, hc11]
           ·cases hv1; obtain ⟨x12, h14, h⟩ := bO_inv h; simp only [EV, seval, hc11]; refine rC_p (s_l10Phase_ok h14) (by simp only [AL, EV, seval, hc11]) (le_d rfl) (site_1 (by simp only [EV, seval])) ?_; simp only [EV, seval, hc11]; refine hK _ _ _ (show cutK _ _ _ from cutL ⟨_, rfl, h⟩ (Le_can [(32, some 13456)] [] hρ (by kernel_rfl) ?_ ?_))
            ·simp only [AL, EV, seval, hc11]
            ·simp only [AL, EV, seval, hc11]
          ·rintro S ⟨v2, rfl, h⟩; unfold s_l10Goes_j2 at h; injection h with h; subst h; exact AX (b' := 64) [(4, .own 32 v2.length)] [(32, .row 105 6 (encL EIIIIII v2))] [(32, some 32)] [] hρ (EQ [32])
         ·refine AN hN ?_; refine AB h (fun hc12 h => ?_) fun hc12 h => ?_
          ·refine AJ (fun S => ∃ (v3 : List (Int × Int × Int × Int × Int × Int)), S = ⟨mkT [(4, .own 32 v3.length)], mkR [(32, .row 105 6 (encL EIIIIII v3))], 64⟩ ∧ s_l10Goes_j3 v3 = some r) hN ?_ ?_
           ·intro K hK; obtain ⟨x13, hv2, h⟩ := bO_inv h; rcases br_inv hv2 with ⟨hc13, hv2⟩ | ⟨hc13, hv2⟩
            ·cases hv2; obtain ⟨x15, h16, h⟩ := bO_inv h; simp only [EV, seval, hc13]; refine rC_p (s_l10Flip_ok h16) (by simp only [AL, EV, seval, hc13]) (le_d rfl) (site_1 (by simp only [EV, seval])) ?_; simp only [EV, seval, hc13]; refine hK _ _ _ (show cutK _ _ _ from cutL ⟨_, rfl, h⟩ (Le_can [(32, some 14512)] [] hρ (by kernel_rfl) ?_ ?_))
             ·simp only [AL, EV, seval, hc13]
             ·simp only [AL, EV, seval, hc13]
            ·cases hv2; obtain ⟨x16, h17, h⟩ := bO_inv h; simp only [EV, seval, hc13]; refine rC_p (s_l10Flip_ok h17) (by simp only [AL, EV, seval, hc13]) (le_d rfl) (site_1 (by simp only [EV, seval])) ?_; simp only [EV, seval, hc13]; refine hK _ _ _ (show cutK _ _ _ from cutL ⟨_, rfl, h⟩ (Le_can [(32, some 14512)] [] hρ (by kernel_rfl) ?_ ?_))
             ·simp only [AL, EV, seval, hc13]
             ·simp only [AL, EV, seval, hc13]
           ·rintro S ⟨v3, rfl, h⟩; unfold s_l10Goes_j3 at h; injection h with h; subst h; exact AX (b' := 64) [(4, .own 32 v3.length)] [(32, .row 105 6 (encL EIIIIII v3))] [(32, some 32)] [] hρ (EQ [32])
          ·refine AN hN ?_; refine AB h (fun hc14 h => ?_) fun hc14 h => ?_
           ·refine AW_cutK (fun S => ∃ (v4 : Int), S = ⟨mkT [(1, .int .i64 v4)], mkR [], 64⟩ ∧ s_l10Goes_j4 v4 = some r) ?_ ?_
            ·refine AN hN ?_; refine AB h (fun hc15 h => ?_) fun hc15 h => ?_
             ·refine AS hN fun K hK => ?_; obtain ⟨h18, h⟩ := gd_inv h; replace h18 := of_decide_eq_true h18; obtain ⟨h19, h⟩ := gd_inv h; replace h19 := of_decide_eq_true h19; simp only [EV, seval, h18, h19]; refine hK _ _ _ (show cutK _ _ _ from cutL ⟨_, rfl, h⟩ (Le_can [] [] hρ (by kernel_rfl) ?_ ?_))
              ·simp only [AL, EV, seval, h18, h19]
              ·simp only [AL, EV, seval, h18, h19]
             ·refine AW_skip (show cutK _ _ _ from cutL ⟨_, rfl, h⟩ (Le_can [] [] hρ (by kernel_rfl) ?_ ?_))
              ·simp only [AL, EV, seval]
              ·simp only [AL, EV, seval]
            ·rintro S ⟨v4, rfl, h⟩; unfold s_l10Goes_j4 at h; obtain ⟨x17, h20, h⟩ := bO_inv h; refine AP hN (s_PhaseFactor_ok h20) ?_; injection h with h; subst h; exact AX (b' := 64) [(4, .own 32 ([(v4, x17.1, x17.2.1, x17.2.2.1, x17.2.2.2.1, x17.2.2.2.2)]).length)] [(32, .row 105 6 (encL EIIIIII ([(v4, x17.1, x17.2.1, x17.2.2.1, x17.2.2.2.1, x17.2.2.2.2)])))] [(32, some 112)] [] hρ (EQ [32])
           ·refine AW_skip (AK ?_); refine AR hN fun K hK => ?_; obtain ⟨h21, h⟩ := gd_inv h; replace h21 := of_decide_eq_true h21; simp only [EV, seval, h21]; refine hK _ _ _ ?_; clear hK K; obtain ⟨x18, h22, h⟩ := bO_inv h; refine AP hN (s_InvSqrt2Power_ok h22) ?_; refine AN hN ?_; refine AW_cutK (fun S => ∃ (v5 v6 v7 v8 v9 v10 : Int), S = ⟨mkT [(2, .ptr 32 0), (8, .int .i64 v5), (9, .ptr 33 0), (10, .ptr 34 0)], mkR [(32, .box 68 [.int .i64 a1, .int .i64 a2, .int .i64 a3, .int .i64 a4]), (33, .box 45 [.int .i64 x18.1, .int .i64 x18.2.1, .int .i64 x18.2.2.1, .int .i64 x18.2.2.2.1, .int .i64 x18.2.2.2.2]), (34, .box 45 [.int .i64 v6, .int .i64 v7, .int .i64 v8, .int .i64 v9, .int .i64 v10])], 64⟩ ∧ s_l10Goes_j5 a2 x18 v5 v6 v7 v8 v9 v10 = some r) ?_ ?_
            ·refine AN hN ?_; refine AB h (fun hc16 h => ?_) fun hc16 h => ?_
             ·refine AS hN fun K hK => ?_; obtain ⟨x19, h23, h⟩ := bO_inv h; simp only [EV, seval]; refine CP (s_NegDOmega_ok h23) ?_; simp only [EV, seval]; exact hK _ _ _ (AC ⟨_, _, _, _, _, _, rfl, h⟩ [(32, some 64), (33, some 16464), (34, some 17488)] [] hρ)
             ·refine AW_skip (show cutK _ _ _ from cutL ⟨_, _, _, _, _, _, rfl, h⟩ (Le_can [(32, some 64), (33, some 16464), (34, some 17488)] [] hρ (by kernel_rfl) ?_ ?_))
              ·simp only [AL, EV, seval]
              ·simp only [AL, EV, seval]
            ·rintro S ⟨v5, v6, v7, v8, v9, v10, rfl, h⟩; unfold s_l10Goes_j5 at h; refine AR hN fun K hK => ?_; obtain ⟨h24, h⟩ := gd_inv h; replace h24 := of_decide_eq_true h24; simp only [EV, seval, h24]; refine hK _ _ _ ?_; clear hK K; injection h with h; subst h; refine AW_le (Le_can (lt := [(4, .own 32 ([(v5, x18.1, x18.2.1, x18.2.2.1, x18.2.2.2.1, x18.2.2.2.2), (bits .or .i64 v5 (IntKind.wrap .i64 (1 * 2 ^ min (Int.toNat (IntKind.wrap .u64 a2)) (IntKind.bits .i64))), v6, v7, v8, v9, v10)]).length)]) (lr := [(32, .row 105 6 (encL EIIIIII ([(v5, x18.1, x18.2.1, x18.2.2.1, x18.2.2.2.1, x18.2.2.2.2), (bits .or .i64 v5 (IntKind.wrap .i64 (1 * 2 ^ min (Int.toNat (IntKind.wrap .u64 a2)) (IntKind.bits .i64))), v6, v7, v8, v9, v10)])))]) (b' := 64) [(32, some 240)] [] hρ (by kernel_rfl) ?_ ?_) (AW_ret (end_q [32] (.inr rfl) (by kernel_rfl) (by kernel_rfl) ?_))
             ·simp only [AL, EV, seval, h24]
             ·simp only [AL, EV, seval, h24]
             ·simp only [EV, Try.results65, seval]
/- spec.ApplyGate -/
def s_ApplyGate_j14 (v27 : Int) (v28 : LF) (kl4 : Int → (LF) → Option (LF × Bool)) (q20 : Int × Int × Int × Int × Int × Int) (x35 : Int × Int × Int × Int × Int × Bool) (v29 : Bool) : Option (LF × Bool) :=
  br v29 (some ([], false)) (kl4 (IntKind.wrap .i64 (v27 + 1)) (v28.set (Int.toNat q20.1) ((x35.1, x35.2.1, x35.2.2.1, x35.2.2.2.1, x35.2.2.2.2.1))))
def s_ApplyGate_j11 (v21 : Int) (kl3 : Int → (LF) → Option (LF × Bool)) (v30 : LF) : Option (LF × Bool) :=
  kl3 (IntKind.wrap .i64 (v21 + 1)) v30
def s_ApplyGate_l4 (v21 : Int) (kl3 : Int → (LF) → Option (LF × Bool)) (q15 : Int × Int × Int × Int × Int) (x27 : List (Int × Int × Int × Int × Int × Int)) : Nat → Int → (LF) → Option (LF × Bool)
  | 0, _, _ => none
  | n4 + 1, v27, v28 =>
  br (decide (v27 < ((x27.length : Int)))) (bO (geti x27 v27) fun q20 => bO (s_MulDOmega q15.1 q15.2.1 q15.2.2.1 q15.2.2.2.1 q15.2.2.2.2 q20.2.1 q20.2.2.1 q20.2.2.2.1 q20.2.2.2.2.1 q20.2.2.2.2.2) fun x34 => bO (geti v28 q20.1) fun q21 => bO (s_AddDOmega q21.1 q21.2.1 q21.2.2.1 q21.2.2.2.1 q21.2.2.2.2 x34.1 x34.2.1 x34.2.2.1 x34.2.2.2.1 x34.2.2.2.2.1) fun x35 => bO (br (!x34.2.2.2.2.2) (some true) (some (!x35.2.2.2.2.2))) fun x36 => s_ApplyGate_j14 v27 v28 (s_ApplyGate_l4 v21 kl3 q15 x27 n4) q20 x35 x36) (s_ApplyGate_j11 v21 kl3 v28)
def s_ApplyGate_j2 (v31 : LF) : Option (LF × Bool) :=
  some (v31, true)
def s_ApplyGate_l1 (a1 a2 a3 a4 : Int) (a5 : LF) : Nat → Int → (LF) → Option (LF × Bool)
  | 0, _, _ => none
  | n3 + 1, v21, v22 =>
  br (decide (v21 < ((a5.length : Int)))) (bO (geti a5 v21) fun q15 => br (((q15.1 == 0) && ((q15.2.1 == 0) && ((q15.2.2.1 == 0) && ((q15.2.2.2.1 == 0) && (q15.2.2.2.2 == 0)))))) (s_ApplyGate_j11 v21 (s_ApplyGate_l1 a1 a2 a3 a4 a5 n3) v22) (bO (s_l10Goes a1 a2 a3 a4 v21) fun x27 => s_ApplyGate_l4 v21 (s_ApplyGate_l1 a1 a2 a3 a4 a5 n3) q15 x27 FU 0 v22)) (s_ApplyGate_j2 v22)
def s_ApplyGate_j1 (a1 a2 a3 a4 : Int) (a5 : LF) (v1 : Bool) : Option (LF × Bool) :=
  br v1 (some ([], false)) (gd (decide (0 ≤ (a5.length : Int) ∧ (a5.length : Int) ≤ 1048576)) (s_ApplyGate_l1 a1 a2 a3 a4 a5 FU 0 (List.replicate (Int.toNat ((a5.length : Int))) ((0, 0, 0, 0, 0) : Int × Int × Int × Int × Int))))
def s_ApplyGate (a1 a2 a3 a4 : Int) (a5 : LF) : Option (LF × Bool) :=
  bO (s_IsValidState a5) fun x1 => bO (br (!x1) (some true) (bO (s_QubitCount a5) fun x2 => bO (s_IsValidGate a1 a2 a3 a4 x2) fun x3 => some (!x3))) fun x4 => s_ApplyGate_j1 a1 a2 a3 a4 a5 x4
theorem s_ApplyGate_ok {a1 a2 a3 a4 : Int} {a5 : LF} {r : LF × Bool} (h : s_ApplyGate a1 a2 a3 a4 a5 = some r) :
    Spec Try.prog 60 [.agg [.int .i64 a1, .int .i64 a2, .int .i64 a3, .int .i64 a4], .sl (encL EIIIII a5) a5.length] [] (.tup [.own 0 r.1.length, .bool r.2]) [.row 45 5 (encL EIIIII r.1)] := by
 unfold s_ApplyGate at h; refine SO Try.func60 rfl Try.ntmps60 fun C hN hρ => ?_; simp only [st0, tmps0, Nat.zero_add, Nat.reduceAdd]; refine AN hN ?_; refine AW_seq ?_; refine AJ (fun S => ∃ (v1 : Bool), S = ⟨mkT [(1, .sl (encL EIIIII a5) a5.length), (2, .ptr 32 0), (23, .bool v1)], mkR [(32, .box 68 [.int .i64 a1, .int .i64 a2, .int .i64 a3, .int .i64 a4])], 64⟩ ∧ s_ApplyGate_j1 a1 a2 a3 a4 a5 v1 = some r) hN ?_ ?_
 ·intro K hK; obtain ⟨x1, h1, h⟩ := bO_inv h; simp only [EV, seval]; refine CP (s_IsValidState_ok h1) ?_; obtain ⟨x4, hv1, h⟩ := bO_inv h; rcases br_inv hv1 with ⟨hc1, hv1⟩ | ⟨hc1, hv1⟩
  ·cases hv1; simp only [EV, seval, hc1]; refine hK _ _ _ (show cutK _ _ _ from cutL ⟨_, rfl, h⟩ (Le_can [(32, some 64)] [] hρ (by kernel_rfl) ?_ ?_))
   ·simp only [AL, EV, seval, hc1]
   ·simp only [AL, EV, seval, hc1]
  ·obtain ⟨x5, h4, hv1⟩ := bO_inv hv1; simp only [EV, seval, hc1]; refine rC_p (s_QubitCount_ok h4) (by simp only [AL, EV, seval, hc1]) (le_d rfl) (no_j rfl) ?_; obtain ⟨x6, h5, hv1⟩ := bO_inv hv1; simp only [EV, seval, hc1]; refine rC_p (s_IsValidGate_ok h5) (by simp only [AL, EV, seval, hc1]) (le_d rfl) (no_j rfl) ?_; cases hv1; simp only [EV, seval, hc1]; refine hK _ _ _ (show cutK _ _ _ from cutL ⟨_, rfl, h⟩ (Le_can [(32, some 64)] [] hρ (by kernel_rfl) ?_ ?_))
   ·simp only [AL, EV, seval, hc1]
   ·simp only [AL, EV, seval, hc1]
 ·rintro S ⟨v1, rfl, h⟩; unfold s_ApplyGate_j1 at h; refine AB h (fun hc2 h => ?_) fun hc2 h => ?_
  ·refine AN hN ?_; injection h with h; subst h; exact AX (b' := 64) [(4, .own 32 0), (5, .bool false)] [(32, .row 45 5 (encL EIIIII ([])))] [(32, some 64)] [] hρ (EQ [32])
  ·refine AW_skip (AK ?_); refine AR hN fun K hK => ?_; obtain ⟨h6, h⟩ := gd_inv h; replace h6 := of_decide_eq_true h6; have h7 := zrow_enc (e := EIIIII) ((0, 0, 0, 0, 0)) (Int.toNat ((a5.length : Int))); simp only [EN] at h7; have h8 : (List.replicate (Int.toNat ((a5.length : Int))) ((0, 0, 0, 0, 0) : Int × Int × Int × Int × Int)).length = Int.toNat ((a5.length : Int)) := List.length_replicate; simp only [EV, seval, h6, h7, h8]; refine hK _ _ _ ?_; clear hK K; refine AW_cutK (fun S => ∃ (v31 : LF), S = ⟨mkT [(6, .own 32 v31.length)], mkR [(32, .row 45 5 (encL EIIIII v31))], 64⟩ ∧ s_ApplyGate_j2 v31 = some r) ?_ ?_
   ·refine AN hN ?_; refine AW_block ?_; refine AW_loopF (fun n S => ∃ (v21 : Int) (v22 : LF), S = ⟨mkT [(1, .sl (encL EIIIII a5) a5.length), (2, .ptr 32 0), (6, .own 33 v22.length), (7, .int .i64 v21)], mkR [(32, .box 68 [.int .i64 a1, .int .i64 a2, .int .i64 a3, .int .i64 a4]), (33, .row 45 5 (encL EIIIII v22))], 64⟩ ∧ s_ApplyGate_l1 a1 a2 a3 a4 a5 n v21 v22 = some r) FU ?_ ?_ ?_
    ·exact AC ⟨_, _, rfl, h⟩ [(32, some 32), (33, some 96)] [] hρ
    ·rintro S ⟨_, _, _, h⟩; rw [s_ApplyGate_l1] at h; cases h
    ·rintro n3 S ⟨v21, v22, rfl, h⟩; rw [s_ApplyGate_l1] at h; refine AW_seq ?_; refine AN hN ?_; refine AB h (fun hc25 h => ?_) fun hc25 h => ?_
     ·refine AW_skip (AK ?_); refine AW_cutK (fun S => ∃ (v30 : LF), S = ⟨mkT [(1, .sl (encL EIIIII a5) a5.length), (2, .ptr 32 0), (6, .own 33 v30.length), (7, .int .i64 v21)], mkR [(32, .box 68 [.int .i64 a1, .int .i64 a2, .int .i64 a3, .int .i64 a4]), (33, .row 45 5 (encL EIIIII v30))], 64⟩ ∧ s_ApplyGate_j11 v21 (s_ApplyGate_l1 a1 a2 a3 a4 a5 n3) v30 = some r) ?_ ?_
      ·refine AW_block ?_; refine AW_seq ?_; refine AR hN fun K hK => ?_; obtain ⟨q15, h63, h⟩ := bO_inv h; obtain ⟨⟨h64a, h64b⟩, h64c⟩ := geti_E EIIIIIl h63; (try simp only [EV, seval] at h64c); simp only [EV, seval, h64a, h64b, h64c]; refine hK _ _ _ ?_; clear hK K; refine AW_condK (a := .bool (((q15.1 == 0) && ((q15.2.1 == 0) && ((q15.2.2.1 == 0) && ((q15.2.2.2.1 == 0) && (q15.2.2.2.2 == 0))))))) (by simp only [EV, seval, h64a, h64b, h64c]) (brK h (fun hc26 h => ?_) (fun hc26 h => ?_))
       ·refine AW_exit (show cutK _ _ _ from cutL ⟨_, rfl, h⟩ (Le_can [(32, some 32), (33, some 33)] [] hρ (by kernel_rfl) ?_ ?_))
        ·simp only [AL, EV, seval, h64a, h64b, h64c]
        ·simp only [AL, EV, seval, h64a, h64b, h64c]
       ·refine AW_skip (AK ?_); refine AR hN fun K hK => ?_; obtain ⟨x27, h65, h⟩ := bO_inv h; simp only [EV, seval]; refine rC_p (s_l10Goes_ok h65) (by simp only [AL, EV, seval]) (le_d rfl) (site_1 (by simp only [EV, seval])) ?_; simp only [EV, seval]; refine hK _ _ _ ?_; clear hK K; refine AN hN ?_; refine AW_block ?_; refine AW_loopF (fun n S => ∃ (v27 : Int) (v28 : LF), S = ⟨mkT [(1, .sl (encL EIIIII a5) a5.length), (2, .ptr 32 0), (6, .own 33 v28.length), (7, .int .i64 v21), (8, .own 34 x27.length), (9, .int .i64 v27)], mkR [(32, .box 68 [.int .i64 a1, .int .i64 a2, .int .i64 a3, .int .i64 a4]), (33, .row 45 5 (encL EIIIII v28)), (34, .row 105 6 (encL EIIIIII x27))], 64⟩ ∧ s_ApplyGate_l4 v21 (s_ApplyGate_l1 a1 a2 a3 a4 a5 n3) q15 x27 n v27 v28 = some r) FU ?_ ?_ ?_
        ·exact AC ⟨_, _, rfl, h⟩ [(32, some 32), (33, some 33), (34, some 2144)] [] hρ
        ·rintro S ⟨_, _, _, h⟩; rw [s_ApplyGate_l4] at h; cases h
        ·rintro n4 S ⟨v27, v28, rfl, h⟩; rw [s_ApplyGate_l4] at h; refine AW_seq ?_; refine AN hN ?_; refine AB h (fun hc33 h => ?_) fun hc33 h => ?_
         ·refine AW_skip (AK ?_); refine AW_seq ?_; refine AW_block ?_; refine AR hN fun K hK => ?_; obtain ⟨q20, h82, h⟩ := bO_inv h; obtain ⟨⟨h83a, h83b⟩, h83c⟩ := geti_E EIIIIIIl h82; (try simp only [EV, seval] at h83c); have h84 := geti_F EIIIIIIl 1 h82; (try simp only [EV, seval] at h84); obtain ⟨x34, h85, h⟩ := bO_inv h; simp only [EV, seval, h64a, h64b, h64c, h83a, h83b, h83c, h84]; refine rC_p (s_MulDOmega_ok h85) (by simp only [AL, EV, seval, h64a, h64b, h64c, h83a, h83b, h83c, h84]) (le_d rfl) (no_j rfl) ?_; simp only [EV, seval, h64a, h64b, h64c, h83a, h83b, h83c, h84]; refine hK _ _ _ ?_; clear hK K; refine AR hN fun K hK => ?_; obtain ⟨q21, h86, h⟩ := bO_inv h; obtain ⟨⟨h87a, h87b⟩, h87c⟩ := geti_E EIIIIIl h86; (try simp only [EV, seval] at h87c); obtain ⟨x35, h88, h⟩ := bO_inv h; simp only [EV, seval, h83a, h83b, h83c, h87a, h87b, h87c]; refine rC_p (s_AddDOmega_ok h88) (by simp only [AL, EV, seval, h83a, h83b, h83c, h87a, h87b, h87c]) (le_d rfl) (no_j rfl) ?_; simp only [EV, seval, h83a, h83b, h83c, h87a, h87b, h87c]; refine hK _ _ _ ?_; clear hK K; refine AW_seq ?_; refine AJ (fun S => ∃ (v29 : Bool), S = ⟨mkT [(1, .sl (encL EIIIII a5) a5.length), (2, .ptr 32 0), (6, .own 33 v28.length), (7, .int .i64 v21), (8, .own 34 x27.length), (9, .int .i64 v27), (12, .ptr 35 0), (80, .bool v29)], mkR [(32, .box 68 [.int .i64 a1, .int .i64 a2, .int .i64 a3, .int .i64 a4]), (33, .row 45 5 (encL EIIIII v28)), (34, .row 105 6 (encL EIIIIII x27)), (35, .box 45 [.int .i64 x35.1, .int .i64 x35.2.1, .int .i64 x35.2.2.1, .int .i64 x35.2.2.2.1, .int .i64 x35.2.2.2.2.1])], 64⟩ ∧ s_ApplyGate_j14 v27 v28 (s_ApplyGate_l4 v21 (s_ApplyGate_l1 a1 a2 a3 a4 a5 n3) q15 x27 n4) q20 x35 v29 = some r) hN ?_ ?_
          ·intro K hK; obtain ⟨x36, hv10, h⟩ := bO_inv h; rcases br_inv hv10 with ⟨hc34, hv10⟩ | ⟨hc34, hv10⟩
           ·cases hv10; simp only [EV, seval, hc34]; refine hK _ _ _ (show cutK _ _ _ from cutL ⟨_, rfl, h⟩ (Le_can [(32, some 32), (33, some 33), (34, some 34), (35, some 2320)] [] hρ (by kernel_rfl) ?_ ?_))
            ·simp only [AL, EV, seval, hc34]
            ·simp only [AL, EV, seval, hc34]
           ·cases hv10; simp only [EV, seval, hc34]; refine hK _ _ _ (show cutK _ _ _ from cutL ⟨_, rfl, h⟩ (Le_can [(32, some 32), (33, some 33), (34, some 34), (35, some 2320)] [] hρ (by kernel_rfl) ?_ ?_))
            ·simp only [AL, EV, seval, hc34]
            ·simp only [AL, EV, seval, hc34]
          ·rintro S ⟨v29, rfl, h⟩; unfold s_ApplyGate_j14 at h; refine AW_condK (a := .bool v29) (by simp only [EV, seval, h83a, h83b, h83c, h87a, h87b, h87c]) (brK h (fun hc35 h => ?_) (fun hc35 h => ?_))
           ·refine AN hN ?_; injection h with h; subst h; exact AX (b' := 64) [(4, .own 32 0), (5, .bool false)] [(32, .row 45 5 (encL EIIIII ([])))] [(32, some 64)] [] hρ (EQ [32])
           ·refine AW_skip (AK ?_); refine AS hN fun K hK => ?_; have h89 := set_E EIIIIIl ((x35.1, x35.2.1, x35.2.2.1, x35.2.2.2.1, x35.2.2.2.2.1)) 0 [.int .i64 x35.1, .int .i64 x35.2.1, .int .i64 x35.2.2.1, .int .i64 x35.2.2.2.1, .int .i64 x35.2.2.2.2.1] h86 (Nat.le_of_ble_eq_true rfl) rfl; obtain ⟨h89a, h89b⟩ := h89; (try simp only [EV, seval] at h89a); (try simp only [EV, seval] at h89b); simp only [EV, seval, h83a, h83b, h83c, h87a, h87b, h87c, h89a, h89b]; refine hK _ _ _ (show AW _ _ _ _ _ from ?_); refine AS hN fun K hK => ?_; simp only [EV, seval]; exact hK _ _ _ (AC ⟨_, _, rfl, h⟩ [(32, some 32), (33, some 33), (34, some 34)] [] hρ)
         ·exact AW_exit (AC ⟨_, rfl, h⟩ [(32, some 32), (33, some 33)] [] hρ)
      ·rintro S ⟨v30, rfl, h⟩; unfold s_ApplyGate_j11 at h; refine AS hN fun K hK => ?_; simp only [EV, seval]; exact hK _ _ _ (AC ⟨_, _, rfl, h⟩ [(32, some 32), (33, some 33)] [] hρ)
     ·exact AW_exit (AC ⟨_, rfl, h⟩ [(32, some 33)] [] hρ)
   ·rintro S ⟨v31, rfl, h⟩; unfold s_ApplyGate_j2 at h; refine AN hN ?_; injection h with h; subst h; exact AX (b' := 64) [(4, .own 32 v31.length), (5, .bool true)] [(32, .row 45 5 (encL EIIIII v31))] [(32, some 32)] [] hρ (EQ [32])
/- spec.OneDOmega -/
def s_OneDOmega : Option (Int × Int × Int × Int × Int) :=
  some (1, 0, 0, 0, 0)
theorem s_OneDOmega_ok {r : Int × Int × Int × Int × Int} (h : s_OneDOmega = some r) :
    Spec Try.prog 59 [] [] (.agg [.int .i64 r.1, .int .i64 r.2.1, .int .i64 r.2.2.1, .int .i64 r.2.2.2.1, .int .i64 r.2.2.2.2]) [] := by
 unfold s_OneDOmega at h; refine SO Try.func59 rfl Try.ntmps59 fun C hN hρ => ?_; simp only [st0, tmps0, Nat.zero_add, Nat.reduceAdd]; refine AN hN ?_; refine AN hN ?_; injection h with h; subst h; exact AX (b' := 64) [(0, .ptr 32 0)] [(32, .box 45 [.int .i64 1, .int .i64 0, .int .i64 0, .int .i64 0, .int .i64 0])] [(32, some 64)] [] hρ (EQ [])
/- spec.BasisState -/
def s_BasisState_j1 (a1 a2 : Int) (v1 : Bool) : Option (LF) :=
  br v1 (some ([])) (gd (decide (¬ (IntKind.wrap .u64 a1) < 0)) (gd (decide (0 ≤ IntKind.wrap .i64 (1 * 2 ^ min (Int.toNat (IntKind.wrap .u64 a1)) (IntKind.bits .i64)) ∧ IntKind.wrap .i64 (1 * 2 ^ min (Int.toNat (IntKind.wrap .u64 a1)) (IntKind.bits .i64)) ≤ 1048576)) (bO (s_OneDOmega) fun x5 => bO (geti (List.replicate (Int.toNat (IntKind.wrap .i64 (1 * 2 ^ min (Int.toNat (IntKind.wrap .u64 a1)) (IntKind.bits .i64)))) ((0, 0, 0, 0, 0) : Int × Int × Int × Int × Int)) a2) fun q1 => some ((List.replicate (Int.toNat (IntKind.wrap .i64 (1 * 2 ^ min (Int.toNat (IntKind.wrap .u64 a1)) (IntKind.bits .i64)))) ((0, 0, 0, 0, 0) : Int × Int × Int × Int × Int)).set (Int.toNat a2) ((x5.1, x5.2.1, x5.2.2.1, x5.2.2.2.1, x5.2.2.2.2))))))
def s_BasisState (a1 a2 : Int) : Option (LF) :=
  bO (s_l1In a1 1 4) fun x1 => bO (br (!x1) (some true) (gd (decide (¬ (IntKind.wrap .u64 a1) < 0)) (bO (s_l1In a2 0 (IntKind.wrap .i64 ((IntKind.wrap .i64 (1 * 2 ^ min (Int.toNat (IntKind.wrap .u64 a1)) (IntKind.bits .i64))) - 1))) fun x2 => some (!x2)))) fun x3 => s_BasisState_j1 a1 a2 x3
theorem s_BasisState_ok {a1 a2 : Int} {r : LF} (h : s_BasisState a1 a2 = some r) :
    Spec Try.prog 53 [.int .i64 a1, .int .i64 a2] [] (.own 0 r.length) [.row 45 5 (encL EIIIII r)] := by
 unfold s_BasisState at h; refine SO Try.func53 rfl Try.ntmps53 fun C hN hρ => ?_; simp only [st0, tmps0, Nat.zero_add, Nat.reduceAdd]; refine AN hN ?_; refine AW_seq ?_; refine AJ (fun S => ∃ (v1 : Bool), S = ⟨mkT [(0, .int .i64 a1), (1, .int .i64 a2), (17, .bool v1)], mkR [], 64⟩ ∧ s_BasisState_j1 a1 a2 v1 = some r) hN ?_ ?_
 ·intro K hK; obtain ⟨x1, h1, h⟩ := bO_inv h; simp only [EV, seval]; refine CP (s_l1In_ok h1) ?_; obtain ⟨x3, hv1, h⟩ := bO_inv h; rcases br_inv hv1 with ⟨hc1, hv1⟩ | ⟨hc1, hv1⟩
  ·cases hv1; simp only [EV, seval, hc1]; refine hK _ _ _ (show cutK _ _ _ from cutL ⟨_, rfl, h⟩ (Le_can [] [] hρ (by kernel_rfl) ?_ ?_))
   ·simp only [AL, EV, seval, hc1]
   ·simp only [AL, EV, seval, hc1]
  ·obtain ⟨h4, hv1⟩ := gd_inv hv1; replace h4 := of_decide_eq_true h4; obtain ⟨x4, h5, hv1⟩ := bO_inv hv1; simp only [EV, seval, hc1, h4]; refine rC_p (s_l1In_ok h5) (by simp only [AL, EV, seval, hc1, h4]) (le_d rfl) (no_j rfl) ?_; cases hv1; simp only [EV, seval, hc1, h4]; refine hK _ _ _ (show cutK _ _ _ from cutL ⟨_, rfl, h⟩ (Le_can [] [] hρ (by kernel_rfl) ?_ ?_))
   ·simp only [AL, EV, seval, hc1, h4]
   ·simp only [AL, EV, seval, hc1, h4]
 ·rintro S ⟨v1, rfl, h⟩; unfold s_BasisState_j1 at h; refine AB h (fun hc2 h => ?_) fun hc2 h => ?_
  ·refine AN hN ?_; injection h with h; subst h; exact AX (b' := 64) [(4, .own 32 0)] [(32, .row 45 5 (encL EIIIII ([])))] [(32, some 64)] [] hρ (EQ [32])
  ·refine AW_skip (AK ?_); refine AR hN fun K hK => ?_; obtain ⟨h6, h⟩ := gd_inv h; replace h6 := of_decide_eq_true h6; obtain ⟨h7, h⟩ := gd_inv h; replace h7 := of_decide_eq_true h7; have h8 := zrow_enc (e := EIIIII) ((0, 0, 0, 0, 0)) (Int.toNat (IntKind.wrap .i64 (1 * 2 ^ min (Int.toNat (IntKind.wrap .u64 a1)) (IntKind.bits .i64)))); simp only [EN] at h8; have h9 : (List.replicate (Int.toNat (IntKind.wrap .i64 (1 * 2 ^ min (Int.toNat (IntKind.wrap .u64 a1)) (IntKind.bits .i64)))) ((0, 0, 0, 0, 0) : Int × Int × Int × Int × Int)).length = Int.toNat (IntKind.wrap .i64 (1 * 2 ^ min (Int.toNat (IntKind.wrap .u64 a1)) (IntKind.bits .i64))) := List.length_replicate; simp only [EV, seval, h6, h7, h8, h9]; refine hK _ _ _ ?_; clear hK K; refine AR hN fun K hK => ?_; obtain ⟨x5, h10, h⟩ := bO_inv h; simp only [EV, seval]; refine CP (s_OneDOmega_ok h10) ?_; obtain ⟨q1, h11, h⟩ := bO_inv h; obtain ⟨⟨h12a, h12b⟩, h12c⟩ := geti_E EIIIIIl h11; (try simp only [EV, seval] at h12c); (try simp only [EV, seval] at h12b); have h13 := set_E EIIIIIl ((x5.1, x5.2.1, x5.2.2.1, x5.2.2.2.1, x5.2.2.2.2)) 0 [.int .i64 x5.1, .int .i64 x5.2.1, .int .i64 x5.2.2.1, .int .i64 x5.2.2.2.1, .int .i64 x5.2.2.2.2] h11 (Nat.le_of_ble_eq_true rfl) rfl; obtain ⟨h13a, h13b⟩ := h13; (try simp only [EV, seval] at h13a); (try simp only [EV, seval] at h13b); simp only [EV, seval, h12a, h12b, h12c, h13a, h13b]; refine hK _ _ _ ?_; clear hK K; refine AN hN ?_; injection h with h; subst h; exact AX (b' := 64) [(4, .own 32 ((List.replicate (Int.toNat (IntKind.wrap .i64 (1 * 2 ^ min (Int.toNat (IntKind.wrap .u64 a1)) (IntKind.bits .i64)))) ((0, 0, 0, 0, 0) : Int × Int × Int × Int × Int)).set (Int.toNat a2) ((x5.1, x5.2.1, x5.2.2.1, x5.2.2.2.1, x5.2.2.2.2))).length)] [(32, .row 45 5 (encL EIIIII ((List.replicate (Int.toNat (IntKind.wrap .i64 (1 * 2 ^ min (Int.toNat (IntKind.wrap .u64 a1)) (IntKind.bits .i64)))) ((0, 0, 0, 0, 0) : Int × Int × Int × Int × Int)).set (Int.toNat a2) ((x5.1, x5.2.1, x5.2.2.1, x5.2.2.2.1, x5.2.2.2.2)))))] [(32, some 112)] [] hρ (EQ [32])
end Go.Proofs.Ytfjopjalhllplaa
