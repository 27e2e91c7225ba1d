/- Models of functions, and that the functions do what the models say; printed by a program. -/
import Derived.Test.YtbkkfmcjfbbkaaaGn
import Derived.Test.YtbkkfmcjfbbkaaaMa
import Derived.Test.YtbkkfmcjfbbkaaaMb
namespace Go.Proofs.Ytbkkfmcjfbbkaaa
open Go.RowKit
set_option maxRecDepth 100000
set_option linter.unusedVariables false
set_option linter.unusedSimpArgs false
set_option linter.defProp false
/- impl.IsValidNormalForm -/
def i_IsValidNormalForm_j4 (v6 : Int) (v7 : Int) (kl1 : Int → Int → Option Bool) (v8 : Bool) : Option Bool :=
  br v8 (some false) (kl1 v6 (IntKind.wrap .i64 (v7 + 1)))
def i_IsValidNormalForm_j5 (v9 : Bool) : Option Bool :=
  some v9
def i_IsValidNormalForm_j1 (a2 : Int) (a3 : LQ) : Option Bool :=
  bO (br (a2 == 1) (bO (i_IsValidTableau a2 a3) fun x11 => some x11) (some false)) fun x12 => i_IsValidNormalForm_j5 x12
def i_IsValidNormalForm_l1 (a1 : List Int) (a2 : Int) (a3 : LQ) : Nat → Int → Int → Option Bool
  | 0, _, _ => none
  | n1 + 1, v6, v7 =>
  br (decide (v7 < v6)) (bO (geti a1 v7) fun q3 => bO (i_in q3 0 2) fun x7 => bO (br (!x7) (some true) (bO (br (decide (0 < v7)) (some (q3 == 0)) (some false)) fun x8 => some x8)) fun x9 => i_IsValidNormalForm_j4 v6 v7 (i_IsValidNormalForm_l1 a1 a2 a3 n1) x9) (i_IsValidNormalForm_j1 a2 a3)
def i_IsValidNormalForm (a1 : List Int) (a2 : Int) (a3 : LQ) : Option Bool :=
  i_IsValidNormalForm_l1 a1 a2 a3 FU ((a1.length : Int)) 0
set_option maxHeartbeats 4000000 in
theorem i_IsValidNormalForm_ok {a1 : List Int} {a2 : Int} {a3 : LQ} {r : Bool} (h : i_IsValidNormalForm a1 a2 a3 = some r) :
    Spec Try.prog 59 [.agg [.sl (encL EI a1) a1.length, .int .i64 a2, .sl (encL EIIII a3) a3.length]] [] (.bool r) [] := by
 unfold i_IsValidNormalForm at h; refine spec_of Try.func59 rfl (by kernel_rfl) (by simp only [Try.ntmps59, List.length_cons, List.length_nil, Nat.reduceAdd, Nat.reduceLeDiff]) ?_; intro C hN hρ; rw [Try.ntmps59] at hN; unfold st0; simp only [tmps0, Nat.zero_add, Nat.reduceAdd]; refine AR hN fun K hK => ?_; simp only [EV, seval]; refine hK _ _ _ ?_; clear hK K; refine AW_cutK (fun S => S = ⟨mkT [(1, .ptr 32 0)], mkR [(32, .box 29 [.sl (encL EI a1) a1.length, .int .i64 a2, .sl (encL EIIII a3) a3.length])], 64⟩ ∧ i_IsValidNormalForm_j1 a2 a3 = some r) ?_ ?_
 ·refine AR hN fun K hK => ?_; simp only [EV, seval]; refine hK _ _ _ ?_; clear hK K; refine AW_block ?_; refine AW_loopF (fun n S => ∃ (v6 : Int) (v7 : Int), S = ⟨mkT [(1, .ptr 32 0), (6, .sl (encL EI a1) a1.length), (7, .int .i64 v6), (8, .int .i64 v7)], mkR [(32, .box 29 [.sl (encL EI a1) a1.length, .int .i64 a2, .sl (encL EIIII a3) a3.length])], 64⟩ ∧ i_IsValidNormalForm_l1 a1 a2 a3 n v6 v7 = some r) FU ?_ ?_ ?_
  ·refine cutL ⟨_, _, rfl, h⟩ (Le_can [(32, some 64)] [] hρ (by kernel_rfl) ?_ ?_)
   ·simp only [AL, EV, seval]
   ·simp only [AL, EV, seval]
  ·rintro S ⟨_, _, _, h⟩; rw [i_IsValidNormalForm_l1] at h; cases h
  ·rintro n1 S ⟨v6, v7, rfl, h⟩; rw [i_IsValidNormalForm_l1] at h; refine AR hN fun K hK => ?_; simp only [EV, seval]; refine hK _ _ _ ?_; clear hK K; refine AW_seq ?_; refine AW_condK (a := .bool (decide (v7 < v6))) (by simp only [EV, seval]) (brK h (fun hc9 h => ?_) (fun hc9 h => ?_))
   ·refine AW_skip (AK ?_); refine AW_seq ?_; refine AW_block ?_; refine AR hN fun K hK => ?_; obtain ⟨q3, h7, h⟩ := bO_inv h; obtain ⟨⟨h8a, h8b⟩, h8c⟩ := geti_E EIl h7; (try simp only [EV, seval] at h8c); simp only [EV, seval, h8a, h8b, h8c]; refine hK _ _ _ ?_; clear hK K; refine AJ (fun S => ∃ (v8 : Bool), S = ⟨mkT [(1, .ptr 32 0), (6, .sl (encL EI a1) a1.length), (7, .int .i64 v6), (8, .int .i64 v7), (23, .bool v8)], mkR [(32, .box 29 [.sl (encL EI a1) a1.length, .int .i64 a2, .sl (encL EIIII a3) a3.length])], 64⟩ ∧ i_IsValidNormalForm_j4 v6 v7 (i_IsValidNormalForm_l1 a1 a2 a3 n1) v8 = some r) hN ?_ ?_
    ·intro K hK; obtain ⟨x7, h9, h⟩ := bO_inv h; simp only [EV, seval]; refine CP (i_in_ok h9) ?_; obtain ⟨x9, hv5, h⟩ := bO_inv h; rcases br_inv hv5 with ⟨hc10, hv5⟩ | ⟨hc10, hv5⟩
     ·cases hv5; simp only [EV, seval, hc10]; refine hK _ _ _ (show cutK _ _ _ from cutL ⟨_, rfl, h⟩ (Le_can [(32, some 32)] [] hρ (by kernel_rfl) ?_ ?_))
      ·simp only [AL, EV, seval, hc10]
      ·simp only [AL, EV, seval, hc10]
     ·obtain ⟨x10, hv7, hv5⟩ := bO_inv hv5; rcases br_inv hv7 with ⟨hc12, hv7⟩ | ⟨hc12, hv7⟩
      ·cases hv7; cases hv5; simp only [EV, seval, hc10, hc12]; refine hK _ _ _ (show cutK _ _ _ from cutL ⟨_, rfl, h⟩ (Le_can [(32, some 32)] [] hρ (by kernel_rfl) ?_ ?_))
       ·simp only [AL, EV, seval, hc10, hc12]
       ·simp only [AL, EV, seval, hc10, hc12]
      ·cases hv7; cases hv5; simp only [EV, seval, hc10, hc12]; refine hK _ _ _ (show cutK _ _ _ from cutL ⟨_, rfl, h⟩ (Le_can [(32, some 32)] [] hρ (by kernel_rfl) ?_ ?_))
       ·simp only [AL, EV, seval, hc10, hc12]
       ·simp only [AL, EV, seval, hc10, hc12]
    ·rintro S ⟨v8, rfl, h⟩; unfold i_IsValidNormalForm_j4 at h; refine AW_condK (a := .bool v8) (by simp only [EV, seval, h8a, h8b, h8c]) (brK h (fun hc13 h => ?_) (fun hc13 h => ?_))
     ·refine AR hN fun K hK => ?_; simp only [EV, seval]; refine hK _ _ _ ?_; clear hK K; injection h with h; subst h; exact AX (b' := 64) [(2, .bool false)] [] [] [] hρ (EQ [] (by simp only [EV, Try.results59, seval]))
     ·refine AW_skip (AK ?_); refine AS hN fun K hK => ?_; simp only [EV, seval]; exact hK _ _ _ (AC ⟨_, _, rfl, h⟩ [(32, some 32)] [] hρ)
   ·refine AW_exit (show cutK _ _ _ from cutL ⟨rfl, h⟩ (Le_can [(32, some 32)] [] hρ (by kernel_rfl) ?_ ?_))
    ·simp only [AL, EV, seval]
    ·simp only [AL, EV, seval]
 ·rintro S ⟨rfl, h⟩; unfold i_IsValidNormalForm_j1 at h; refine AJ (fun S => ∃ (v9 : Bool), S = ⟨mkT [(2, .bool v9)], mkR [], 64⟩ ∧ i_IsValidNormalForm_j5 v9 = some r) hN ?_ ?_
  ·intro K hK; obtain ⟨x12, hv8, h⟩ := bO_inv h; rcases br_inv hv8 with ⟨hc14, hv8⟩ | ⟨hc14, hv8⟩
   ·obtain ⟨x13, h11, hv8⟩ := bO_inv hv8; simp only [EV, seval, hc14]; refine rC_p (i_IsValidTableau_ok h11) (by simp only [AL, EV, seval, hc14]) (le_d rfl) (no_j rfl) ?_; cases hv8; simp only [EV, seval, hc14]; refine hK _ _ _ (show cutK _ _ _ from cutL ⟨_, rfl, h⟩ (Le_can [] [] hρ (by kernel_rfl) ?_ ?_))
    ·simp only [AL, EV, seval, hc14]
    ·simp only [AL, EV, seval, hc14]
   ·cases hv8; simp only [EV, seval, hc14]; refine hK _ _ _ (show cutK _ _ _ from cutL ⟨_, rfl, h⟩ (Le_can [] [] hρ (by kernel_rfl) ?_ ?_))
    ·simp only [AL, EV, seval, hc14]
    ·simp only [AL, EV, seval, hc14]
  ·rintro S ⟨v9, rfl, h⟩; unfold i_IsValidNormalForm_j5 at h; injection h with h; subst h; exact AX (b' := 64) [(2, .bool v9)] [] [] [] hρ (EQ [] (by simp only [EV, Try.results59, seval]))
/- spec.IsValidNormalForm -/
def s_IsValidNormalForm_j4 (v4 : Int) (kl1 : Int → Option Bool) (v5 : Bool) : Option Bool :=
  br v5 (some false) (kl1 (IntKind.wrap .i64 (v4 + 1)))
def s_IsValidNormalForm_j5 (v6 : Bool) : Option Bool :=
  some v6
def s_IsValidNormalForm_j1 (a2 : Int) (a3 : LQ) : Option Bool :=
  bO (s_IsValidTableau a2 a3) fun x11 => bO (br x11 (some (a2 == 1)) (some false)) fun x12 => s_IsValidNormalForm_j5 x12
def s_IsValidNormalForm_l1 (a1 : List Int) (a2 : Int) (a3 : LQ) : Nat → Int → Option Bool
  | 0, _ => none
  | n1 + 1, v4 =>
  br (decide (v4 < ((a1.length : Int)))) (bO (geti a1 v4) fun q3 => bO (s_l1In q3 0 2) fun x7 => bO (br (!x7) (some true) (bO (br (decide (0 < v4)) (some (q3 == 0)) (some false)) fun x8 => some x8)) fun x9 => s_IsValidNormalForm_j4 v4 (s_IsValidNormalForm_l1 a1 a2 a3 n1) x9) (s_IsValidNormalForm_j1 a2 a3)
def s_IsValidNormalForm (a1 : List Int) (a2 : Int) (a3 : LQ) : Option Bool :=
  s_IsValidNormalForm_l1 a1 a2 a3 FU 0
set_option maxHeartbeats 4000000 in
theorem s_IsValidNormalForm_ok {a1 : List Int} {a2 : Int} {a3 : LQ} {r : Bool} (h : s_IsValidNormalForm a1 a2 a3 = some r) :
    Spec Try.prog 65 [.agg [.sl (encL EI a1) a1.length, .int .i64 a2, .sl (encL EIIII a3) a3.length]] [] (.bool r) [] := by
 unfold s_IsValidNormalForm at h; refine spec_of Try.func65 rfl (by kernel_rfl) (by simp only [Try.ntmps65, List.length_cons, List.length_nil, Nat.reduceAdd, Nat.reduceLeDiff]) ?_; intro C hN hρ; rw [Try.ntmps65] at hN; unfold st0; simp only [tmps0, Nat.zero_add, Nat.reduceAdd]; refine AR hN fun K hK => ?_; simp only [EV, seval]; refine hK _ _ _ ?_; clear hK K; refine AW_cutK (fun S => S = ⟨mkT [(1, .ptr 32 0)], mkR [(32, .box 29 [.sl (encL EI a1) a1.length, .int .i64 a2, .sl (encL EIIII a3) a3.length])], 64⟩ ∧ s_IsValidNormalForm_j1 a2 a3 = some r) ?_ ?_
 ·refine AR hN fun K hK => ?_; simp only [EV, seval]; refine hK _ _ _ ?_; clear hK K; refine AW_block ?_; refine AW_loopF (fun n S => ∃ (v4 : Int), S = ⟨mkT [(1, .ptr 32 0), (3, .int .i64 v4)], mkR [(32, .box 29 [.sl (encL EI a1) a1.length, .int .i64 a2, .sl (encL EIIII a3) a3.length])], 64⟩ ∧ s_IsValidNormalForm_l1 a1 a2 a3 n v4 = some r) FU ?_ ?_ ?_
  ·refine cutL ⟨_, rfl, h⟩ (Le_can [(32, some 64)] [] hρ (by kernel_rfl) ?_ ?_)
   ·simp only [AL, EV, seval]
   ·simp only [AL, EV, seval]
  ·rintro S ⟨_, _, h⟩; rw [s_IsValidNormalForm_l1] at h; cases h
  ·rintro n1 S ⟨v4, rfl, h⟩; rw [s_IsValidNormalForm_l1] at h; refine AW_seq ?_; refine AR hN fun K hK => ?_; simp only [EV, seval]; refine hK _ _ _ ?_; clear hK K; refine AW_condK (a := .bool (decide (v4 < ((a1.length : Int))))) (by simp only [EV, seval]) (brK h (fun hc9 h => ?_) (fun hc9 h => ?_))
   ·refine AW_skip (AK ?_); refine AW_seq ?_; refine AW_block ?_; refine AJ (fun S => ∃ (v5 : Bool), S = ⟨mkT [(1, .ptr 32 0), (3, .int .i64 v4), (29, .bool v5)], mkR [(32, .box 29 [.sl (encL EI a1) a1.length, .int .i64 a2, .sl (encL EIIII a3) a3.length])], 64⟩ ∧ s_IsValidNormalForm_j4 v4 (s_IsValidNormalForm_l1 a1 a2 a3 n1) v5 = some r) hN ?_ ?_
    ·intro K hK; obtain ⟨q3, h7, h⟩ := bO_inv h; obtain ⟨⟨h8a, h8b⟩, h8c⟩ := geti_E EIl h7; (try simp only [EV, seval] at h8c); obtain ⟨x7, h9, h⟩ := bO_inv h; simp only [EV, seval, h8a, h8b, h8c]; refine rC_p (s_l1In_ok h9) (by simp only [AL, EV, seval, h8a, h8b, h8c]) (le_d rfl) (no_j rfl) ?_; obtain ⟨x9, hv5, h⟩ := bO_inv h; rcases br_inv hv5 with ⟨hc10, hv5⟩ | ⟨hc10, hv5⟩
     ·cases hv5; simp only [EV, seval, h8a, h8b, h8c, hc10]; refine hK _ _ _ (show cutK _ _ _ from cutL ⟨_, rfl, h⟩ (Le_can [(32, some 32)] [] hρ (by kernel_rfl) ?_ ?_))
      ·simp only [AL, EV, seval, h8a, h8b, h8c, hc10]
      ·simp only [AL, EV, seval, h8a, h8b, h8c, hc10]
     ·obtain ⟨x10, hv7, hv5⟩ := bO_inv hv5; rcases br_inv hv7 with ⟨hc12, hv7⟩ | ⟨hc12, hv7⟩
      ·cases hv7; cases hv5; simp only [EV, seval, h8a, h8b, h8c, hc10, hc12]; refine hK _ _ _ (show cutK _ _ _ from cutL ⟨_, rfl, h⟩ (Le_can [(32, some 32)] [] hρ (by kernel_rfl) ?_ ?_))
       ·simp only [AL, EV, seval, h8a, h8b, h8c, hc10, hc12]
       ·simp only [AL, EV, seval, h8a, h8b, h8c, hc10, hc12]
      ·cases hv7; cases hv5; simp only [EV, seval, h8a, h8b, h8c, hc10, hc12]; refine hK _ _ _ (show cutK _ _ _ from cutL ⟨_, rfl, h⟩ (Le_can [(32, some 32)] [] hρ (by kernel_rfl) ?_ ?_))
       ·simp only [AL, EV, seval, h8a, h8b, h8c, hc10, hc12]
       ·simp only [AL, EV, seval, h8a, h8b, h8c, hc10, hc12]
    ·rintro S ⟨v5, rfl, h⟩; unfold s_IsValidNormalForm_j4 at h; refine AW_condK (a := .bool v5) (by simp only [EV, seval]) (brK h (fun hc13 h => ?_) (fun hc13 h => ?_))
     ·refine AR hN fun K hK => ?_; simp only [EV, seval]; refine hK _ _ _ ?_; clear hK K; injection h with h; subst h; exact AX (b' := 64) [(2, .bool false)] [] [] [] hρ (EQ [] (by simp only [EV, Try.results65, seval]))
     ·refine AW_skip (AK ?_); refine AS hN fun K hK => ?_; simp only [EV, seval]; exact hK _ _ _ (AC ⟨_, rfl, h⟩ [(32, some 32)] [] hρ)
   ·refine AW_exit (show cutK _ _ _ from cutL ⟨rfl, h⟩ (Le_can [(32, some 32)] [] hρ (by kernel_rfl) ?_ ?_))
    ·simp only [AL, EV, seval]
    ·simp only [AL, EV, seval]
 ·rintro S ⟨rfl, h⟩; unfold s_IsValidNormalForm_j1 at h; refine AJ (fun S => ∃ (v6 : Bool), S = ⟨mkT [(2, .bool v6)], mkR [], 64⟩ ∧ s_IsValidNormalForm_j5 v6 = some r) hN ?_ ?_
  ·intro K hK; obtain ⟨x11, h10, h⟩ := bO_inv h; simp only [EV, seval]; refine CP (s_IsValidTableau_ok h10) ?_; obtain ⟨x12, hv8, h⟩ := bO_inv h; rcases br_inv hv8 with ⟨hc14, hv8⟩ | ⟨hc14, hv8⟩
   ·cases hv8; simp only [EV, seval, hc14]; refine hK _ _ _ (show cutK _ _ _ from cutL ⟨_, rfl, h⟩ (Le_can [] [] hρ (by kernel_rfl) ?_ ?_))
    ·simp only [AL, EV, seval, hc14]
    ·simp only [AL, EV, seval, hc14]
   ·cases hv8; simp only [EV, seval, hc14]; refine hK _ _ _ (show cutK _ _ _ from cutL ⟨_, rfl, h⟩ (Le_can [] [] hρ (by kernel_rfl) ?_ ?_))
    ·simp only [AL, EV, seval, hc14]
    ·simp only [AL, EV, seval, hc14]
  ·rintro S ⟨v6, rfl, h⟩; unfold s_IsValidNormalForm_j5 at h; injection h with h; subst h; exact AX (b' := 64) [(2, .bool v6)] [] [] [] hρ (EQ [] (by simp only [EV, Try.results65, seval]))
end Go.Proofs.Ytbkkfmcjfbbkaaa
