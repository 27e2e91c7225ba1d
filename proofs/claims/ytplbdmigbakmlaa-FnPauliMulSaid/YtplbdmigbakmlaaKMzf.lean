/- Models of functions, and that the functions do what the models say; printed by a program. -/
import Derived.Test.YtplbdmigbakmlaaK1
import Derived.Test.YtplbdmigbakmlaaK6
namespace Go.Proofs.Ytplbdmigbakmlaa
open Go.RowKit
set_option maxRecDepth 100000
set_option linter.unusedVariables false
set_option linter.unusedSimpArgs false
set_option linter.defProp false
set_option maxHeartbeats 4000000
/- spec.MulMatrix -/
def s_MulMatrix_j2 (v7 : List (List (Int × Int × Int × Int × Int))) : Option (List (List (Int × Int × Int × Int × Int)) × Bool) :=
  bO (s_l7Columns v7) fun x14 => some (x14, true)
def s_MulMatrix_l1 (a1 : List (List (Int × Int × Int × Int × Int))) (a2 : List (List (Int × Int × Int × Int × Int))) : Nat → Int → (List (List (Int × Int × Int × Int × Int))) → Option (List (List (Int × Int × Int × Int × Int)) × Bool)
  | 0, _, _ => none
  | n1 + 1, v5, v6 =>
  br (decide (v5 < ((a2.length : Int)))) (bO (s_l7Column a2 v5) fun x12 => bO (s_ApplyMatrix a1 x12) fun x13 => br (!x13.2) (some ([], false)) (gd (decide (v6.length + ([x13.1]).length ≤ 16777216)) ((s_MulMatrix_l1 a1 a2 n1) (IntKind.wrap .i64 (v5 + 1)) (v6 ++ ([x13.1]))))) (s_MulMatrix_j2 v6)
def s_MulMatrix_j1 (a1 : List (List (Int × Int × Int × Int × Int))) (a2 : List (List (Int × Int × Int × Int × Int))) (v1 : Bool) : Option (List (List (Int × Int × Int × Int × Int)) × Bool) :=
  br v1 (some ([], false)) (s_MulMatrix_l1 a1 a2 FU 0 ([] : List (List (Int × Int × Int × Int × Int))))
def s_MulMatrix (a1 : List (List (Int × Int × Int × Int × Int))) (a2 : List (List (Int × Int × Int × Int × Int))) : Option (List (List (Int × Int × Int × Int × Int)) × Bool) :=
  bO (s_IsValidMatrix a1) fun x1 => bO (br (!x1) (some true) (bO (s_IsValidMatrix a2) fun x2 => some (!x2))) fun x3 => bO (br x3 (some true) (some (((a1.length : Int)) != ((a2.length : Int))))) fun x4 => s_MulMatrix_j1 a1 a2 x4
theorem s_MulMatrix_ok {a1 : List (List (Int × Int × Int × Int × Int))} {a2 : List (List (Int × Int × Int × Int × Int))} {r : List (List (Int × Int × Int × Int × Int)) × Bool} (h : s_MulMatrix a1 a2 = some r) :
    Spec Try.prog 10 [.sl (encL ELIIIIIE a1) a1.length, .sl (encL ELIIIIIE a2) a2.length] [] (.tup [.own 0 r.1.length, .bool r.2]) [.row 55 1 (encL ELIIIIIE r.1)] := by
 unfold s_MulMatrix at h; refine SO Try.func10 rfl Try.ntmps10 fun C hN hρ => ?_; simp only [st0, tmps0, Nat.zero_add, Nat.reduceAdd]; refine AR hN fun K hK => ?_; simp only [EV, seval]; refine hK _ _ _ ?_; clear hK K; refine AW_seq ?_; refine AJ (fun S => ∃ (v1 : Bool), S = ⟨mkT [(0, .sl (encL ELIIIIIE a1) a1.length), (1, .sl (encL ELIIIIIE a2) a2.length), (24, .bool v1)], mkR [], 64⟩ ∧ s_MulMatrix_j1 a1 a2 v1 = some r) hN ?_ ?_
 ·intro K hK; obtain ⟨x1, h1, h⟩ := bO_inv h; simp only [EV, seval]; refine CP (s_IsValidMatrix_ok h1) ?_; obtain ⟨x3, hv1, h⟩ := bO_inv h; rcases br_inv hv1 with ⟨hc1, hv1⟩ | ⟨hc1, hv1⟩
  ·cases hv1; obtain ⟨x5, hv3, h⟩ := bO_inv h; replace hv3 := br_t hv3; cases hv3; (try dsimp only at h); simp only [EV, seval, hc1]; refine hK _ _ _ (show cutK _ _ _ from cutL ⟨_, rfl, h⟩ (Le_can [] [] hρ (by kernel_rfl) ?_ ?_))
   ·simp only [AL, EV, seval, hc1]
   ·simp only [AL, EV, seval, hc1]
  ·obtain ⟨x6, h3, hv1⟩ := bO_inv hv1; simp only [EV, seval, hc1]; refine rC_p (s_IsValidMatrix_ok h3) (by simp only [AL, EV, seval, hc1]) (le_d rfl) (no_j rfl) ?_; cases hv1; obtain ⟨x7, hv4, h⟩ := bO_inv h; rcases br_inv hv4 with ⟨hc3, hv4⟩ | ⟨hc3, hv4⟩
   ·cases hv4; simp only [EV, seval, hc1, hc3]; refine hK _ _ _ (show cutK _ _ _ from cutL ⟨_, rfl, h⟩ (Le_can [] [] hρ (by kernel_rfl) ?_ ?_))
    ·simp only [AL, EV, seval, hc1, hc3]
    ·simp only [AL, EV, seval, hc1, hc3]
   ·cases hv4; simp only [EV, seval, hc1, hc3]; refine hK _ _ _ (show cutK _ _ _ from cutL ⟨_, rfl, h⟩ (Le_can [] [] hρ (by kernel_rfl) ?_ ?_))
    ·simp only [AL, EV, seval, hc1, hc3]
    ·simp only [AL, EV, seval, hc1, hc3]
 ·rintro S ⟨v1, rfl, h⟩; unfold s_MulMatrix_j1 at h; refine AB h (fun hc4 h => ?_) fun hc4 h => ?_
  ·refine AR hN fun K hK => ?_; simp only [EV, seval]; refine hK _ _ _ ?_; clear hK K; injection h with h; subst h; exact AX (b' := 64) [(4, .own 32 0), (5, .bool false)] [(32, .row 55 1 (encL ELIIIIIE ([])))] [(32, some 64)] [] hρ (EQ [32] (by simp only [EV, Try.results10, seval]))
  ·refine AW_skip (AK ?_); refine AR hN fun K hK => ?_; simp only [EV, seval]; refine hK _ _ _ ?_; clear hK K; refine AW_cutK (fun S => ∃ (v7 : List (List (Int × Int × Int × Int × Int))), S = ⟨mkT [(6, .own 32 v7.length)], mkR [(32, .row 55 1 (encL ELIIIIIE v7))], 64⟩ ∧ s_MulMatrix_j2 v7 = some r) ?_ ?_
   ·refine AR hN fun K hK => ?_; simp only [EV, seval]; refine hK _ _ _ ?_; clear hK K; refine AW_block ?_; refine AW_loopF (fun n S => ∃ (v5 : Int) (v6 : List (List (Int × Int × Int × Int × Int))), S = ⟨mkT [(0, .sl (encL ELIIIIIE a1) a1.length), (1, .sl (encL ELIIIIIE a2) a2.length), (6, .own 32 v6.length), (7, .int .i64 v5)], mkR [(32, .row 55 1 (encL ELIIIIIE v6))], 64⟩ ∧ s_MulMatrix_l1 a1 a2 n v5 v6 = some r) FU ?_ ?_ ?_
    ·refine cutL ⟨_, _, rfl, h⟩ (Le_can [(32, some 64)] [] hρ (by kernel_rfl) ?_ ?_)
     ·simp only [AL, EV, seval]
     ·simp only [AL, EV, seval]
    ·rintro S ⟨_, _, _, h⟩; rw [s_MulMatrix_l1] at h; cases h
    ·rintro n1 S ⟨v5, v6, rfl, h⟩; rw [s_MulMatrix_l1] at h; refine AW_seq ?_; refine AR hN fun K hK => ?_; simp only [EV, seval]; refine hK _ _ _ ?_; clear hK K; refine AB h (fun hc9 h => ?_) fun hc9 h => ?_
     ·refine AW_skip (AK ?_); refine AW_seq ?_; refine AW_block ?_; refine AR hN fun K hK => ?_; obtain ⟨x12, h10, h⟩ := bO_inv h; simp only [EV, seval]; refine rC_p (s_l7Column_ok h10) (by simp only [AL, EV, seval]) (le_d rfl) (site_1 (by simp only [EV, seval])) ?_; obtain ⟨x13, h11, h⟩ := bO_inv h; simp only [EV, seval]; refine rC_l (s_ApplyMatrix_ok h11) (by simp only [AL, EV, seval]) (by simp only [AL, EF, and_self]) (le_d rfl) (site_1 (by simp only [EV, seval])) ?_; simp only [EV, seval]; refine hK _ _ _ ?_; clear hK K; refine AW_seq ?_; refine AR hN fun K hK => ?_; simp only [EV, seval]; refine hK _ _ _ ?_; clear hK K; refine AB h (fun hc10 h => ?_) fun hc10 h => ?_
      ·refine AR hN fun K hK => ?_; simp only [EV, seval]; refine hK _ _ _ ?_; clear hK K; injection h with h; subst h; exact AX (b' := 64) [(4, .own 32 0), (5, .bool false)] [(32, .row 55 1 (encL ELIIIIIE ([])))] [(32, some 3136)] [] hρ (EQ [32] (by simp only [EV, Try.results10, seval]))
      ·refine AW_skip (AK ?_); refine AW_le (Le_can (lt := [(0, .sl (encL ELIIIIIE a1) a1.length), (1, .sl (encL ELIIIIIE a2) a2.length), (6, .own 32 v6.length), (7, .int .i64 v5), (8, .sl (encL EIIIII x13.1) x13.1.length)]) (lr := [(32, .row 55 1 (encL ELIIIIIE v6))]) (b' := 3152) [(32, some 32)] [1152] hρ (by kernel_rfl) ?_ ?_) ?_
       ·simp only [AL, EV, seval]
       ·simp only [AL, EV, seval]
       refine AS hN fun K hK => ?_; obtain ⟨h12, h⟩ := gd_inv h; replace h12 := of_decide_eq_true h12; (try simp only [EV, seval] at h12); simp only [EV, seval, h12]; refine hK _ _ _ (show AW _ _ _ _ _ from ?_); refine AS hN fun K hK => ?_; simp only [EV, seval]; exact hK _ _ _ (AC ⟨_, _, rfl, h⟩ [(32, some 3200)] [] hρ)
     ·refine AW_exit (show cutK _ _ _ from cutL ⟨_, rfl, h⟩ (Le_can [(32, some 32)] [] hρ (by kernel_rfl) ?_ ?_))
      ·simp only [AL, EV, seval]
      ·simp only [AL, EV, seval]
   ·rintro S ⟨v7, rfl, h⟩; unfold s_MulMatrix_j2 at h; refine AW_le (Le_can (lt := [(6, .sl (encL ELIIIIIE v7) v7.length)]) (lr := []) (b' := 80) [] [32] hρ (by kernel_rfl) ?_ ?_) ?_
    ·simp only [AL, EV, seval]
    ·simp only [AL, EV, seval]
    refine AR hN fun K hK => ?_; obtain ⟨x14, h13, h⟩ := bO_inv h; simp only [EV, seval]; refine rC_p (s_l7Columns_ok h13) (by simp only [AL, EV, seval]) (le_d rfl) (site_1 (by simp only [EV, seval])) ?_; simp only [EV, seval]; refine hK _ _ _ ?_; clear hK K; injection h with h; subst h; exact AX (b' := 64) [(4, .own 32 x14.length), (5, .bool true)] [(32, .row 55 1 (encL ELIIIIIE x14))] [(32, some 96)] [] hρ (EQ [32] (by simp only [EV, Try.results10, seval]))
/- spec.EqualState -/
def s_EqualState_j1 : Option Bool :=
  some true
def s_EqualState_l1 (a1 : List (Int × Int × Int × Int × Int)) (a2 : List (Int × Int × Int × Int × Int)) : Nat → Int → Option Bool
  | 0, _ => none
  | n1 + 1, v2 =>
  br (decide (v2 < ((a1.length : Int)))) (bO (geti a1 v2) fun q5 => bO (geti a2 v2) fun q6 => br (!((q5.1 == q6.1) && ((q5.2.1 == q6.2.1) && ((q5.2.2.1 == q6.2.2.1) && ((q5.2.2.2.1 == q6.2.2.2.1) && (q5.2.2.2.2 == q6.2.2.2.2)))))) (some false) ((s_EqualState_l1 a1 a2 n1) (IntKind.wrap .i64 (v2 + 1)))) (s_EqualState_j1)
def s_EqualState (a1 : List (Int × Int × Int × Int × Int)) (a2 : List (Int × Int × Int × Int × Int)) : Option Bool :=
  br (((a1.length : Int)) != ((a2.length : Int))) (some false) (s_EqualState_l1 a1 a2 FU 0)
theorem s_EqualState_ok {a1 : List (Int × Int × Int × Int × Int)} {a2 : List (Int × Int × Int × Int × Int)} {r : Bool} (h : s_EqualState a1 a2 = some r) :
    Spec Try.prog 44 [.sl (encL EIIIII a1) a1.length, .sl (encL EIIIII a2) a2.length] [] (.bool r) [] := by
 unfold s_EqualState at h; refine SO Try.func44 rfl Try.ntmps44 fun C hN hρ => ?_; simp only [st0, tmps0, Nat.zero_add, Nat.reduceAdd]; refine AR hN fun K hK => ?_; simp only [EV, seval]; refine hK _ _ _ ?_; clear hK K; refine AW_seq ?_; refine AR hN fun K hK => ?_; simp only [EV, seval]; refine hK _ _ _ ?_; clear hK K; refine AB h (fun hc1 h => ?_) fun hc1 h => ?_
 ·refine AR hN fun K hK => ?_; simp only [EV, seval]; refine hK _ _ _ ?_; clear hK K; injection h with h; subst h; exact AX (b' := 64) [(4, .bool false)] [] [] [] hρ (EQ [] (by simp only [EV, Try.results44, seval]))
 ·refine AW_skip (AK ?_); refine AW_cutK (fun S => S = ⟨mkT [], mkR [], 64⟩ ∧ s_EqualState_j1 = some r) ?_ ?_
  ·refine AR hN fun K hK => ?_; simp only [EV, seval]; refine hK _ _ _ ?_; clear hK K; refine AW_block ?_; refine AW_loopF (fun n S => ∃ (v2 : Int), S = ⟨mkT [(0, .sl (encL EIIIII a1) a1.length), (1, .sl (encL EIIIII a2) a2.length), (5, .int .i64 v2)], mkR [], 64⟩ ∧ s_EqualState_l1 a1 a2 n v2 = some r) FU ?_ ?_ ?_
   ·refine cutL ⟨_, rfl, h⟩ (Le_can [] [] hρ (by kernel_rfl) ?_ ?_)
    ·simp only [AL, EV, seval]
    ·simp only [AL, EV, seval]
   ·rintro S ⟨_, _, h⟩; rw [s_EqualState_l1] at h; cases h
   ·rintro n1 S ⟨v2, rfl, h⟩; rw [s_EqualState_l1] at h; refine AW_seq ?_; refine AR hN fun K hK => ?_; simp only [EV, seval]; refine hK _ _ _ ?_; clear hK K; refine AB h (fun hc6 h => ?_) fun hc6 h => ?_
    ·refine AW_skip (AK ?_); refine AW_seq ?_; refine AW_block ?_; refine AR hN fun K hK => ?_; obtain ⟨q5, h9, h⟩ := bO_inv h; obtain ⟨⟨h10a, h10b⟩, h10c⟩ := geti_E EIIIIIl h9; (try simp only [EV, seval] at h10c); obtain ⟨q6, h11, h⟩ := bO_inv h; obtain ⟨⟨h12a, h12b⟩, h12c⟩ := geti_E EIIIIIl h11; (try simp only [EV, seval] at h12c); simp only [EV, seval, h10a, h10b, h10c, h12a, h12b, h12c]; refine hK _ _ _ ?_; clear hK K; refine AW_condK (a := .bool (!((q5.1 == q6.1) && ((q5.2.1 == q6.2.1) && ((q5.2.2.1 == q6.2.2.1) && ((q5.2.2.2.1 == q6.2.2.2.1) && (q5.2.2.2.2 == q6.2.2.2.2))))))) (by simp only [EV, seval, h10a, h10b, h10c, h12a, h12b, h12c]) (brK h (fun hc7 h => ?_) (fun hc7 h => ?_))
     ·refine AR hN fun K hK => ?_; simp only [EV, seval]; refine hK _ _ _ ?_; clear hK K; injection h with h; subst h; exact AX (b' := 64) [(4, .bool false)] [] [] [] hρ (EQ [] (by simp only [EV, Try.results44, seval]))
     ·refine AW_skip (AK ?_); refine AS hN fun K hK => ?_; simp only [EV, seval]; exact hK _ _ _ (AC ⟨_, rfl, h⟩ [] [] hρ)
    ·refine AW_exit (show cutK _ _ _ from cutL ⟨rfl, h⟩ (Le_can [] [] hρ (by kernel_rfl) ?_ ?_))
     ·simp only [AL, EV, seval]
     ·simp only [AL, EV, seval]
  ·rintro S ⟨rfl, h⟩; unfold s_EqualState_j1 at h; refine AR hN fun K hK => ?_; simp only [EV, seval]; refine hK _ _ _ ?_; clear hK K; injection h with h; subst h; exact AX (b' := 64) [(4, .bool true)] [] [] [] hρ (EQ [] (by simp only [EV, Try.results44, seval]))
/- spec.EqualMatrix -/
def s_EqualMatrix_j1 : Option Bool :=
  some true
def s_EqualMatrix_l1 (a1 : List (List (Int × Int × Int × Int × Int))) (a2 : List (List (Int × Int × Int × Int × Int))) : Nat → Int → Option Bool
  | 0, _ => none
  | n1 + 1, v2 =>
  br (decide (v2 < ((a1.length : Int)))) (bO (geti a1 v2) fun q5 => bO (geti a2 v2) fun q6 => bO (s_EqualState q5 q6) fun x3 => br (!x3) (some false) ((s_EqualMatrix_l1 a1 a2 n1) (IntKind.wrap .i64 (v2 + 1)))) (s_EqualMatrix_j1)
def s_EqualMatrix (a1 : List (List (Int × Int × Int × Int × Int))) (a2 : List (List (Int × Int × Int × Int × Int))) : Option Bool :=
  br (((a1.length : Int)) != ((a2.length : Int))) (some false) (s_EqualMatrix_l1 a1 a2 FU 0)
theorem s_EqualMatrix_ok {a1 : List (List (Int × Int × Int × Int × Int))} {a2 : List (List (Int × Int × Int × Int × Int))} {r : Bool} (h : s_EqualMatrix a1 a2 = some r) :
    Spec Try.prog 13 [.sl (encL ELIIIIIE a1) a1.length, .sl (encL ELIIIIIE a2) a2.length] [] (.bool r) [] := by
 unfold s_EqualMatrix at h; refine SO Try.func13 rfl Try.ntmps13 fun C hN hρ => ?_; simp only [st0, tmps0, Nat.zero_add, Nat.reduceAdd]; refine AR hN fun K hK => ?_; simp only [EV, seval]; refine hK _ _ _ ?_; clear hK K; refine AW_seq ?_; refine AR hN fun K hK => ?_; simp only [EV, seval]; refine hK _ _ _ ?_; clear hK K; refine AB h (fun hc1 h => ?_) fun hc1 h => ?_
 ·refine AR hN fun K hK => ?_; simp only [EV, seval]; refine hK _ _ _ ?_; clear hK K; injection h with h; subst h; exact AX (b' := 64) [(4, .bool false)] [] [] [] hρ (EQ [] (by simp only [EV, Try.results13, seval]))
 ·refine AW_skip (AK ?_); refine AW_cutK (fun S => S = ⟨mkT [], mkR [], 64⟩ ∧ s_EqualMatrix_j1 = some r) ?_ ?_
  ·refine AR hN fun K hK => ?_; simp only [EV, seval]; refine hK _ _ _ ?_; clear hK K; refine AW_block ?_; refine AW_loopF (fun n S => ∃ (v2 : Int), S = ⟨mkT [(0, .sl (encL ELIIIIIE a1) a1.length), (1, .sl (encL ELIIIIIE a2) a2.length), (5, .int .i64 v2)], mkR [], 64⟩ ∧ s_EqualMatrix_l1 a1 a2 n v2 = some r) FU ?_ ?_ ?_
   ·refine cutL ⟨_, rfl, h⟩ (Le_can [] [] hρ (by kernel_rfl) ?_ ?_)
    ·simp only [AL, EV, seval]
    ·simp only [AL, EV, seval]
   ·rintro S ⟨_, _, h⟩; rw [s_EqualMatrix_l1] at h; cases h
   ·rintro n1 S ⟨v2, rfl, h⟩; rw [s_EqualMatrix_l1] at h; refine AW_seq ?_; refine AR hN fun K hK => ?_; simp only [EV, seval]; refine hK _ _ _ ?_; clear hK K; refine AB h (fun hc6 h => ?_) fun hc6 h => ?_
    ·refine AW_skip (AK ?_); refine AW_seq ?_; refine AW_block ?_; refine AR hN fun K hK => ?_; obtain ⟨q5, h11, h⟩ := bO_inv h; obtain ⟨⟨h12a, h12b⟩, h12c⟩ := geti_E ELIIIIIEl h11; (try simp only [EV, seval] at h12c); obtain ⟨q6, h13, h⟩ := bO_inv h; obtain ⟨⟨h14a, h14b⟩, h14c⟩ := geti_E ELIIIIIEl h13; (try simp only [EV, seval] at h14c); obtain ⟨x3, h15, h⟩ := bO_inv h; simp only [EV, seval, h12a, h12b, h12c, h14a, h14b, h14c]; refine rC_p (s_EqualState_ok h15) (by simp only [AL, EV, seval, h12a, h12b, h12c, h14a, h14b, h14c]) (le_d rfl) (no_j rfl) ?_; simp only [EV, seval, h12a, h12b, h12c, h14a, h14b, h14c]; refine hK _ _ _ ?_; clear hK K; refine AW_condK (a := .bool (!x3)) (by simp only [EV, seval, h12a, h12b, h12c, h14a, h14b, h14c]) (brK h (fun hc7 h => ?_) (fun hc7 h => ?_))
     ·refine AR hN fun K hK => ?_; simp only [EV, seval]; refine hK _ _ _ ?_; clear hK K; injection h with h; subst h; exact AX (b' := 64) [(4, .bool false)] [] [] [] hρ (EQ [] (by simp only [EV, Try.results13, seval]))
     ·refine AW_skip (AK ?_); refine AS hN fun K hK => ?_; simp only [EV, seval]; exact hK _ _ _ (AC ⟨_, rfl, h⟩ [] [] hρ)
    ·refine AW_exit (show cutK _ _ _ from cutL ⟨rfl, h⟩ (Le_can [] [] hρ (by kernel_rfl) ?_ ?_))
     ·simp only [AL, EV, seval]
     ·simp only [AL, EV, seval]
  ·rintro S ⟨rfl, h⟩; unfold s_EqualMatrix_j1 at h; refine AR hN fun K hK => ?_; simp only [EV, seval]; refine hK _ _ _ ?_; clear hK K; injection h with h; subst h; exact AX (b' := 64) [(4, .bool true)] [] [] [] hρ (EQ [] (by simp only [EV, Try.results13, seval]))
end Go.Proofs.Ytplbdmigbakmlaa
