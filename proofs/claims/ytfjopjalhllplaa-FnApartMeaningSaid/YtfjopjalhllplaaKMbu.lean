/- Models of functions, and that the functions do what the models say; printed by a program. -/
import Derived.Test.YtfjopjalhllplaaK1
import Derived.Test.YtfjopjalhllplaaKMbt
namespace Go.Proofs.Ytfjopjalhllplaa
open Go.RowKit
set_option maxRecDepth 100000
set_option linter.unusedVariables false
set_option linter.unusedSimpArgs false
set_option linter.defProp false
set_option maxHeartbeats 4000000
/- spec.BranchPhases -/
def s_BranchPhases_j1 (v6 : List Int) : Option (List Int × Bool) :=
  some (v6, true)
def s_BranchPhases_l1 (a1 : List (Int × List (LF))) (a2 : List (Int × List (LF))) : Nat → Int → (List Int) → Option (List Int × Bool)
  | 0, _, _ => none
  | n1 + 1, v4, v5 =>
  br (decide (v4 < ((a1.length : Int)))) (bO (geti a1 v4) fun q5 => bO (geti a2 v4) fun q6 => bO (s_l24Apart q5.1 q5.2 q6.1 q6.2) fun x3 => br (!x3.2) (some ([], false)) (gd (decide (v5.length + ([x3.1]).length ≤ 16777216)) ((s_BranchPhases_l1 a1 a2 n1) (IntKind.wrap .i64 (v4 + 1)) (v5 ++ ([x3.1]))))) (s_BranchPhases_j1 v5)
def s_BranchPhases (a1 : List (Int × List (LF))) (a2 : List (Int × List (LF))) : Option (List Int × Bool) :=
  br (((a1.length : Int)) != ((a2.length : Int))) (some ([], false)) (s_BranchPhases_l1 a1 a2 FU 0 ([] : List Int))
theorem s_BranchPhases_ok {a1 : List (Int × List (LF))} {a2 : List (Int × List (LF))} {r : List Int × Bool} (h : s_BranchPhases a1 a2 = some r) :
    Spec Try.prog 7 [.sl (encL EILLIIIIIEE a1) a1.length, .sl (encL EILLIIIIIEE a2) a2.length] [] (.tup [.own 0 r.1.length, .bool r.2]) [.row 3 1 (encL EI r.1)] := by
 unfold s_BranchPhases at h; refine SO Try.func7 rfl Try.ntmps7 fun C hN hρ => ?_; simp only [st0, tmps0, Nat.zero_add, Nat.reduceAdd]; refine AN hN ?_; refine AN hN ?_; refine AW_seq ?_; refine AN hN ?_; refine AB h (fun hc1 h => ?_) fun hc1 h => ?_
 ·refine AN hN ?_; injection h with h; subst h; exact AX (b' := 64) [(4, .own 32 0), (5, .bool false)] [(32, .row 3 1 (encL EI ([])))] [(32, some 1088)] [] hρ (EQ [32])
 ·refine AW_skip (AK ?_); refine AW_cutK (fun S => ∃ (v6 : List Int), S = ⟨mkT [(6, .own 32 v6.length)], mkR [(32, .row 3 1 (encL EI v6))], 64⟩ ∧ s_BranchPhases_j1 v6 = some r) ?_ ?_
  ·refine AN hN ?_; refine AW_block ?_; refine AW_loopF (fun n S => ∃ (v4 : Int) (v5 : List Int), S = ⟨mkT [(0, .sl (encL EILLIIIIIEE a1) a1.length), (1, .sl (encL EILLIIIIIEE a2) a2.length), (6, .own 32 v5.length), (7, .int .i64 v4)], mkR [(32, .row 3 1 (encL EI v5))], 64⟩ ∧ s_BranchPhases_l1 a1 a2 n v4 v5 = some r) FU ?_ ?_ ?_
   ·exact AC ⟨_, _, rfl, h⟩ [(32, some 1088)] [] hρ
   ·rintro S ⟨_, _, _, h⟩; rw [s_BranchPhases_l1] at h; cases h
   ·rintro n1 S ⟨v4, v5, rfl, h⟩; rw [s_BranchPhases_l1] at h; refine AW_seq ?_; refine AN hN ?_; refine AB h (fun hc6 h => ?_) fun hc6 h => ?_
    ·refine AW_skip (AK ?_); refine AW_seq ?_; refine AW_block ?_; refine AR hN fun K hK => ?_; obtain ⟨q5, h13, h⟩ := bO_inv h; obtain ⟨⟨h14a, h14b⟩, h14c⟩ := geti_E EILLIIIIIEEl h13; (try simp only [EV, seval] at h14c); obtain ⟨q6, h15, h⟩ := bO_inv h; obtain ⟨⟨h16a, h16b⟩, h16c⟩ := geti_E EILLIIIIIEEl h15; (try simp only [EV, seval] at h16c); obtain ⟨x3, h17, h⟩ := bO_inv h; simp only [EV, seval, h14a, h14b, h14c, h16a, h16b, h16c]; refine rC_p (s_l24Apart_ok h17) (by simp only [AL, EV, seval, h14a, h14b, h14c, h16a, h16b, h16c]) (le_d rfl) (no_j rfl) ?_; simp only [EV, seval, h14a, h14b, h14c, h16a, h16b, h16c]; refine hK _ _ _ ?_; clear hK K; refine AW_seq ?_; refine AN hN ?_; refine AB h (fun hc7 h => ?_) fun hc7 h => ?_
     ·refine AN hN ?_; injection h with h; subst h; exact AX (b' := 64) [(4, .own 32 0), (5, .bool false)] [(32, .row 3 1 (encL EI ([])))] [(32, some 3136)] [] hρ (EQ [32])
     ·refine AW_skip (AK ?_); refine AS hN fun K hK => ?_; obtain ⟨h18, h⟩ := gd_inv h; replace h18 := of_decide_eq_true h18; (try simp only [EV, seval] at h18); simp only [EV, seval, h18]; refine hK _ _ _ (show AW _ _ _ _ _ from ?_); refine AS hN fun K hK => ?_; simp only [EV, seval]; exact hK _ _ _ (AC ⟨_, _, rfl, h⟩ [(32, some 3184)] [] hρ)
    ·exact AW_exit (AC ⟨_, rfl, h⟩ [(32, some 32)] [] hρ)
  ·rintro S ⟨v6, rfl, h⟩; unfold s_BranchPhases_j1 at h; refine AN hN ?_; injection h with h; subst h; exact AX (b' := 64) [(4, .own 32 v6.length), (5, .bool true)] [(32, .row 3 1 (encL EI v6))] [(32, some 32)] [] hρ (EQ [32])
end Go.Proofs.Ytfjopjalhllplaa
