/- Models of functions, and that the functions do what the models say; printed by a program. -/
import Derived.Test.YtfjopjalhllplaaK1
namespace Go.Proofs.Ytfjopjalhllplaa
open Go.RowKit
set_option maxRecDepth 100000
set_option linter.unusedVariables false
set_option linter.unusedSimpArgs false
set_option linter.defProp false
set_option maxHeartbeats 4000000
/- laws.sameInts -/
def l_sameInts_j1 : Option Bool :=
  some true
def l_sameInts_l1 (a1 : List Int) (a2 : List Int) : Nat → Int → Option Bool
  | 0, _ => none
  | n1 + 1, v2 =>
  br (decide (v2 < ((a1.length : Int)))) (bO (geti a1 v2) fun q5 => bO (geti a2 v2) fun q6 => br (q5 != q6) (some false) ((l_sameInts_l1 a1 a2 n1) (IntKind.wrap .i64 (v2 + 1)))) (l_sameInts_j1)
def l_sameInts (a1 : List Int) (a2 : List Int) : Option Bool :=
  br (((a1.length : Int)) != ((a2.length : Int))) (some false) (l_sameInts_l1 a1 a2 FU 0)
theorem l_sameInts_ok {a1 : List Int} {a2 : List Int} {r : Bool} (h : l_sameInts a1 a2 = some r) :
    Spec Try.prog 8 [.sl (encL EI a1) a1.length, .sl (encL EI a2) a2.length] [] (.bool r) [] := by
 unfold l_sameInts at h; refine SO Try.func8 rfl Try.ntmps8 fun C hN hρ => ?_; simp only [st0, tmps0, Nat.zero_add, Nat.reduceAdd]; refine AN hN ?_; refine AW_seq ?_; refine AN hN ?_; refine AB h (fun hc1 h => ?_) fun hc1 h => ?_
 ·refine AN hN ?_; injection h with h; subst h; exact AX (b' := 64) [(4, .bool false)] [] [] [] hρ (EQ [])
 ·refine AW_skip (AK ?_); refine AW_cutK (fun S => S = ⟨mkT [], mkR [], 64⟩ ∧ l_sameInts_j1 = some r) ?_ ?_
  ·refine AN hN ?_; refine AW_block ?_; refine AW_loopF (fun n S => ∃ (v2 : Int), S = ⟨mkT [(0, .sl (encL EI a1) a1.length), (1, .sl (encL EI a2) a2.length), (5, .int .i64 v2)], mkR [], 64⟩ ∧ l_sameInts_l1 a1 a2 n v2 = some r) FU ?_ ?_ ?_
   ·exact AC ⟨_, rfl, h⟩ [] [] hρ
   ·rintro S ⟨_, _, h⟩; rw [l_sameInts_l1] at h; cases h
   ·rintro n1 S ⟨v2, rfl, h⟩; rw [l_sameInts_l1] at h; refine AW_seq ?_; refine AN hN ?_; refine AB h (fun hc6 h => ?_) fun hc6 h => ?_
    ·refine AW_skip (AK ?_); refine AW_seq ?_; refine AW_block ?_; refine AR hN fun K hK => ?_; obtain ⟨q5, h9, h⟩ := bO_inv h; obtain ⟨⟨h10a, h10b⟩, h10c⟩ := geti_E EIl h9; (try simp only [EV, seval] at h10c); obtain ⟨q6, h11, h⟩ := bO_inv h; obtain ⟨⟨h12a, h12b⟩, h12c⟩ := geti_E EIl h11; (try simp only [EV, seval] at h12c); simp only [EV, seval, h10a, h10b, h10c, h12a, h12b, h12c]; refine hK _ _ _ ?_; clear hK K; refine AW_condK (a := .bool (q5 != q6)) (by simp only [EV, seval, h10a, h10b, h10c, h12a, h12b, h12c]) (brK h (fun hc7 h => ?_) (fun hc7 h => ?_))
     ·refine AN hN ?_; injection h with h; subst h; exact AX (b' := 64) [(4, .bool false)] [] [] [] hρ (EQ [])
     ·refine AW_skip (AK ?_); refine AS hN fun K hK => ?_; simp only [EV, seval]; exact hK _ _ _ (AC ⟨_, rfl, h⟩ [] [] hρ)
    ·exact AW_exit (AC ⟨rfl, h⟩ [] [] hρ)
  ·rintro S ⟨rfl, h⟩; unfold l_sameInts_j1 at h; refine AN hN ?_; injection h with h; subst h; exact AX (b' := 64) [(4, .bool true)] [] [] [] hρ (EQ [])
end Go.Proofs.Ytfjopjalhllplaa
