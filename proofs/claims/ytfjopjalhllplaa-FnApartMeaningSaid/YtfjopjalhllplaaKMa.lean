/- Models of functions, and that the functions do what the models say; printed by a program. -/
import Derived.Test.YtfjopjalhllplaaK1
namespace Go.Proofs.Ytfjopjalhllplaa
open Go.RowKit
set_option maxRecDepth 100000
set_option linter.unusedVariables false
set_option linter.unusedSimpArgs false
set_option linter.defProp false
set_option maxHeartbeats 4000000
/- impl.in -/
def i_in_j1 (v1 : Bool) : Option Bool :=
  some v1
def i_in (a1 a2 a3 : Int) : Option Bool :=
  bO (br (decide (a2 ≤ a1)) (some (decide (a1 ≤ a3))) (some false)) fun x1 => i_in_j1 x1
theorem i_in_ok {a1 a2 a3 : Int} {r : Bool} (h : i_in a1 a2 a3 = some r) :
    Spec Try.prog 50 [.int .i64 a1, .int .i64 a2, .int .i64 a3] [] (.bool r) [] := by
 unfold i_in at h; refine SO Try.func50 rfl Try.ntmps50 fun C hN hρ => ?_; simp only [st0, tmps0, Nat.zero_add, Nat.reduceAdd]; refine AN hN ?_; refine AJ (fun S => ∃ (v1 : Bool), S = ⟨mkT [(6, .bool v1)], mkR [], 64⟩ ∧ i_in_j1 v1 = some r) hN ?_ ?_
 ·intro K hK; obtain ⟨x1, hv1, h⟩ := bO_inv h; rcases br_inv hv1 with ⟨hc1, hv1⟩ | ⟨hc1, hv1⟩
  ·cases hv1; simp only [EV, seval, hc1]; refine hK _ _ _ (show cutK _ _ _ from cutL ⟨_, rfl, h⟩ (Le_can [] [] hρ (by kernel_rfl) ?_ ?_))
   ·simp only [AL, EV, seval, hc1]
   ·simp only [AL, EV, seval, hc1]
  ·cases hv1; simp only [EV, seval, hc1]; refine hK _ _ _ (show cutK _ _ _ from cutL ⟨_, rfl, h⟩ (Le_can [] [] hρ (by kernel_rfl) ?_ ?_))
   ·simp only [AL, EV, seval, hc1]
   ·simp only [AL, EV, seval, hc1]
 ·rintro S ⟨v1, rfl, h⟩; unfold i_in_j1 at h; injection h with h; subst h; exact AX (b' := 64) [(6, .bool v1)] [] [] [] hρ (EQ [])
/- spec.l1In -/
def s_l1In_j1 (v1 : Bool) : Option Bool :=
  some v1
def s_l1In (a1 a2 a3 : Int) : Option Bool :=
  bO (br (decide (a2 ≤ a1)) (some (decide (a1 ≤ a3))) (some false)) fun x1 => s_l1In_j1 x1
theorem s_l1In_ok {a1 a2 a3 : Int} {r : Bool} (h : s_l1In a1 a2 a3 = some r) :
    Spec Try.prog 47 [.int .i64 a1, .int .i64 a2, .int .i64 a3] [] (.bool r) [] := by
 unfold s_l1In at h; refine SO Try.func47 rfl Try.ntmps47 fun C hN hρ => ?_; simp only [st0, tmps0, Nat.zero_add, Nat.reduceAdd]; refine AN hN ?_; refine AJ (fun S => ∃ (v1 : Bool), S = ⟨mkT [(6, .bool v1)], mkR [], 64⟩ ∧ s_l1In_j1 v1 = some r) hN ?_ ?_
 ·intro K hK; obtain ⟨x1, hv1, h⟩ := bO_inv h; rcases br_inv hv1 with ⟨hc1, hv1⟩ | ⟨hc1, hv1⟩
  ·cases hv1; simp only [EV, seval, hc1]; refine hK _ _ _ (show cutK _ _ _ from cutL ⟨_, rfl, h⟩ (Le_can [] [] hρ (by kernel_rfl) ?_ ?_))
   ·simp only [AL, EV, seval, hc1]
   ·simp only [AL, EV, seval, hc1]
  ·cases hv1; simp only [EV, seval, hc1]; refine hK _ _ _ (show cutK _ _ _ from cutL ⟨_, rfl, h⟩ (Le_can [] [] hρ (by kernel_rfl) ?_ ?_))
   ·simp only [AL, EV, seval, hc1]
   ·simp only [AL, EV, seval, hc1]
 ·rintro S ⟨v1, rfl, h⟩; unfold s_l1In_j1 at h; injection h with h; subst h; exact AX (b' := 64) [(6, .bool v1)] [] [] [] hρ (EQ [])
end Go.Proofs.Ytfjopjalhllplaa
