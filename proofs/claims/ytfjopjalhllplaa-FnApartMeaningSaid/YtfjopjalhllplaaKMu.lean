/- Models of functions, and that the functions do what the models say; printed by a program. -/
import Derived.Test.YtfjopjalhllplaaK1
namespace Go.Proofs.Ytfjopjalhllplaa
open Go.RowKit
set_option maxRecDepth 100000
set_option linter.unusedVariables false
set_option linter.unusedSimpArgs false
set_option linter.defProp false
set_option maxHeartbeats 4000000
/- laws.big -/
def l_big (a1 : List Int) : Option Bool :=
  some (decide (1048576 < ((a1.length : Int))))
theorem l_big_ok {a1 : List Int} {r : Bool} (h : l_big a1 = some r) :
    Spec Try.prog 4 [.sl (encL EB a1) a1.length] [] (.bool r) [] := by
 unfold l_big at h; refine SO Try.func4 rfl Try.ntmps4 fun C hN hρ => ?_; simp only [st0, tmps0, Nat.zero_add, Nat.reduceAdd]; refine AN hN ?_; refine AN hN ?_; injection h with h; subst h; exact AX (b' := 64) [(2, .bool (decide (1048576 < ((a1.length : Int)))))] [] [] [] hρ (EQ [])
end Go.Proofs.Ytfjopjalhllplaa
