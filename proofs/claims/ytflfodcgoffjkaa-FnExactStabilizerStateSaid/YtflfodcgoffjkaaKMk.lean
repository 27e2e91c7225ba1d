/- Models of functions, and that the functions do what the models say; printed by a program. -/
import Derived.Test.YtflfodcgoffjkaaK1
namespace Go.Proofs.Ytflfodcgoffjkaa
open Go.RowKit
set_option maxRecDepth 100000
set_option linter.unusedVariables false
set_option linter.unusedSimpArgs false
set_option linter.defProp false
set_option maxHeartbeats 4000000
/- spec.l1Max -/
def s_l1Max (a1 a2 : Int) : Option Int :=
  br (decide (a2 < a1)) (some a1) (some a2)
theorem s_l1Max_ok {a1 a2 r : Int} (h : s_l1Max a1 a2 = some r) :
    Spec Try.prog 156 [.int .i64 a1, .int .i64 a2] [] (.int .i64 r) [] := by
 unfold s_l1Max at h; refine SO Try.func156 rfl Try.ntmps156 fun C hN hρ => ?_; simp only [st0, tmps0, Nat.zero_add, Nat.reduceAdd]; refine AN hN ?_; refine AW_seq ?_; refine AN hN ?_; refine AB h (fun hc1 h => ?_) fun hc1 h => ?_
 ·refine AN hN ?_; injection h with h; subst h; exact AX (b' := 64) [(4, .int .i64 a1)] [] [] [] hρ (EQ [])
 ·refine AW_skip (AK ?_); refine AN hN ?_; injection h with h; subst h; exact AX (b' := 64) [(4, .int .i64 a2)] [] [] [] hρ (EQ [])
end Go.Proofs.Ytflfodcgoffjkaa
