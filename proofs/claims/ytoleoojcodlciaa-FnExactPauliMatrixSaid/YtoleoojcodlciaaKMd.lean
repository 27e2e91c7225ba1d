/- Models of functions, and that the functions do what the models say; printed by a program. -/
import Derived.Test.YtoleoojcodlciaaK1
namespace Go.Proofs.Ytoleoojcodlciaa
open Go.RowKit
set_option maxRecDepth 100000
set_option linter.unusedVariables false
set_option linter.unusedSimpArgs false
set_option linter.defProp false
set_option maxHeartbeats 4000000
/- laws.toPauli -/
def l_toPauli (a1 a2 a3 a4 : Int) : Option (Int × Int × Int × Int) :=
  some (a1, a2, a3, a4)
theorem l_toPauli_ok {a1 a2 a3 a4 : Int} {r : Int × Int × Int × Int} (h : l_toPauli a1 a2 a3 a4 = some r) :
    Spec Try.prog 9 [.agg [.int .i64 a1, .int .i64 a2, .int .i64 a3, .int .i64 a4]] [] (.agg [.int .i64 r.1, .int .i64 r.2.1, .int .i64 r.2.2.1, .int .i64 r.2.2.2]) [] := by
 unfold l_toPauli at h; refine SO Try.func9 rfl Try.ntmps9 fun C hN hρ => ?_; simp only [st0, tmps0, Nat.zero_add, Nat.reduceAdd]; refine AN hN ?_; refine AN hN ?_; refine AN hN ?_; refine AN hN ?_; refine AN hN ?_; refine AN hN ?_; refine AN hN ?_; injection h with h; subst h; exact AX (b' := 64) [(2, .ptr 32 0)] [(32, .box 26 [.int .i64 a1, .int .i64 a2, .int .i64 a3, .int .i64 a4])] [(32, some 80)] [] hρ (EQ [])
end Go.Proofs.Ytoleoojcodlciaa
