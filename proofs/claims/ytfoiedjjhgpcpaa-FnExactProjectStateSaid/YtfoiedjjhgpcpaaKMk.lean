/- Models of functions, and that the functions do what the models say; printed by a program. -/
import Derived.Test.YtfoiedjjhgpcpaaK1
namespace Go.Proofs.Ytfoiedjjhgpcpaa
open Go.RowKit
set_option maxRecDepth 100000
set_option linter.unusedVariables false
set_option linter.unusedSimpArgs false
set_option linter.defProp false
set_option maxHeartbeats 4000000
/- spec.l1Max -/
def s_l1Max (a1 : Int) (a2 : Int) : Option Int :=
  br (decide (a2 < a1)) (some a1) (some a2)
theorem s_l1Max_ok {a1 : Int} {a2 : Int} {r : Int} (h : s_l1Max a1 a2 = some r) :
    Spec Try.prog 88 [.int .i64 a1, .int .i64 a2] [] (.int .i64 r) [] := by
 unfold s_l1Max at h; refine SO Try.func88 rfl Try.ntmps88 fun C hN hρ => ?_; simp only [st0, tmps0, Nat.zero_add, Nat.reduceAdd]; refine AR hN fun K hK => ?_; simp only [EV, seval]; refine hK _ _ _ ?_; clear hK K; refine AW_seq ?_; refine AR hN fun K hK => ?_; simp only [EV, seval]; refine hK _ _ _ ?_; clear hK K; refine AB h (fun hc1 h => ?_) fun hc1 h => ?_
 ·refine AR hN fun K hK => ?_; simp only [EV, seval]; refine hK _ _ _ ?_; clear hK K; injection h with h; subst h; exact AX (b' := 64) [(4, .int .i64 a1)] [] [] [] hρ (EQ [] (by simp only [EV, Try.results88, seval]))
 ·refine AW_skip (AK ?_); refine AR hN fun K hK => ?_; simp only [EV, seval]; refine hK _ _ _ ?_; clear hK K; injection h with h; subst h; exact AX (b' := 64) [(4, .int .i64 a2)] [] [] [] hρ (EQ [] (by simp only [EV, Try.results88, seval]))
end Go.Proofs.Ytfoiedjjhgpcpaa
