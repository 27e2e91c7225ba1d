import Derived.Test.YtcclapenpaediaaZna
import Derived.Test.YtcclapenpaediaaBr
namespace Go.Proofs.Ytcclapenpaediaa
open Go.RowKit
set_option linter.unusedVariables false
theorem law_na (A : Option Addr) (n c : Nat) (y : List Int) (N : Int) (B : Option Addr) (m e : Nat) (l : List Quad) (k a b d : Int) (w : World) (wi : IsInts w A n c y) (wn : (Lit.int .i64 N).wf = true) (wq : IsQuads w B m e l) (wk : (Lit.int .i64 k).wf = true) (wa : (Lit.int .i64 a).wf = true) (wb : (Lit.int .i64 b).wf = true) (wd : (Lit.int .i64 d).wf = true) :
    Calls Try.prog 12 #[.agg #[.slice A n c, .int .i64 N, .slice B m e], .agg #[.int .i64 k, .int .i64 a, .int .i64 b, .int .i64 d]] w fun e w' => e = .returned (.bool true) ∧ Below w.heap.size w w' := by
  refine spec_calls (l_FnExactNormalFormApplyGate_ok (law_NormalFormApplyGate y N l k a b d ?_ ?_)) rfl (args2 (vr_nf wi.2 wi.1.2 wq.2 wq.1.2) (vr_quad _ _ k a b d))
  · have h1 := wi.1.1; have h2 := wi.2.1; simp only [maxLen] at h1; omega
  · have h1 := wq.1.1; have h2 := wq.2.1; simp only [maxLen] at h1; omega
end Go.Proofs.Ytcclapenpaediaa
