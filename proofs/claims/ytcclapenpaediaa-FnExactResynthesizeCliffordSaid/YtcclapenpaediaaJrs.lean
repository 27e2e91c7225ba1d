import Derived.Test.YtcclapenpaediaaZrs
import Derived.Test.YtcclapenpaediaaBr
namespace Go.Proofs.Ytcclapenpaediaa
open Go.RowKit
set_option linter.unusedVariables false
theorem law_rs (N : Int) (A : Option Addr) (n c : Nat) (l : List Quad) (w : World) (wn : (Lit.int .i64 N).wf = true) (wa : IsQuads w A n c l) :
    Calls Try.prog 10 #[.agg #[.int .i64 N, .slice A n c]] w fun e w' => e = .returned (.bool true) ∧ Below w.heap.size w w' := by
  refine spec_calls (l_FnExactResynthesizeClifford_ok (law_ResynthesizeClifford N l ?_)) rfl (args1 (vr_tab wa.2 wa.1.2))
  have h1 := wa.1.1; have h2 := wa.2.1; simp only [maxLen] at h1; omega
end Go.Proofs.Ytcclapenpaediaa
