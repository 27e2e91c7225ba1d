import Derived.Test.YtcclapenpaediaaZng
import Derived.Test.YtcclapenpaediaaBr
namespace Go.Proofs.Ytcclapenpaediaa
open Go.RowKit
set_option linter.unusedVariables false
theorem law_ng (A : Option Addr) (n c : Nat) (y : List Int) (N : Int) (B : Option Addr) (m e : Nat) (l : List Quad) (w : World) (wi : IsInts w A n c y) (wn : (Lit.int .i64 N).wf = true) (wq : IsQuads w B m e l) :
    Calls Try.prog 11 #[.agg #[.slice A n c, .int .i64 N, .slice B m e]] w fun e w' => e = .returned (.bool true) ∧ Below w.heap.size w w' := by
  refine spec_calls (l_FnExactNormalFormGates_ok (law_NormalFormGates y N l ?_ ?_)) rfl (args1 (vr_nf wi.2 wi.1.2 wq.2 wq.1.2))
  · have h1 := wi.1.1; have h2 := wi.2.1; simp only [maxLen] at h1; omega
  · have h1 := wq.1.1; have h2 := wq.2.1; simp only [maxLen] at h1; omega
end Go.Proofs.Ytcclapenpaediaa
