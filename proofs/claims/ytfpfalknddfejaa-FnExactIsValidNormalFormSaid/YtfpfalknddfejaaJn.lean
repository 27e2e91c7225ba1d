import Derived.Test.YtfpfalknddfejaaPn
import Derived.Test.YtfpfalknddfejaaBr
namespace Go.Proofs.Ytfpfalknddfejaa
open Go.RowKit
set_option linter.unusedVariables false
theorem law_nfv (A : Option Addr) (n c : Nat) (l : List Int) (N : Int) (B : Option Addr) (m e : Nat) (q : List Quad) (w : World) (wi : IsInts w A n c l) (wn : (Lit.int .i64 N).wf = true) (wq : IsQuads w B m e q) :
    Calls Try.prog 6 #[.agg #[.slice A n c, .int .i64 N, .slice B m e]] w fun e w' => e = .returned (.bool true) ∧ Below w.heap.size w w' := by
  refine spec_calls (l_FnExactIsValidNormalForm_ok (law_IsValidNormalForm l N q ?_ ?_)) rfl (args1 (vr_nf wi.2 wi.1.2 wq.2 wq.1.2))
  · have h1 := wi.1.1; have h2 := wi.2.1; simp only [maxLen] at h1; omega
  · have h1 := wq.1.1; have h2 := wq.2.1; simp only [maxLen] at h1; omega
end Go.Proofs.Ytfpfalknddfejaa
