import Derived.Test.YtfpfalknddfejaaPt
import Derived.Test.YtfpfalknddfejaaBr
namespace Go.Proofs.Ytfpfalknddfejaa
open Go.RowKit
set_option linter.unusedVariables false
theorem law_tabgate (N : Int) (A : Option Addr) (n c : Nat) (l : List Quad) (b0 b1 b2 b3 : Int) (w : World) (wn : (Lit.int .i64 N).wf = true) (wa : IsQuads w A n c l)
    (k0 : (Lit.int .i64 b0).wf = true) (k1 : (Lit.int .i64 b1).wf = true) (k2 : (Lit.int .i64 b2).wf = true) (k3 : (Lit.int .i64 b3).wf = true) :
    Calls Try.prog 8 #[.agg #[.int .i64 N, .slice A n c], .agg #[.int .i64 b0, .int .i64 b1, .int .i64 b2, .int .i64 b3]] w fun e w' => e = .returned (.bool true) ∧ Below w.heap.size w w' := by
  refine spec_calls (l_FnExactTableauApplyGate_ok (law_TableauApplyGate N l b0 b1 b2 b3 ?_)) rfl (args2 (vr_tab wa.2 wa.1.2) (vr_quad _ _ b0 b1 b2 b3))
  have h1 := wa.1.1; have h2 := wa.2.1; simp only [maxLen] at h1; omega
end Go.Proofs.Ytfpfalknddfejaa
