import Derived.Test.YtfpfalknddfejaaPx
import Derived.Test.YtfpfalknddfejaaBr
namespace Go.Proofs.Ytfpfalknddfejaa
open Go.RowKit
set_option linter.unusedVariables false
theorem law_conj (a0 a1 a2 a3 b0 b1 b2 b3 : Int) (w : World) (h0 : (Lit.int .i64 a0).wf = true) (h1 : (Lit.int .i64 a1).wf = true) (h2 : (Lit.int .i64 a2).wf = true) (h3 : (Lit.int .i64 a3).wf = true)
    (k0 : (Lit.int .i64 b0).wf = true) (k1 : (Lit.int .i64 b1).wf = true) (k2 : (Lit.int .i64 b2).wf = true) (k3 : (Lit.int .i64 b3).wf = true) :
    Calls Try.prog 7 #[.agg #[.int .i64 a0, .int .i64 a1, .int .i64 a2, .int .i64 a3], .agg #[.int .i64 b0, .int .i64 b1, .int .i64 b2, .int .i64 b3]] w fun e w' => e = .returned (.bool true) ∧ Below w.heap.size w w' :=
  spec_calls (l_FnExactConjugatePauli_ok (law_ConjugatePauli a0 a1 a2 a3 b0 b1 b2 b3)) rfl (args2 (vr_quad _ _ a0 a1 a2 a3) (vr_quad _ _ b0 b1 b2 b3))
end Go.Proofs.Ytfpfalknddfejaa
