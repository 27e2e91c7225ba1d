import Derived.Test.YtfpfalknddfejaaPz
import Derived.Test.YtfpfalknddfejaaBr
namespace Go.Proofs.Ytfpfalknddfejaa
open Go.RowKit
set_option linter.unusedVariables false
theorem law_measz (N : Int) (A : Option Addr) (n c : Nat) (l : List Quad) (q : Int) (w : World) (wn : (Lit.int .i64 N).wf = true) (wa : IsQuads w A n c l) (wq : (Lit.int .i64 q).wf = true) :
    Calls Try.prog 5 #[.agg #[.int .i64 N, .slice A n c], .int .i64 q] w fun e w' => e = .returned (.bool true) ∧ Below w.heap.size w w' := by
  refine spec_calls (l_FnExactStabilizerMeasureZ_ok (law_StabilizerMeasureZ N l q ?_)) rfl (args2 (vr_tab wa.2 wa.1.2) (vr_int _ _ q))
  have h1 := wa.1.1; have h2 := wa.2.1; simp only [maxLen] at h1; omega
end Go.Proofs.Ytfpfalknddfejaa
