import Derived.Test.YtfpfalknddfejaaPs
import Derived.Test.YtfpfalknddfejaaBr
namespace Go.Proofs.Ytfpfalknddfejaa
open Go.RowKit
set_option linter.unusedVariables false
theorem law_word (A : Option Addr) (n c : Nat) (l : List Quad) (w : World) (wa : IsQuads w A n c l) :
    Calls Try.prog 13 #[.slice A n c] w fun e w' => e = .returned (.bool true) ∧ Below w.heap.size w w' := by
  refine spec_calls (l_FnExactWordTableau_ok (law_WordTableau l ?_)) rfl (args1 (.plain (pv_quads wa.2 wa.1.2)))
  have h1 := wa.1.1; have h2 := wa.2.1; simp only [maxLen] at h1; omega
end Go.Proofs.Ytfpfalknddfejaa
