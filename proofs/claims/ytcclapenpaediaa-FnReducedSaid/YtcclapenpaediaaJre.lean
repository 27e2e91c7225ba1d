import Derived.Test.YtcclapenpaediaaZre
import Derived.Test.YtcclapenpaediaaBy
namespace Go.Proofs.Ytcclapenpaediaa
open Go.RowKit
set_option linter.unusedVariables false
theorem law_reduced (A : Option Addr) (n c : Nat) (l : List Int) (w : World) (wa : IsBytesC w A n c l) :
    Calls Try.prog 7 #[.slice A n c] w fun e w' => e = .returned (.bool true) ∧ Below w.heap.size w w' :=
  spec_calls (l_FnReduced_ok (law_Reduced l)) rfl (args1 (.plain (pv_bytes wa)))
end Go.Proofs.Ytcclapenpaediaa
