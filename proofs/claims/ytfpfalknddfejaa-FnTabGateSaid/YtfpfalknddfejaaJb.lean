import Derived.Test.YtfpfalknddfejaaZb
import Derived.Test.YtfpfalknddfejaaBy
namespace Go.Proofs.Ytfpfalknddfejaa
open Go.RowKit
set_option linter.unusedVariables false
theorem law_tabgatel (A : Option Addr) (n c : Nat) (l : List Int) (w : World) (wa : IsBytesC w A n c l) :
    Calls Try.prog 11 #[.slice A n c] w fun e w' => e = .returned (.bool true) ∧ Below w.heap.size w w' :=
  spec_calls (l_FnTabGate_ok (law_TabGate l)) rfl (args1 (.plain (pv_bytes wa)))
end Go.Proofs.Ytfpfalknddfejaa
