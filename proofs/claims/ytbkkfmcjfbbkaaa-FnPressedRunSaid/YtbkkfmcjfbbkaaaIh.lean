/- impl.IsValidGate's contract for the engine, from its walk. -/
import Derived.Test.YtbkkfmcjfbbkaaaIg
import Derived.Test.YtbkkfmcjfbbkaaaGn
namespace Go.Proofs.Ytbkkfmcjfbbkaaa
open Go.RowKit Pop
set_option maxRecDepth 100000
set_option linter.unusedVariables false
set_option linter.unusedSimpArgs false
def i_IsValidGate (a1 a2 a3 a4 a5 : Int) : Option Bool := some (ivg a1 a2 a3 a4 a5)
theorem i_IsValidGate_ok {a1 a2 a3 a4 a5 : Int} {r : Bool} (h : i_IsValidGate a1 a2 a3 a4 a5 = some r) :
    Spec Try.prog 60 [.agg [.int .i64 a1, .int .i64 a2, .int .i64 a3, .int .i64 a4], .int .i64 a5] [] (.bool r) [] := by
  injection h with h
  subst h
  exact spec_lift (by kernel_rfl) rfl (fun M ρ => .plain (.bool _)) (fun w => ivg_any a1 a2 a3 a4 a5 w)
#print axioms i_IsValidGate_ok
end Go.Proofs.Ytbkkfmcjfbbkaaa
