/- Plain law: equality of states in the reference. -/
import Derived.Test.YtoleoojcodlciaaK16
namespace Go.Proofs.Ytoleoojcodlciaa
open Go.RowKit
set_option maxRecDepth 100000
set_option linter.unusedVariables false
set_option linter.unusedSimpArgs false
end Go.Proofs.Ytoleoojcodlciaa
