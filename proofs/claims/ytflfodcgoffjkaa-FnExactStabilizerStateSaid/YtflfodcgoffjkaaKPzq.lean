/- Plain law: equality of states in the reference. -/
import Derived.Test.YtflfodcgoffjkaaK16
namespace Go.Proofs.Ytflfodcgoffjkaa
open Go.RowKit
set_option maxRecDepth 100000
set_option linter.unusedVariables false
set_option linter.unusedSimpArgs false
end Go.Proofs.Ytflfodcgoffjkaa
