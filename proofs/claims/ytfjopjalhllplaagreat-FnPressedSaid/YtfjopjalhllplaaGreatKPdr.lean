/- Plain laws: drawn runs. -/
import Derived.Test.YtfjopjalhllplaaGreatKPnb
import Derived.Test.YtfjopjalhllplaaGreatKPd
namespace Go.Proofs.YtfjopjalhllplaaGreat
open Go.RowKit
set_option maxRecDepth 100000
set_option linter.unusedVariables false
set_option linter.unusedSimpArgs false
end Go.Proofs.YtfjopjalhllplaaGreat
