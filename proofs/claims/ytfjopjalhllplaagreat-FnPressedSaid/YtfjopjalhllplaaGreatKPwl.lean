/- Plain laws: the 24 words. -/
import Derived.Test.YtfjopjalhllplaaGreatK5
import Derived.Test.YtfjopjalhllplaaGreatK8
namespace Go.Proofs.YtfjopjalhllplaaGreat
open Go.RowKit
set_option maxRecDepth 100000
set_option linter.unusedVariables false
set_option linter.unusedSimpArgs false
def WL : List (List Q4) := [[], [(1, 0, 0, 0)], [(2, 0, 0, 0)], [(3, 0, 0, 0)], [(4, 0, 0, 0)], [(5, 0, 0, 0)], [(6, 0, 0, 0)], [(1, 0, 0, 0), (4, 0, 0, 0)], [(1, 0, 0, 0), (5, 0, 0, 0)], [(1, 0, 0, 0), (6, 0, 0, 0)], [(2, 0, 0, 0), (4, 0, 0, 0)], [(3, 0, 0, 0), (4, 0, 0, 0)], [(4, 0, 0, 0), (5, 0, 0, 0)], [(4, 0, 0, 0), (6, 0, 0, 0)], [(5, 0, 0, 0), (4, 0, 0, 0)], [(6, 0, 0, 0), (4, 0, 0, 0)], [(1, 0, 0, 0), (5, 0, 0, 0), (4, 0, 0, 0)], [(1, 0, 0, 0), (6, 0, 0, 0), (4, 0, 0, 0)], [(2, 0, 0, 0), (4, 0, 0, 0), (5, 0, 0, 0)], [(2, 0, 0, 0), (4, 0, 0, 0), (6, 0, 0, 0)], [(4, 0, 0, 0), (5, 0, 0, 0), (4, 0, 0, 0)], [(4, 0, 0, 0), (6, 0, 0, 0), (4, 0, 0, 0)], [(5, 0, 0, 0), (4, 0, 0, 0), (6, 0, 0, 0)], [(6, 0, 0, 0), (4, 0, 0, 0), (5, 0, 0, 0)]]
theorem W_eq : (i_AllCliffordWords == some WL) = true := by decide +kernel
theorem W_all : i_AllCliffordWords = some WL := eq_of_beq W_eq
theorem W_len : WL.length = 24 := rfl
end Go.Proofs.YtfjopjalhllplaaGreat
