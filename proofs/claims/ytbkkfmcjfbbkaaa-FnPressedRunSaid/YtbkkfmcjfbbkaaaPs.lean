/- Plain law: WordTableau. -/
import Derived.Test.YtbkkfmcjfbbkaaaMj
import Derived.Test.YtbkkfmcjfbbkaaaPr
namespace Go.Proofs.Ytbkkfmcjfbbkaaa
open Go.RowKit
set_option maxRecDepth 100000
set_option linter.unusedVariables false
set_option linter.unusedSimpArgs false
theorem word_eq (g : List Q4) (hg : g.length ≤ 1048576) : ∃ r, s_WordTableau g = some r ∧ i_WordTableau g = some r ∧ r.2.1.length ≤ 1048576 ∧ s_CircuitTableau 1 g = some r := by
  obtain ⟨r, hs, hi, hr⟩ := circ_eq 1 g hg
  unfold s_WordTableau i_WordTableau
  rw [hs, hi]
  exact ⟨r, rfl, rfl, hr, rfl⟩
end Go.Proofs.Ytbkkfmcjfbbkaaa
