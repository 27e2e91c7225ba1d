/- Plain law: SynthesizeTableau. -/
import Derived.Test.YtcclapenpaediaaMLst
import Derived.Test.YtcclapenpaediaaPo
namespace Go.Proofs.Ytcclapenpaediaa
open Go.RowKit
set_option maxRecDepth 100000
set_option linter.unusedVariables false
set_option linter.unusedSimpArgs false
theorem law_SynthesizeTableau (N : Int) (l : List Q4) (hl : l.length ≤ 9223372036854775807) : l_FnExactSynthesizeTableau N l = some true := by
  unfold l_FnExactSynthesizeTableau
  rw [szTableau_eq N l _ (by omega) hl, bO_some]
  by_cases h : (l.length : Int) ≤ 1048576
  · have h1 : ¬ 1048576 - (l.length : Int) < 0 := by omega
    obtain ⟨r, hs, hi, hr, _⟩ := syn_all N l (by omega)
    have hq1 : ¬ (1 + 4 * (l.length : Int)) < 0 := by omega
    have hq2 : ¬ (1 + 4 * (r.1.length : Int)) < 0 := by omega
    simp only [if_pos h, h1, decide_false, br_false, toTableau_eq N l (by omega), bO_some, hs, hi, bne_self_eq_false, eqGateS_self r.1 (by omega), eqTableau_self N l (by omega), Bool.not_true,
      l_FnExactSynthesizeTableau_j1, l_FnExactSynthesizeTableau_j2, l_FnExactSynthesizeTableau_j3, markTableau_eq N l (by omega), markGateS_eq r.1 1 (by omega) (by omega), mkQ_len, decide_true, gd_true, hq1, hq2, heldGateS_eq r.1.length 1 (by omega) (by omega)]
  · simp only [if_neg h]; rfl
end Go.Proofs.Ytcclapenpaediaa
