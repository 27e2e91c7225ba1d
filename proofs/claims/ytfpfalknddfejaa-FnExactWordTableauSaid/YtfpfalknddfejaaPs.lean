/- Plain law: WordTableau. -/
import Derived.Test.YtfpfalknddfejaaMj
import Derived.Test.YtfpfalknddfejaaPr
namespace Go.Proofs.Ytfpfalknddfejaa
open Go.RowKit
set_option maxRecDepth 100000
set_option linter.unusedVariables false
set_option linter.unusedSimpArgs false
theorem word_eq (g : List Q4) (hg : g.length ≤ 1048576) : ∃ r, s_WordTableau g = some r ∧ i_WordTableau g = some r ∧ r.2.1.length ≤ 1048576 ∧ s_CircuitTableau 1 g = some r := by
  obtain ⟨r, hs, hi, hr⟩ := circ_eq 1 g hg
  unfold s_WordTableau i_WordTableau
  rw [hs, hi]
  exact ⟨r, rfl, rfl, hr, rfl⟩
theorem law_WordTableau (g : List Q4) (hl : g.length ≤ 9223372036854775807) : l_FnExactWordTableau g = some true := by
  unfold l_FnExactWordTableau
  rw [szGateS_eq g _ (by omega) hl, bO_some]
  by_cases h : (g.length : Int) ≤ 1048576
  · have h1 : ¬ 1048576 - (g.length : Int) < 0 := by omega
    obtain ⟨r, hs, hi, hr, _⟩ := word_eq g (by omega)
    have hq1 : ¬ (1 + 4 * (g.length : Int)) < 0 := by omega
    have hq2 : ¬ (1 + 4 * (r.2.1.length : Int)) < 0 := by omega
    simp only [if_pos h, h1, decide_false, br_false, toGateS_eq g (by omega), bO_some, hs, hi, bne_self_eq_false, eqTableau_self r.1 r.2.1 (by omega), eqGateS_self g (by omega), Bool.not_true,
      l_FnExactWordTableau_j1, l_FnExactWordTableau_j2, l_FnExactWordTableau_j3, markGateS_eq g 1 (by omega) (by omega), markTableau_eq r.1 r.2.1 (by omega), mkQ_len, decide_true, gd_true, hq1, hq2, heldTableau_eq r.1 r.2.1.length (by omega)]
  · simp only [if_neg h]; rfl
end Go.Proofs.Ytfpfalknddfejaa
