/- Plain law: ResynthesizeClifford. -/
import Derived.Test.YtcclapenpaediaaMLrs
import Derived.Test.YtcclapenpaediaaPo
namespace Go.Proofs.Ytcclapenpaediaa
open Go.RowKit
set_option maxRecDepth 100000
set_option linter.unusedVariables false
set_option linter.unusedSimpArgs false
theorem heldCircuit_eq (N : Int) (n : Nat) (hn : n ≤ 1048576) : l_heldCircuit N (mkQ 1 n) 1 = some (1 + 4 * (n : Int)) := by
  unfold l_heldCircuit
  rw [heldGateS_eq n 1 hn (by omega), bO_some]
  have : ¬ (1 + 4 * (n : Int)) < 0 := by omega
  simp only [this, decide_false, br_false]
theorem law_ResynthesizeClifford (N : Int) (g : List Q4) (hl : g.length ≤ 9223372036854775807) : l_FnExactResynthesizeClifford N g = some true := by
  unfold l_FnExactResynthesizeClifford
  rw [szCircuit_eq N g _ (by omega) hl, bO_some]
  by_cases h : (g.length : Int) ≤ 1048576
  · have h1 : ¬ 1048576 - (g.length : Int) < 0 := by omega
    obtain ⟨r, hs, hi, hr⟩ := resyn_all N g (by omega)
    have hq1 : ¬ (1 + 4 * (g.length : Int)) < 0 := by omega
    have hq2 : ¬ (1 + 4 * (r.2.1.length : Int)) < 0 := by omega
    simp only [if_pos h, h1, decide_false, br_false, toCircuit_eq N g (by omega), bO_some, hs, hi, bne_self_eq_false, eqCircuit_self r.1 r.2.1 (by omega), eqCircuit_self N g (by omega), Bool.not_true,
      l_FnExactResynthesizeClifford_j1, l_FnExactResynthesizeClifford_j2, l_FnExactResynthesizeClifford_j3, markCircuit_eq N g (by omega), markCircuit_eq r.1 r.2.1 (by omega), mkQ_len, decide_true, gd_true, hq1, hq2, heldCircuit_eq r.1 r.2.1.length (by omega)]
  · simp only [if_neg h]; rfl
end Go.Proofs.Ytcclapenpaediaa
