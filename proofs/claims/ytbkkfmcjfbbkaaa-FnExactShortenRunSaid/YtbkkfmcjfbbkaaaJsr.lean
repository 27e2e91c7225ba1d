/- Plain law and its bridge: ShortenRun. -/
import Derived.Test.YtbkkfmcjfbbkaaaMLsr
import Derived.Test.YtbkkfmcjfbbkaaaPst
import Derived.Test.YtbkkfmcjfbbkaaaPk
import Derived.Test.YtbkkfmcjfbbkaaaBr
namespace Go.Proofs.Ytbkkfmcjfbbkaaa
open Go.RowKit
set_option maxRecDepth 100000
set_option linter.unusedVariables false
set_option linter.unusedSimpArgs false
theorem law_ShortenRun (g : List Q4) (hl : g.length ≤ 9223372036854775807) : l_FnExactShortenRun g = some true := by
  unfold l_FnExactShortenRun
  rw [szGateS_eq g _ (by omega) hl, bO_some]
  by_cases h : (g.length : Int) ≤ 1048576
  · have h1 : ¬ 1048576 - (g.length : Int) < 0 := by omega
    have hr := sr_len (g := g) (by omega)
    have hq1 : ¬ (1 + 4 * (g.length : Int)) < 0 := by omega
    have hq2 : ¬ (1 + 4 * ((srF g).length : Int)) < 0 := by omega
    simp only [if_pos h, h1, decide_false, br_false, toGateS_eq g (by omega), bO_some, s_sr g (by omega), i_sr g (by omega), eqGateS_self (srF g) (by omega), Bool.not_true, eqGateS_self g (by omega), markGateS_eq g 1 (by omega) (by omega), mkQ_len, decide_true, gd_true, hq1,
      l_FnExactShortenRun_j1, markGateS_eq (srF g) 1 (by omega) (by omega), heldGateS_eq (srF g).length 1 (by omega) (by omega), hq2, bne_self_eq_false]
  · simp only [if_neg h]; rfl
theorem law_sr (A : Option Addr) (n c : Nat) (l : List Quad) (w : World) (wa : IsQuads w A n c l) :
    Calls Try.prog 4 #[.slice A n c] w fun e w' => e = .returned (.bool true) ∧ Below w.heap.size w w' := by
  refine spec_calls (l_FnExactShortenRun_ok (law_ShortenRun l ?_)) rfl (args1 (.plain (pv_quads wa.2 wa.1.2)))
  have h1 := wa.1.1; have h2 := wa.2.1; simp only [maxLen] at h1; omega
end Go.Proofs.Ytbkkfmcjfbbkaaa
