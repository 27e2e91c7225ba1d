/- Plain law and its bridge: ShortenRuns. -/
import Derived.Test.YtoleoojcodlciaaKMLrr
import Derived.Test.YtoleoojcodlciaaKPrr
import Derived.Test.YtoleoojcodlciaaKPk
import Derived.Test.YtoleoojcodlciaaK1
namespace Go.Proofs.Ytoleoojcodlciaa
open Go.RowKit
set_option maxRecDepth 100000
set_option linter.unusedVariables false
set_option linter.unusedSimpArgs false
theorem law_ShortenRuns (g : List Q4) (n : Int) (hl : g.length ≤ 9223372036854775807) : l_FnExactShortenRuns g n = some true := by
  unfold l_FnExactShortenRuns
  rw [szGateS_eq g _ (by omega) hl, bO_some]
  by_cases h : (g.length : Int) ≤ 1048576
  · have h1 : ¬ 1048576 - (g.length : Int) < 0 := by omega
    have hr := srs_len g n (by omega)
    have hs := s_srs g n (by omega)
    have hi := i_srs g n (by omega)
    generalize srsF n g = r at hr hs hi
    have hq1 : ¬ (1 + 4 * (g.length : Int)) < 0 := by omega
    have hq2 : ¬ (1 + 4 * (r.length : Int)) < 0 := by omega
    simp only [if_pos h, h1, decide_false, br_false, toGateS_eq g (by omega), bO_some, hs, hi, eqGateS_self r (by omega), Bool.not_true, eqGateS_self g (by omega), markGateS_eq g 1 (by omega) (by omega), mkQ_len, decide_true, gd_true, hq1,
      l_FnExactShortenRuns_j1, markGateS_eq r 1 (by omega) (by omega), heldGateS_eq r.length 1 (by omega) (by omega), hq2, bne_self_eq_false]
  · simp only [if_neg h]; rfl
theorem law_rr (A : Option Addr) (n c : Nat) (l : List Quad) (N : Int) (w : World) (wa : IsQuads w A n c l) (wn : (Lit.int .i64 N).wf = true) :
    Calls Try.prog 7 #[.slice A n c, .int .i64 N] w fun e w' => e = .returned (.bool true) ∧ Below w.heap.size w w' := by
  refine spec_calls (l_FnExactShortenRuns_ok (law_ShortenRuns l N ?_)) rfl (args2 (.plain (pv_quads wa.2 wa.1.2)) (vr_int _ _ N))
  have h1 := wa.1.1; have h2 := wa.2.1; simp only [maxLen] at h1; omega
end Go.Proofs.Ytoleoojcodlciaa
