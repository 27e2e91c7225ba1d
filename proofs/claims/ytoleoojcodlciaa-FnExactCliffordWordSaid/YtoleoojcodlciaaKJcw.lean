/- Plain law and its bridge: CliffordWord. -/
import Derived.Test.YtoleoojcodlciaaKMLcw
import Derived.Test.YtoleoojcodlciaaKPcw
import Derived.Test.YtoleoojcodlciaaKPk
import Derived.Test.YtoleoojcodlciaaK1
namespace Go.Proofs.Ytoleoojcodlciaa
open Go.RowKit
set_option maxRecDepth 100000
set_option linter.unusedVariables false
set_option linter.unusedSimpArgs false
theorem law_CliffordWord (N : Int) (l : List Q4) (hl : l.length ≤ 9223372036854775807) : l_FnExactCliffordWord N l = some true := by
  unfold l_FnExactCliffordWord
  rw [szTableau_eq N l _ (by omega) hl, bO_some]
  by_cases h : (l.length : Int) ≤ 1048576
  · have h1 : ¬ 1048576 - (l.length : Int) < 0 := by omega
    have hs := s_cw N l (by omega)
    have hi := i_cw N l
    have hr := cwF_len N l
    generalize cwF N l = r at hs hi hr
    have hq1 : ¬ (1 + 4 * (l.length : Int)) < 0 := by omega
    have hq2 : ¬ (1 + 4 * (r.1.length : Int)) < 0 := by omega
    simp only [if_pos h, h1, decide_false, br_false, toTableau_eq N l (by omega), bO_some, hs, hi, bne_self_eq_false, eqGateS_self r.1 (by omega), eqTableau_self N l (by omega), Bool.not_true,
      l_FnExactCliffordWord_j1, l_FnExactCliffordWord_j2, l_FnExactCliffordWord_j3, markTableau_eq N l (by omega), markGateS_eq r.1 1 (by omega) (by omega), mkQ_len, decide_true, gd_true, hq1, hq2, heldGateS_eq r.1.length 1 (by omega) (by omega)]
  · simp only [if_neg h]; rfl
theorem law_cw (N : Int) (A : Option Addr) (n c : Nat) (l : List Quad) (w : World) (wn : (Lit.int .i64 N).wf = true) (wa : IsQuads w A n c l) :
    Calls Try.prog 5 #[.agg #[.int .i64 N, .slice A n c]] w fun e w' => e = .returned (.bool true) ∧ Below w.heap.size w w' := by
  refine spec_calls (l_FnExactCliffordWord_ok (law_CliffordWord N l ?_)) rfl (args1 (vr_tab wa.2 wa.1.2))
  have h1 := wa.1.1; have h2 := wa.2.1; simp only [maxLen] at h1; omega
end Go.Proofs.Ytoleoojcodlciaa
