/- Plain law and its bridge: StabilizerState. -/
import Derived.Test.YtflfodcgoffjkaaKMLss
import Derived.Test.YtflfodcgoffjkaaKPvk
import Derived.Test.YtflfodcgoffjkaaKPl
import Derived.Test.YtflfodcgoffjkaaKPld
import Derived.Test.YtflfodcgoffjkaaK1
namespace Go.Proofs.Ytflfodcgoffjkaa
open Go.RowKit
set_option maxRecDepth 100000
set_option linter.unusedVariables false
set_option linter.unusedSimpArgs false
theorem stst_both (N : Int) (l : List Q4) (hl : l.length ≤ 1048576) : ∃ r : List DQ × Bool, r.1.length ≤ 16 ∧ i_StabilizerState N l = some r ∧ s_StabilizerState N l = some r := by
  cases ht : tB N l with
  | false => exact ⟨([], false), Nat.zero_le _, i_stst_no hl ht⟩
  | true =>
    have h := (tB_len ht).1
    obtain ⟨i, e, _, _, _, _, hs, hi⟩ := i_stst h ht
    have h16 := pw16' h
    exact ⟨_, by rw [vc_len]; exact h16, hi, hs⟩
theorem law_StabilizerState (N : Int) (l : List Q4) (hl : l.length ≤ 9223372036854775807) : l_FnExactStabilizerState N l = some true := by
  unfold l_FnExactStabilizerState
  rw [szTableau_eq N l _ (by omega) hl, bO_some]
  by_cases h : (l.length : Int) ≤ 1048576
  · have h1 : ¬ 1048576 - (l.length : Int) < 0 := by omega
    obtain ⟨r, hr, hi, hs⟩ := stst_both N l (by omega)
    have hq1 : ¬ (1 + 4 * (l.length : Int)) < 0 := by omega
    have hq2 : ¬ (1 + 5 * (r.1.length : Int)) < 0 := by omega
    simp only [if_pos h, h1, decide_false, br_false, toTableau_eq N l (by omega), bO_some, hs, hi, bne_self_eq_false, eqTableau_self N l (by omega), eqDOmegaS_self r.1 (by omega), Bool.not_true,
      l_FnExactStabilizerState_j1, l_FnExactStabilizerState_j2, l_FnExactStabilizerState_j3, markTableau_eq N l (by omega), markDOmegaS_eq r.1 1 (by omega) (by omega), mkQ_len, mkF_len, decide_true, gd_true, hq1, hq2, heldDOmegaS_eq r.1.length 1 (by omega) (by omega)]
  · simp only [if_neg h]; rfl
theorem law_ss (N : Int) (A : Option Addr) (n c : Nat) (l : List Quad) (w : World) (wn : (Lit.int .i64 N).wf = true) (wa : IsQuads w A n c l) :
    Calls Try.prog 7 #[.agg #[.int .i64 N, .slice A n c]] w fun e w' => e = .returned (.bool true) ∧ Below w.heap.size w w' := by
  refine spec_calls (l_FnExactStabilizerState_ok (law_StabilizerState N l ?_)) rfl (args1 (vr_tab wa.2 wa.1.2))
  have h1 := wa.1.1; have h2 := wa.2.1; simp only [maxLen] at h1; omega
end Go.Proofs.Ytflfodcgoffjkaa
