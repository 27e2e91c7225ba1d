/- Plain law and its bridge: ProjectState. -/
import Derived.Test.YtfoiedjjhgpcpaaKMLps
import Derived.Test.YtfoiedjjhgpcpaaKPiq
import Derived.Test.YtfoiedjjhgpcpaaKPld
import Derived.Test.YtfoiedjjhgpcpaaKFd
namespace Go.Proofs.Ytfoiedjjhgpcpaa
open Go.RowKit
set_option maxRecDepth 100000
set_option linter.unusedVariables false
set_option linter.unusedSimpArgs false
theorem law_ProjectState (a b c d : Int) (l : List DQ) (hl : l.length ≤ 9223372036854775807) : l_FnExactProjectState a b c d l = some true := by
  unfold l_FnExactProjectState
  rw [szDOmegaS_eq l _ (by omega) hl, bO_some]
  by_cases h : (l.length : Int) ≤ 1048576
  · have h1 : ¬ 1048576 - (l.length : Int) < 0 := by omega
    have hs := s_prM (a, b, c, d) l (by omega)
    have hi := i_prM (a, b, c, d) l (by omega)
    simp only at hs hi
    have hr : (resl (prM (a, b, c, d) l)).1.length ≤ l.length := by
      cases e : prM (a, b, c, d) l with
      | none => exact Nat.zero_le _
      | some r => exact Nat.le_of_eq (prM_len e)
    generalize resl (prM (a, b, c, d) l) = r at hs hi hr
    have hq1 : ¬ (1 + 5 * (l.length : Int)) < 0 := by omega
    have hq2 : ¬ (1 + 5 * (r.1.length : Int)) < 0 := by omega
    simp only [if_pos h, h1, decide_false, br_false, toDOmegaS_eq l (by omega), bO_some, show l_toPauli a b c d = some (a, b, c, d) from rfl, hs, hi, bne_self_eq_false, eqDOmegaS_self l (by omega), eqDOmegaS_self r.1 (by omega), Bool.not_true,
      l_FnExactProjectState_j1, l_FnExactProjectState_j2, l_FnExactProjectState_j3, markDOmegaS_eq l 1 (by omega) (by omega), markDOmegaS_eq r.1 1 (by omega) (by omega), mkF_len, decide_true, gd_true, hq1, hq2, heldDOmegaS_eq r.1.length 1 (by omega) (by omega)]
  · simp only [if_neg h]; rfl
theorem law_ps (a b c d : Int) (A : Option Addr) (n cp : Nat) (l : List Five) (w : World) (wa : (Lit.int .i64 a).wf = true) (wb : (Lit.int .i64 b).wf = true) (wc : (Lit.int .i64 c).wf = true) (wd : (Lit.int .i64 d).wf = true) (wl : IsFives w A n cp l) :
    Calls Try.prog 4 #[.agg #[.int .i64 a, .int .i64 b, .int .i64 c, .int .i64 d], .slice A n cp] w fun e w' => e = .returned (.bool true) ∧ Below w.heap.size w w' := by
  refine spec_calls (l_FnExactProjectState_ok (law_ProjectState a b c d l ?_)) rfl (args2 (vr_quad _ _ a b c d) (.plain (pv_fives wl.2 wl.1.2)))
  have h1 := wl.1.1; have h2 := wl.2.1; simp only [maxLen] at h1; omega
end Go.Proofs.Ytfoiedjjhgpcpaa
