/- Plain law and its bridge: IsStabilizedBy. -/
import Derived.Test.YtfoiedjjhgpcpaaKMLib
import Derived.Test.YtfoiedjjhgpcpaaKPiq
import Derived.Test.YtfoiedjjhgpcpaaKPld
import Derived.Test.YtfoiedjjhgpcpaaKFd
namespace Go.Proofs.Ytfoiedjjhgpcpaa
open Go.RowKit
set_option maxRecDepth 100000
set_option linter.unusedVariables false
set_option linter.unusedSimpArgs false
theorem law_IsStabilizedBy (a b c d : Int) (l : List DQ) (hl : l.length ≤ 9223372036854775807) : l_FnExactIsStabilizedBy a b c d l = some true := by
  unfold l_FnExactIsStabilizedBy
  rw [szDOmegaS_eq l _ (by omega) hl, bO_some]
  by_cases h : (l.length : Int) ≤ 1048576
  · have h1 : ¬ 1048576 - (l.length : Int) < 0 := by omega
    have hs := s_stM (a, b, c, d) l (by omega)
    have hi := i_stM (a, b, c, d) l (by omega)
    simp only at hs hi
    simp only [if_pos h, h1, decide_false, br_false, toDOmegaS_eq l (by omega), bO_some, show l_toPauli a b c d = some (a, b, c, d) from rfl, hs, hi, bne_self_eq_false, eqDOmegaS_self l (by omega), Bool.not_true]
  · simp only [if_neg h]; rfl
theorem law_ib (a b c d : Int) (A : Option Addr) (n cp : Nat) (l : List Five) (w : World) (wa : (Lit.int .i64 a).wf = true) (wb : (Lit.int .i64 b).wf = true) (wc : (Lit.int .i64 c).wf = true) (wd : (Lit.int .i64 d).wf = true) (wl : IsFives w A n cp l) :
    Calls Try.prog 3 #[.agg #[.int .i64 a, .int .i64 b, .int .i64 c, .int .i64 d], .slice A n cp] w fun e w' => e = .returned (.bool true) ∧ Below w.heap.size w w' := by
  refine spec_calls (l_FnExactIsStabilizedBy_ok (law_IsStabilizedBy a b c d l ?_)) rfl (args2 (vr_quad _ _ a b c d) (.plain (pv_fives wl.2 wl.1.2)))
  have h1 := wl.1.1; have h2 := wl.2.1; simp only [maxLen] at h1; omega
end Go.Proofs.Ytfoiedjjhgpcpaa
