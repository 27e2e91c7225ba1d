/- Plain law and its bridge: PauliMatrix. -/
import Derived.Test.YtoleoojcodlciaaKMLpa
import Derived.Test.YtoleoojcodlciaaKPsd
import Derived.Test.YtoleoojcodlciaaKPiq
import Derived.Test.YtoleoojcodlciaaK1
namespace Go.Proofs.Ytoleoojcodlciaa
open Go.RowKit
set_option maxRecDepth 100000
set_option linter.unusedVariables false
set_option linter.unusedSimpArgs false
theorem slD_le : ∀ (l : List LF), (∀ r ∈ l, r.length ≤ 16) → slDOmega l ≤ 80 * (l.length : Int)
  | [], _ => by simp [slDOmega]
  | x :: l, h => by
    have := slD_le l (fun r hr => h r (by simp [hr]))
    have := h x (by simp)
    simp only [slDOmega, List.length_cons]
    omega
theorem law_PauliMatrix (a b c d : Int) : l_FnExactPauliMatrix a b c d = some true := by
  obtain ⟨h1, h2⟩ := pmX_bd (a, b, c, d)
  have hs := s_pmX (a, b, c, d)
  have hi := i_pmX (a, b, c, d)
  simp only at hs hi
  generalize pmX (a, b, c, d) = le at h1 h2 hs hi
  have hr : ∀ r ∈ le, r.length ≤ 1000 := fun r hr => by have := h2 r hr; omega
  have hS := slD_le le h2
  have hN := slDOmega_nn le
  have hq : ¬ 1 + slDOmega le < 0 := by omega
  unfold l_FnExactPauliMatrix
  simp only [show l_toPauli a b c d = some (a, b, c, d) from rfl, bO_some, hs, hi, eqDOmegaSS_self le (by omega) hr, Bool.not_true, br_false, markDOmegaSS_eq le 1 (by omega) hr (by omega), msDOmega_len, decide_true, gd_true, heldDOmegaSS_eq le 1 (by omega) hr (by omega), hq, decide_false, bne_self_eq_false]
theorem law_pa (a b c d : Int) (w : World) (wa : (Lit.int .i64 a).wf = true) (wb : (Lit.int .i64 b).wf = true) (wc : (Lit.int .i64 c).wf = true) (wd : (Lit.int .i64 d).wf = true) :
    Calls Try.prog 3 #[.agg #[.int .i64 a, .int .i64 b, .int .i64 c, .int .i64 d]] w fun e w' => e = .returned (.bool true) ∧ Below w.heap.size w w' :=
  spec_calls (l_FnExactPauliMatrix_ok (law_PauliMatrix a b c d)) rfl (args1 (vr_quad _ _ a b c d))
end Go.Proofs.Ytoleoojcodlciaa
