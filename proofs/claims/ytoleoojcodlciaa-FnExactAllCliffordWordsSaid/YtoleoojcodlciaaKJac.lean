/- Plain law and its bridge: AllCliffordWords. -/
import Derived.Test.YtoleoojcodlciaaKMLac
import Derived.Test.YtoleoojcodlciaaKPsg
import Derived.Test.YtoleoojcodlciaaKPwl
import Derived.Test.YtoleoojcodlciaaK1
namespace Go.Proofs.Ytoleoojcodlciaa
open Go.RowKit
set_option maxRecDepth 100000
set_option linter.unusedVariables false
set_option linter.unusedSimpArgs false
theorem law_AllCliffordWords : l_FnExactAllCliffordWords = some true := by
  have hs := sW_all
  have hi := W_all
  obtain ⟨h1, h2⟩ := W_bd
  have hS : slGate WL ≤ 10000 := by decide
  have hN := slGate_nn WL
  generalize WL = le at hs hi h1 h2 hS hN
  have hq : ¬ 1 + slGate le < 0 := by omega
  unfold l_FnExactAllCliffordWords
  simp only [bO_some, hs, hi, eqGateSS_self le (by omega) h2, Bool.not_true, br_false, markGateSS_eq le 1 (by omega) h2 (by omega), msGate_len, decide_true, gd_true, heldGateSS_eq le 1 (by omega) h2 (by omega), hq, decide_false, bne_self_eq_false]
theorem law_ac (w : World) : Calls Try.prog 4 #[] w fun e w' => e = .returned (.bool true) ∧ Below w.heap.size w w' :=
  spec_calls (l_FnExactAllCliffordWords_ok law_AllCliffordWords) rfl (fun i c v h _ => by simp at h)
end Go.Proofs.Ytoleoojcodlciaa
