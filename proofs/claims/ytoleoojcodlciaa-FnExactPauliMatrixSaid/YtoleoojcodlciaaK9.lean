/- Joined texts: Pv Px. -/
import Derived.Test.YtoleoojcodlciaaK8
import Derived.Test.YtoleoojcodlciaaGv
/- Plain laws: valid gates, Clifford gates, images. -/
namespace Go.Proofs.Ytoleoojcodlciaa
open Go.RowKit
set_option maxRecDepth 100000
set_option linter.unusedVariables false
set_option linter.unusedSimpArgs false
theorem ar4 (k : Int) : arity k = 0 ∨ arity k = 1 ∨ arity k = 2 ∨ arity k = 3 := by unfold arity; (repeat' split) <;> simp
def clif (k : Int) : Bool := decide (1 ≤ k ∧ k ≤ 11) && (k != 7 && k != 8)
theorem g0 (a b c : Int) : geti [a, b, c] 0 = some a := rfl
theorem g1 (a b c : Int) : geti [a, b, c] 1 = some b := rfl
theorem g2 (a b c : Int) : geti [a, b, c] 2 = some c := rfl
theorem u1 : IntKind.wrap .i64 (0 + 1) = 1 := rfl
theorem u2 : IntKind.wrap .i64 (1 + 1) = 2 := rfl
theorem u3 : IntKind.wrap .i64 (2 + 1) = 3 := rfl
end Go.Proofs.Ytoleoojcodlciaa
/- Joined texts: Pw Px. -/
/- Plain laws: the images of X and Z under a gate. -/
namespace Go.Proofs.Ytoleoojcodlciaa
open Go.RowKit
set_option maxRecDepth 100000
set_option linter.unusedVariables false
set_option linter.unusedSimpArgs false
end Go.Proofs.Ytoleoojcodlciaa
/- Plain law: ConjugatePauli. -/
namespace Go.Proofs.Ytoleoojcodlciaa
open Go.RowKit
set_option maxRecDepth 100000
set_option linter.unusedVariables false
set_option linter.unusedSimpArgs false
theorem all_true {n : Nat} : (List.range n).all (fun _ => true) = true := List.all_eq_true.2 fun _ _ => rfl
theorem fin_of' {x : Int} {n : Nat} (h : 0 ≤ x ∧ x < n) : ∃ k : Fin n, x = (k.val : Int) := ⟨⟨x.toNat, by omega⟩, by show x = (x.toNat : Int); omega⟩
theorem gate_dom {k a b c N : Int} (h1 : clif k = true) (h2 : ivg k a b c N = true) : c = 0 ∧ (0 ≤ k ∧ k < 12) ∧ (0 ≤ a ∧ a < 4) ∧ (0 ≤ b ∧ b < 4) ∧ (1 ≤ N ∧ N ≤ 4) := by
  unfold clif at h1
  simp only [Bool.and_eq_true, decide_eq_true_eq, bne_iff_ne, ne_eq] at h1
  unfold ivg at h2
  rcases ar4 k with h | h | h | h <;> rw [h] at h2 <;> simp [okQ] at h2
  · omega
  · omega
  · unfold arity at h; (repeat' split at h) <;> omega
end Go.Proofs.Ytoleoojcodlciaa
