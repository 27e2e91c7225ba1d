/- Joined texts: Pv Px. -/
import Derived.Test.YtfoiedjjhgpcpaaK8
/- Plain laws: valid gates, Clifford gates, images. -/
namespace Go.Proofs.Ytfoiedjjhgpcpaa
open Go.RowKit
set_option maxRecDepth 100000
set_option linter.unusedVariables false
set_option linter.unusedSimpArgs false
end Go.Proofs.Ytfoiedjjhgpcpaa
/- Joined texts: Pw Px. -/
/- Plain laws: the images of X and Z under a gate. -/
namespace Go.Proofs.Ytfoiedjjhgpcpaa
open Go.RowKit
set_option maxRecDepth 100000
set_option linter.unusedVariables false
set_option linter.unusedSimpArgs false
end Go.Proofs.Ytfoiedjjhgpcpaa
/- Plain law: ConjugatePauli. -/
namespace Go.Proofs.Ytfoiedjjhgpcpaa
open Go.RowKit
set_option maxRecDepth 100000
set_option linter.unusedVariables false
set_option linter.unusedSimpArgs false
theorem all_true {n : Nat} : (List.range n).all (fun _ => true) = true := List.all_eq_true.2 fun _ _ => rfl
theorem fin_of' {x : Int} {n : Nat} (h : 0 ≤ x ∧ x < n) : ∃ k : Fin n, x = (k.val : Int) := ⟨⟨x.toNat, by omega⟩, by show x = (x.toNat : Int); omega⟩
end Go.Proofs.Ytfoiedjjhgpcpaa
