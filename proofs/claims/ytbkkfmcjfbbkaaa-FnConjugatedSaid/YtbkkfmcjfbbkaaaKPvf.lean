/- Plain law: a Clifford gate on up to three qubits leads X and Z of each qubit to their images (checked by the kernel). -/
import Derived.Test.YtbkkfmcjfbbkaaaKPvg
namespace Go.Proofs.Ytbkkfmcjfbbkaaa
open Go.RowKit
set_option maxRecDepth 100000
set_option linter.unusedVariables false
set_option linter.unusedSimpArgs false
def cjE (N k a b j : Nat) (g i : Q4) : Bool := (List.range (2 ^ N)).all fun c => (List.range (2 ^ N)).all fun r => gz ((k : Int), (a : Int), (b : Int), 0) (paQ g (dl c)) r == paQ i (gz ((k : Int), (a : Int), (b : Int), 0) (dl c)) r
def cjB (N k a b : Nat) : Bool := (List.range N).all fun j => cjE N k a b j (eX N j) (iQ N k a b j false) && cjE N k a b j (eZ N j) (iQ N k a b j true)
theorem cj_fin : ∀ k : Fin 12, ∀ a b : Fin 3, ∀ N : Fin 4, (clif k.val && ivg k.val a.val b.val 0 N.val) = true → cjB N.val k.val a.val b.val = true := by decide +kernel
end Go.Proofs.Ytbkkfmcjfbbkaaa
