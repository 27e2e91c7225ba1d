/- Plain laws: the images of X and Z under a gate. -/
import Derived.Test.YtcclapenpaediaaPv
namespace Go.Proofs.Ytcclapenpaediaa
open Go.RowKit
set_option maxRecDepth 100000
set_option linter.unusedVariables false
set_option linter.unusedSimpArgs false
def imgOk (N k a b v : Int) : Bool := match i_images k a b 0 N v, s_l25Image N k a b 0 v false, s_l25Image N k a b 0 v true with
  | some (x0, x1, x2, x3, z0, z1, z2, z3), some X, some Z => ((x0, x1, x2, x3) == X && (z0, z1, z2, z3) == Z) && ((vP X && X.1 == N) && (vP Z && Z.1 == N))
  | _, _, _ => false
theorem img_fin : ∀ k : Fin 12, ∀ a b v : Fin 4, ∀ N : Fin 5, ((clif k.val && ivg k.val a.val b.val 0 N.val) && decide (v.val < N.val)) = true → imgOk N.val k.val a.val b.val v.val = true := by decide +kernel
end Go.Proofs.Ytcclapenpaediaa
