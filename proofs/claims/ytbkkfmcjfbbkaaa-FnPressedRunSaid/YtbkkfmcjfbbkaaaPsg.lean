/- Plain law: sameGates of a list and itself. -/
import Derived.Test.YtbkkfmcjfbbkaaaMsg
import Derived.Test.YtbkkfmcjfbbkaaaPx
namespace Go.Proofs.Ytbkkfmcjfbbkaaa
open Go.RowKit
set_option maxRecDepth 100000
set_option linter.unusedVariables false
set_option linter.unusedSimpArgs false
theorem same_self (l : List Q4) (hl : l.length ≤ 1048576) : l_sameGates l l = some true := by
  unfold l_sameGates
  simp only [bne_self_eq_false, br_false]
  rw [loop_all0 (l_sameGates_l1 l l) l.length (fun _ => true) (by omega) (fun m k hk => ?_) (some true) (fun m => ?_), all_true]
  · rfl
  · have hlt : (k : Int) < (l.length : Int) := by omega
    rw [l_sameGates_l1, geti_lt hk, w64s hk (by omega)]
    simp only [hlt, decide_true, br_true, bO_some, beq_self_eq_true, Bool.and_self, Bool.not_true, br_false]
  · have hlt : ¬ (l.length : Int) < (l.length : Int) := by omega
    rw [l_sameGates_l1]
    simp only [hlt, decide_false, br_false, l_sameGates_j1]
end Go.Proofs.Ytbkkfmcjfbbkaaa
