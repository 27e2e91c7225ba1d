/- Plain law: equality of states in the reference. -/
import Derived.Test.YtfjopjalhllplaaGreatK16
namespace Go.Proofs.YtfjopjalhllplaaGreat
open Go.RowKit
set_option maxRecDepth 100000
set_option linter.unusedVariables false
set_option linter.unusedSimpArgs false
theorem s_eqs (a b : List DQ) (hl : a.length ≤ 4000000) : s_EqualState a b = some (a == b) := by
 unfold s_EqualState
 by_cases h : a.length = b.length
 ·have : ((a.length : Int) != (b.length : Int)) = false := by rw [h]; simp
  rw [this, br_false, ← eqs_step h]
  rw [loop_all0 (fun m k => s_EqualState_l1 a b m k) a.length (fun k => a[k]? == b[k]?) hl (fun m k hk => ?_) (some true) (fun m => ?_)]
  ·cases (List.range a.length).all (fun k => a[k]? == b[k]?) <;> rfl
  ·have hk' : k < b.length := by omega
   have hlt : decide ((k : Int) < (a.length : Int)) = true := decide_eq_true (by omega)
   show s_EqualState_l1 a b (m + 1) (k : Int) = _
   rw [s_EqualState_l1, hlt, br_true, geti_lt hk, bO_some, geti_lt hk', bO_some, w64s hk (by omega), List.getElem?_eq_getElem hk, List.getElem?_eq_getElem hk']
   have e : ((a[k].1 == b[k].1) && ((a[k].2.1 == b[k].2.1) && ((a[k].2.2.1 == b[k].2.2.1) && ((a[k].2.2.2.1 == b[k].2.2.2.1) && (a[k].2.2.2.2 == b[k].2.2.2.2))))) = (some a[k] == some b[k]) := rfl
   rw [e]
   cases (some a[k] == some b[k]) <;> rfl
  ·have hlt : decide ((a.length : Int) < (a.length : Int)) = false := decide_eq_false (by omega)
   show s_EqualState_l1 a b (m + 1) (a.length : Int) = _
   rw [s_EqualState_l1, hlt, br_false]
   rfl
 ·have : ((a.length : Int) != (b.length : Int)) = true := by simp; omega
  rw [this, br_true]
  have : (a == b) = false := by
   rw [Bool.eq_false_iff]; intro e
   rw [beq_iff_eq] at e
   exact h (by rw [e])
  rw [this]
end Go.Proofs.YtfjopjalhllplaaGreat
