/- Joined texts: Pr Psg. -/
import Derived.Test.YtfjopjalhllplaaGreatK3
import Derived.Test.YtfjopjalhllplaaGreatK9
import Derived.Test.YtfjopjalhllplaaGreatK7
/- Plain law: CircuitTableau. -/
namespace Go.Proofs.YtfjopjalhllplaaGreat
open Go.RowKit
set_option maxRecDepth 100000
set_option linter.unusedVariables false
set_option linter.unusedSimpArgs false
def idOk (n : Nat) : Bool := match i_IdentityTableau (n : Int), s_IdentityTableau (n : Int) with
 | some r', some r => r' == r && (r.1 == (n : Int) && (tB r.1 r.2 && r.2.length == 2 * n))
 | _, _ => false
theorem id_fin : ∀ n : Fin 5, (decide (n.val < 1) || idOk n.val) = true := by decide +kernel
/-- The identity's tableau. -/
def idT (N : Int) : List Q4 := match s_IdentityTableau N with | some r => r.2 | none => []
theorem id_ok {N : Int} (h : 1 ≤ N ∧ N ≤ 4) : s_IdentityTableau N = some (N, idT N) ∧ i_IdentityTableau N = some (N, idT N) ∧ tB N (idT N) = true ∧ (idT N).length = 2 * N.toNat := by
 obtain ⟨k, rfl⟩ := fin_of' (n := 5) (x := N) (by omega)
 have e := id_fin k
 rw [decide_eq_false (by omega : ¬ k.val < 1), Bool.false_or] at e
 unfold idOk at e
 unfold idT
 split at e
 ·rename_i r' r h1 h2
  rw [h1, h2]
  obtain ⟨r1, r2⟩ := r
  simp only [Bool.and_eq_true, beq_iff_eq] at e
  obtain ⟨rfl, h1, h3, h4⟩ := e
  subst h1
  exact ⟨rfl, rfl, h3, by rw [h4]; simp⟩
 ·cases e
end Go.Proofs.YtfjopjalhllplaaGreat
/- Plain law: sameGates of a list and itself. -/
namespace Go.Proofs.YtfjopjalhllplaaGreat
open Go.RowKit
set_option maxRecDepth 100000
set_option linter.unusedVariables false
set_option linter.unusedSimpArgs false
theorem same_self (l : List Q4) (hl : l.length ≤ 4000000) : l_sameGates l l = some true := by
 unfold l_sameGates
 simp only [bne_self_eq_false, br_false]
 rw [loop_all0 (l_sameGates_l1 l l) l.length (fun _ => true) (by omega) (fun m k hk => ?_) (some true) (fun m => ?_), all_true]
 ·rfl
 ·have hlt : (k : Int) < (l.length : Int) := by omega
  rw [l_sameGates_l1, geti_lt hk, w64s hk (by omega)]
  simp only [hlt, decide_true, br_true, bO_some, beq_self_eq_true, Bool.and_self, Bool.not_true, br_false]
 ·have hlt : ¬ (l.length : Int) < (l.length : Int) := by omega
  rw [l_sameGates_l1]
  simp only [hlt, decide_false, br_false, l_sameGates_j1]
end Go.Proofs.YtfjopjalhllplaaGreat
