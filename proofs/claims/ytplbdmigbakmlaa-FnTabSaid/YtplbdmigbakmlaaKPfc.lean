/- Plain law: conjugation by a tableau as a map of the group. -/
import Derived.Test.YtplbdmigbakmlaaK2
import Derived.Test.YtplbdmigbakmlaaK10
namespace Go.Proofs.Ytplbdmigbakmlaa
open Go.RowKit
set_option maxRecDepth 100000
set_option linter.unusedVariables false
set_option linter.unusedSimpArgs false
theorem cbt_i {N x z p : Int} {l : List Q4} (ht : tB N l = true) (hl : l.length ≤ 1048576) (hp : vP (N, x, z, p) = true) (h : 1 ≤ N ∧ N ≤ 4) :
    i_ConjugateByTableau N l N x z p = some (outG (led h (rwG h l) (rwB h l) ⟨(N, x, z, p), hp, rfl⟩)) := by
  obtain ⟨hx, hz, hpp⟩ := vP_sm hp
  obtain ⟨_, hlen, _⟩ := tB_inv2 ht
  unfold i_ConjugateByTableau
  simp only [i_tab N l hl, ht, i_valid, hp, bO_some, Bool.not_true, br_false, bne_self_eq_false, i_ConjugateByTableau_j1]
  have := led_loop (N := N) (fun m v q => i_ConjugateByTableau_l1 N l N x z m v q.1 q.2.1 q.2.2.1 q.2.2.2) (fun q => some (q.1, q.2.1, q.2.2.1, q.2.2.2, true)) h (rwG h l) (rwB h l) x z p (fun m v q hv => ?_) (fun m q => ?_)
  · rw [one_ph h hpp] at this
    exact this
  · show i_ConjugateByTableau_l1 N l N x z (m + 1) (v : Int) q.q.1 q.q.2.1 q.q.2.2.1 q.q.2.2.2 = _
    rw [i_ConjugateByTableau_l1]
    have hlt : (v : Int) < N := by omega
    have h0 : ¬ (v : Int) < 0 := by omega
    have g1 := geti_nat (rwG_q h ht (j := v) (by omega))
    have g2 := geti_nat (rwG_q h ht (j := N.toNat + v) (by omega))
    have hw2 : IntKind.wrap .i64 ((v : Int) + N) = ((N.toNat + v : Nat) : Int) := by rw [w64 (by omega) (by omega)]; omega
    have hw : IntKind.wrap .i64 ((v : Int) + 1) = ((v + 1 : Nat) : Int) := by rw [w64 (by omega) (by omega)]; omega
    simp only [hlt, decide_true, br_true, h0, not_false_eq_true, gd_true, hw2, g1, g2, bO_some, i_ConjugateByTableau_j8, i_ConjugateByTableau_j7, hw, bit_eq hx (by omega : v < 4), bit_eq hz (by omega : v < 4), (mulG _ _).2, outG]
    unfold Gp.pw rwB
    cases bt x v <;> cases bt z v <;> simp only [br_true, br_false, Bool.false_eq_true, if_true, if_false, (mulG _ _).2, outG, bO_some]
  · show i_ConjugateByTableau_l1 N l N x z (m + 1) N q.q.1 q.q.2.1 q.q.2.2.1 q.q.2.2.2 = _
    rw [i_ConjugateByTableau_l1]
    have hlt : ¬ N < N := by omega
    simp only [hlt, decide_false, br_false, i_ConjugateByTableau_j2]
end Go.Proofs.Ytplbdmigbakmlaa
