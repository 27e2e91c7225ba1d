/- Plain laws: the words of the statements for states (copies, sizes, equality, marks). -/
import Derived.Test.YtoleoojcodlciaaKMdd
import Derived.Test.YtoleoojcodlciaaKPk
import Derived.Test.YtoleoojcodlciaaK16
namespace Go.Proofs.Ytoleoojcodlciaa
open Go.RowKit
set_option maxRecDepth 100000
set_option linter.unusedVariables false
set_option linter.unusedSimpArgs false
theorem eqDOmega_self (q : DQ) : l_eqDOmega q.1 q.2.1 q.2.2.1 q.2.2.2.1 q.2.2.2.2 q.1 q.2.1 q.2.2.1 q.2.2.2.1 q.2.2.2.2 = some true := by
  unfold l_eqDOmega l_eqZOmega; simp only [bne_self_eq_false, br_false, bO_some, Bool.not_true]
theorem eqDOmegaS_self (l : List DQ) (hl : l.length ≤ 4000000) : l_eqDOmegaS l l = some true := by
  unfold l_eqDOmegaS
  simp only [bne_self_eq_false, br_false]
  rw [loop_all0 (l_eqDOmegaS_l1 l l) l.length (fun _ => true) (by omega) (fun m k hk => ?_) (some true) (fun m => ?_), all_true]
  · rfl
  · have hlt : (k : Int) < (l.length : Int) := by omega
    rw [l_eqDOmegaS_l1, geti_lt hk, w64s hk (by omega)]
    simp only [hlt, decide_true, br_true, bO_some, eqDOmega_self, Bool.not_true, br_false]
  · have hlt : ¬ (l.length : Int) < (l.length : Int) := by omega
    rw [l_eqDOmegaS_l1]
    simp only [hlt, decide_false, br_false, l_eqDOmegaS_j1]
def mk5 (k : Int) (j : Nat) : DQ := (k + 5 * j, k + 5 * j + 1, k + 5 * j + 2, k + 5 * j + 3, k + 5 * j + 4)
def mkF (k : Int) (n : Nat) : List DQ := (List.range n).map (mk5 k)
theorem mkF_len (k : Int) (n : Nat) : (mkF k n).length = n := by simp [mkF]
theorem mkF_get {k : Int} {n j : Nat} (h : j < n) : (mkF k n)[j]? = some (mk5 k j) := by simp [mkF, h]
theorem markDOmegaS_eq (l : List DQ) (k : Int) (hl : l.length ≤ 4000000) (hk : 0 ≤ k ∧ k ≤ 1000000000) : l_markDOmegaS l k = some (k + 5 * (l.length : Int), mkF k l.length) := by
  have key : ∀ m i (v : List DQ), i ≤ l.length → l.length - i < m → v.length = l.length → v.take i = mkF k i → l_markDOmegaS_l1 m v (k + 5 * i) i = some (k + 5 * (l.length : Int), mkF k l.length) := by
    intro m
    induction m with
    | zero => intro i v _ h; omega
    | succ m ih =>
      intro i v hi h hv ht
      by_cases e : i = l.length
      · have hlt : ¬ (i : Int) < (v.length : Int) := by omega
        rw [l_markDOmegaS_l1]
        simp only [hlt, decide_false, br_false, l_markDOmegaS_j1]
        rw [List.take_of_length_le (by omega)] at ht
        rw [ht, e]
      · have hlt : (i : Int) < (v.length : Int) := by omega
        have hiv : i < v.length := by omega
        rw [l_markDOmegaS_l1]
        simp only [hlt, decide_true, br_true, geti_lt hiv, bO_some, Int.toNat_natCast, geti_set_self hiv, List.set_set]
        rw [w64 (x := k + 5 * i + 1) (by omega) (by omega), w64 (x := k + 5 * i + 1 + 1) (by omega) (by omega), w64 (x := k + 5 * i + 1 + 1 + 1) (by omega) (by omega), w64 (x := k + 5 * i + 1 + 1 + 1 + 1) (by omega) (by omega), w64 (x := k + 5 * i + 1 + 1 + 1 + 1 + 1) (by omega) (by omega), w64s (n := l.length) (by omega) (by omega)]
        rw [show k + 5 * (i : Int) + 1 + 1 + 1 + 1 + 1 = k + 5 * ((i + 1 : Nat) : Int) by omega, show k + 5 * (i : Int) + 1 + 1 + 1 + 1 = k + 5 * (i : Int) + 4 by omega, show k + 5 * (i : Int) + 1 + 1 + 1 = k + 5 * (i : Int) + 3 by omega, show k + 5 * (i : Int) + 1 + 1 = k + 5 * (i : Int) + 2 by omega]
        refine ih (i + 1) _ (by omega) (by omega) (by simpa using hv) ?_
        rw [take_set_succ hiv, ht]
        unfold mkF
        rw [List.range_succ, List.map_append]
        rfl
  have := key FU 0 l (by omega) (by rw [FU_eq]; omega) rfl (by simp [mkF])
  unfold l_markDOmegaS
  simpa using this
theorem heldDOmegaS_eq (n : Nat) (k : Int) (hn : n ≤ 4000000) (hk : 0 ≤ k ∧ k ≤ 1000000000) : l_heldDOmegaS (mkF k n) k = some (k + 5 * (n : Int)) := by
  have key : ∀ m i, i ≤ n → n - i < m → l_heldDOmegaS_l1 (mkF k n) m (k + 5 * i) i = some (k + 5 * (n : Int)) := by
    intro m
    induction m with
    | zero => intro i _ h; omega
    | succ m ih =>
      intro i hi h
      rw [l_heldDOmegaS_l1]
      by_cases e : i = n
      · have hlt : ¬ (i : Int) < ((mkF k n).length : Int) := by rw [mkF_len]; omega
        simp only [hlt, decide_false, br_false, l_heldDOmegaS_j1]
        rw [e]
      · have hil : i < n := by omega
        have hlt : (i : Int) < ((mkF k n).length : Int) := by rw [mkF_len]; omega
        rw [w64 (x := k + 5 * i + 1) (by omega) (by omega), w64 (x := k + 5 * i + 1 + 1) (by omega) (by omega), w64 (x := k + 5 * i + 1 + 1 + 1) (by omega) (by omega), w64 (x := k + 5 * i + 1 + 1 + 1 + 1) (by omega) (by omega), w64 (x := k + 5 * i + 1 + 1 + 1 + 1 + 1) (by omega) (by omega), w64s hil (by omega)]
        rw [show k + 5 * (i : Int) + 1 + 1 + 1 + 1 + 1 = k + 5 * ((i + 1 : Nat) : Int) by omega, show k + 5 * (i : Int) + 1 + 1 + 1 + 1 = k + 5 * (i : Int) + 4 by omega, show k + 5 * (i : Int) + 1 + 1 + 1 = k + 5 * (i : Int) + 3 by omega, show k + 5 * (i : Int) + 1 + 1 = k + 5 * (i : Int) + 2 by omega]
        simp only [hlt, decide_true, br_true, geti_nat (mkF_get hil), bO_some, mk5, bne_self_eq_false, br_false]
        exact ih (i + 1) (by omega) (by omega)
  have := key FU 0 (by omega) (by rw [FU_eq]; omega)
  unfold l_heldDOmegaS
  simpa using this
end Go.Proofs.Ytoleoojcodlciaa
