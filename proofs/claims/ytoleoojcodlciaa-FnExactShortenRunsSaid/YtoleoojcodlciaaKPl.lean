/- Plain laws: the words of the statements (copies, sizes, equality). -/
import Derived.Test.YtoleoojcodlciaaK7
import Derived.Test.YtoleoojcodlciaaK9
namespace Go.Proofs.Ytoleoojcodlciaa
open Go.RowKit
set_option maxRecDepth 100000
set_option linter.unusedVariables false
set_option linter.unusedSimpArgs false
theorem loop_to {α : Type} (L : Nat → Int → List α → Option (List α)) (l : List α) (hs : ∀ m k v (hk : k < l.length), v.length = l.length → L (m + 1) (k : Int) v = L m ((k + 1 : Nat) : Int) (v.set k l[k])) (he : ∀ m v, v.length = l.length → L (m + 1) (l.length : Int) v = some v) :
    ∀ m k v, k ≤ l.length → l.length - k < m → v.length = l.length → v.take k = l.take k → L m (k : Int) v = some l
  | 0, k, v, _, h, _, _ => by omega
  | m + 1, k, v, hk, h, hv, ht => by
    by_cases e : k = l.length
    · subst e
      rw [he m v hv]
      rw [List.take_of_length_le (by omega), List.take_of_length_le (by omega)] at ht
      rw [ht]
    · have hk' : k < l.length := by omega
      rw [hs m k v hk' hv]
      refine loop_to L l hs he m (k + 1) _ (by omega) (by omega) (by simpa using hv) ?_
      rw [List.take_succ_eq_append_getElem (by simp; omega), List.take_succ_eq_append_getElem hk', List.getElem_set_self, List.take_set_of_le (Nat.le_refl _), ht]
theorem loop_to0 {α : Type} (L : Nat → Int → List α → Option (List α)) (l : List α) (z : α) (hl : l.length ≤ 1048576) (hs : ∀ m k v (hk : k < l.length), v.length = l.length → L (m + 1) (k : Int) v = L m ((k + 1 : Nat) : Int) (v.set k l[k])) (he : ∀ m v, v.length = l.length → L (m + 1) (l.length : Int) v = some v) :
    gd (decide (0 ≤ (l.length : Int) ∧ (l.length : Int) ≤ 1048576)) (L FU 0 (List.replicate (Int.toNat ((l.length : Int))) z)) = some l := by
  have h1 : 0 ≤ (l.length : Int) ∧ (l.length : Int) ≤ 1048576 := by omega
  simp only [h1, and_self, decide_true, gd_true]
  exact loop_to L l hs he FU 0 _ (by omega) (by rw [FU_eq]; omega) (by simp) (by simp)
theorem toGate_eq (q : Q4) : l_toGate q.1 q.2.1 q.2.2.1 q.2.2.2 = some q := rfl
theorem toGateS_eq (l : List Q4) (hl : l.length ≤ 1048576) : l_toGateS l = some l := by
  unfold l_toGateS
  refine loop_to0 (l_toGateS_l1 l) l _ hl (fun m k v hk hv => ?_) (fun m v hv => ?_)
  · have hlt : (k : Int) < (l.length : Int) := by omega
    rw [l_toGateS_l1, geti_lt hk, geti_lt (l := v) (by omega), w64s hk (by omega)]
    simp only [hlt, decide_true, br_true, bO_some, toGate_eq, Int.toNat_natCast]
  · have hlt : ¬ (l.length : Int) < (l.length : Int) := by omega
    rw [l_toGateS_l1]
    simp only [hlt, decide_false, br_false, l_toGateS_j1]
theorem szGateS_eq (l : List Q4) (a : Int) (h0 : 0 ≤ a ∧ a ≤ 1048576) (hl : l.length ≤ 9223372036854775807) : l_szGateS l a = some (if (l.length : Int) ≤ a then a - l.length else -1) := by
  unfold l_szGateS
  rw [w64 (by omega) (by omega)]
  by_cases h : (l.length : Int) ≤ a
  · have : ¬ a - (l.length : Int) < 0 := by omega
    simp only [this, decide_false, br_false, if_pos h]
  · have : a - (l.length : Int) < 0 := by omega
    simp only [this, decide_true, br_true, if_neg h]
theorem eqGate_self (q : Q4) : l_eqGate q.1 q.2.1 q.2.2.1 q.2.2.2 q.1 q.2.1 q.2.2.1 q.2.2.2 = some true := by
  unfold l_eqGate; simp only [bne_self_eq_false, br_false]
theorem eqGateS_self (l : List Q4) (hl : l.length ≤ 4000000) : l_eqGateS l l = some true := by
  unfold l_eqGateS
  simp only [bne_self_eq_false, br_false]
  rw [loop_all0 (l_eqGateS_l1 l l) l.length (fun _ => true) (by omega) (fun m k hk => ?_) (some true) (fun m => ?_), all_true]
  · rfl
  · have hlt : (k : Int) < (l.length : Int) := by omega
    rw [l_eqGateS_l1, geti_lt hk, w64s hk (by omega)]
    simp only [hlt, decide_true, br_true, bO_some, eqGate_self, Bool.not_true, br_false]
  · have hlt : ¬ (l.length : Int) < (l.length : Int) := by omega
    rw [l_eqGateS_l1]
    simp only [hlt, decide_false, br_false, l_eqGateS_j1]
end Go.Proofs.Ytoleoojcodlciaa
