/- Plain laws: the words of the statements for tables of Gates (equality, marks). -/
import Derived.Test.YtoleoojcodlciaaKMgs
import Derived.Test.YtoleoojcodlciaaKFm
import Derived.Test.YtoleoojcodlciaaKPk
namespace Go.Proofs.Ytoleoojcodlciaa
open Go.RowKit
set_option maxRecDepth 100000
set_option linter.unusedVariables false
set_option linter.unusedSimpArgs false
theorem eqGateSS_self (le : List (LQ)) (hl : le.length ≤ 1000) (hr : ∀ r ∈ le, r.length ≤ 1000) : l_eqGateSS le le = some true := by
  unfold l_eqGateSS
  simp only [bne_self_eq_false, br_false]
  rw [loop_all0 (l_eqGateSS_l1 le le) le.length (fun _ => true) (by omega) (fun m k hk => ?_) (some true) (fun m => ?_), all_true]
  · rfl
  · have hlt : (k : Int) < (le.length : Int) := by omega
    have hb := hr _ (List.getElem_mem hk)
    rw [l_eqGateSS_l1, geti_lt hk, w64s hk (by omega)]
    simp only [hlt, decide_true, br_true, bO_some, eqGateS_self le[k] (by omega), Bool.not_true, br_false]
  · have hlt : ¬ (le.length : Int) < (le.length : Int) := by omega
    rw [l_eqGateSS_l1]
    simp only [hlt, decide_false, br_false, l_eqGateSS_j1]
def slGate : List (LQ) → Int
  | [] => 0
  | x :: l => 4 * (x.length : Int) + slGate l
def msGate (k : Int) : List (LQ) → List (LQ)
  | [] => []
  | x :: l => mkQ k x.length :: msGate (k + 4 * (x.length : Int)) l
theorem slGate_nn : ∀ l : List (LQ), 0 ≤ slGate l
  | [] => by simp [slGate]
  | x :: l => by have := slGate_nn l; simp only [slGate]; omega
theorem msGate_len : ∀ (k : Int) (l : List (LQ)), (msGate k l).length = l.length
  | _, [] => rfl
  | k, x :: l => by simp [msGate, msGate_len (k + 4 * (x.length : Int)) l]
theorem set_mid {α : Type} (pre : List α) (x y : α) (rest : List α) : (pre ++ x :: rest).set pre.length y = pre ++ y :: rest := by
  rw [List.set_append_right _ _ (Nat.le_refl _), Nat.sub_self, List.set_cons_zero]
theorem get_mid {α : Type} (pre : List α) (x : α) (rest : List α) : geti (pre ++ x :: rest) (pre.length : Int) = some x := by
  refine geti_nat ?_
  rw [List.getElem?_append_right (Nat.le_refl _), Nat.sub_self, List.getElem?_cons_zero]
theorem markGateSS_eq (le : List (LQ)) (k : Int) (hl : le.length ≤ 1000) (hr : ∀ r ∈ le, r.length ≤ 1000) (hk : 0 ≤ k ∧ k + slGate le ≤ 1000000000) : l_markGateSS le k = some (k + slGate le, msGate k le) := by
  have key : ∀ (rest pre : List (LQ)) (k : Int) (m : Nat), pre.length + rest.length ≤ 1000 → (∀ r ∈ rest, r.length ≤ 1000) → 0 ≤ k ∧ k + slGate rest ≤ 1000000000 → rest.length < m → l_markGateSS_l1 m (pre ++ rest) k (pre.length : Int) = some (k + slGate rest, pre ++ msGate k rest) := by
    intro rest
    induction rest with
    | nil =>
      intro pre k m h1 h2 h3 h4
      obtain ⟨m, rfl⟩ : ∃ j, m = j + 1 := ⟨m - 1, by omega⟩
      have hlt : ¬ (pre.length : Int) < ((pre ++ ([] : List (LQ))).length : Int) := by simp
      rw [l_markGateSS_l1]
      simp only [hlt, decide_false, br_false, slGate, msGate, Int.add_zero]
    | cons x rest ih =>
      intro pre k m h1 h2 h3 h4
      obtain ⟨m, rfl⟩ : ∃ j, m = j + 1 := ⟨m - 1, by simp at h4; omega⟩
      simp only [List.length_cons] at h1 h4
      have hx := h2 x (by simp)
      have hn := slGate_nn rest
      simp only [slGate] at h3 ⊢
      have hlt : (pre.length : Int) < ((pre ++ x :: rest).length : Int) := by simp; omega
      rw [l_markGateSS_l1, get_mid]
      simp only [hlt, decide_true, br_true, bO_some, markGateS_eq x k (by omega) (by omega), mkQ_len, gd_true, Int.toNat_natCast, set_mid]
      have := ih (pre ++ [mkQ k x.length]) (k + 4 * (x.length : Int)) m (by simp; omega) (fun r hr => h2 r (by simp [hr])) (by omega) (by omega)
      rw [List.append_assoc, List.length_append] at this
      rw [w64s (n := 1000) (by omega) (by omega)]
      simp only [List.singleton_append, List.length_cons, List.length_nil, Nat.zero_add] at this
      rw [this]
      simp only [msGate, List.append_assoc, List.singleton_append, Int.add_assoc]
  exact key le [] k FU (by simpa using hl) hr hk (by rw [FU_eq]; omega)
theorem heldGateSS_eq (le : List (LQ)) (k : Int) (hl : le.length ≤ 1000) (hr : ∀ r ∈ le, r.length ≤ 1000) (hk : 0 ≤ k ∧ k + slGate le ≤ 1000000000) : l_heldGateSS (msGate k le) k = some (k + slGate le) := by
  have key : ∀ (rest pre : List (LQ)) (k : Int) (m : Nat), pre.length + rest.length ≤ 1000 → (∀ r ∈ rest, r.length ≤ 1000) → 0 ≤ k ∧ k + slGate rest ≤ 1000000000 → rest.length < m → l_heldGateSS_l1 (pre ++ msGate k rest) m k (pre.length : Int) = some (k + slGate rest) := by
    intro rest
    induction rest with
    | nil =>
      intro pre k m h1 h2 h3 h4
      obtain ⟨m, rfl⟩ : ∃ j, m = j + 1 := ⟨m - 1, by omega⟩
      have hlt : ¬ (pre.length : Int) < ((pre ++ msGate k []).length : Int) := by simp [msGate]
      rw [l_heldGateSS_l1]
      simp only [hlt, decide_false, br_false, slGate, l_heldGateSS_j1, Int.add_zero]
    | cons x rest ih =>
      intro pre k m h1 h2 h3 h4
      obtain ⟨m, rfl⟩ : ∃ j, m = j + 1 := ⟨m - 1, by simp at h4; omega⟩
      simp only [List.length_cons] at h1 h4
      have hx := h2 x (by simp)
      have hn := slGate_nn rest
      simp only [slGate, msGate] at h3 ⊢
      have hlt : (pre.length : Int) < ((pre ++ mkQ k x.length :: msGate (k + 4 * (x.length : Int)) rest).length : Int) := by simp; omega
      have h0 : ¬ k + 4 * (x.length : Int) < 0 := by omega
      rw [l_heldGateSS_l1, get_mid]
      simp only [hlt, decide_true, br_true, bO_some, heldGateS_eq x.length k (by omega) (by omega), h0, decide_false, br_false]
      have := ih (pre ++ [mkQ k x.length]) (k + 4 * (x.length : Int)) m (by simp; omega) (fun r hr => h2 r (by simp [hr])) (by omega) (by omega)
      rw [List.append_assoc, List.length_append] at this
      rw [w64s (n := 1000) (by omega) (by omega)]
      simp only [List.singleton_append, List.length_cons, List.length_nil, Nat.zero_add] at this
      rw [this]
      congr 1; omega
  exact key le [] k FU (by simpa using hl) hr hk (by rw [FU_eq]; omega)
end Go.Proofs.Ytoleoojcodlciaa
