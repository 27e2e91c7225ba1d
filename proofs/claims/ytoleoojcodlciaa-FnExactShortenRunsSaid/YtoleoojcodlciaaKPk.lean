/- Plain laws: marks. -/
import Derived.Test.YtoleoojcodlciaaK7
import Derived.Test.YtoleoojcodlciaaKPl
namespace Go.Proofs.Ytoleoojcodlciaa
open Go.RowKit
set_option maxRecDepth 100000
set_option linter.unusedVariables false
set_option linter.unusedSimpArgs false
def mk4 (k : Int) (j : Nat) : Q4 := (k + 4 * j, k + 4 * j + 1, k + 4 * j + 2, k + 4 * j + 3)
def mkQ (k : Int) (n : Nat) : List Q4 := (List.range n).map (mk4 k)
theorem mkQ_len (k : Int) (n : Nat) : (mkQ k n).length = n := by simp [mkQ]
theorem mkQ_get {k : Int} {n j : Nat} (h : j < n) : (mkQ k n)[j]? = some (mk4 k j) := by simp [mkQ, h]
theorem geti_set_self {α : Type} {v : List α} {i : Nat} (h : i < v.length) (x : α) : geti (v.set i x) (i : Int) = some x := geti_nat (by rw [List.getElem?_set_self h])
theorem take_set_succ {α : Type} {v : List α} {i : Nat} (h : i < v.length) (x : α) : (v.set i x).take (i + 1) = v.take i ++ [x] := by
  rw [List.take_succ_eq_append_getElem (by simpa using h), List.getElem_set_self, List.take_set_of_le (Nat.le_refl _)]
theorem mark_gen (L : Nat → List Q4 → Int → Int → Option (Int × List Q4)) (n : Nat) (k : Int)
    (hs : ∀ m i (v : List Q4), v.length = n → i < n → L (m + 1) v (k + 4 * i) i = L m (v.set i (mk4 k i)) (k + 4 * ((i + 1 : Nat) : Int)) ((i + 1 : Nat) : Int))
    (he : ∀ m (v : List Q4), v.length = n → L (m + 1) v (k + 4 * n) n = some (k + 4 * n, v)) :
    ∀ m i (v : List Q4), i ≤ n → n - i < m → v.length = n → v.take i = mkQ k i → L m v (k + 4 * i) i = some (k + 4 * n, mkQ k n)
  | 0, i, v, _, h, _, _ => by omega
  | m + 1, i, v, hi, h, hv, ht => by
    by_cases e : i = n
    · subst e
      rw [he m v hv]
      rw [List.take_of_length_le (by omega)] at ht
      rw [ht]
    · rw [hs m i v hv (by omega)]
      refine mark_gen L n k hs he m (i + 1) _ (by omega) (by omega) (by simpa using hv) ?_
      rw [take_set_succ (by omega), ht]
      unfold mkQ
      rw [List.range_succ, List.map_append]
      rfl
theorem mark_gen0 (L : Nat → List Q4 → Int → Int → Option (Int × List Q4)) (l : List Q4) (k : Int) (hl : l.length ≤ 4000000)
    (hs : ∀ m i (v : List Q4), v.length = l.length → i < l.length → L (m + 1) v (k + 4 * i) i = L m (v.set i (mk4 k i)) (k + 4 * ((i + 1 : Nat) : Int)) ((i + 1 : Nat) : Int))
    (he : ∀ m (v : List Q4), v.length = l.length → L (m + 1) v (k + 4 * l.length) l.length = some (k + 4 * l.length, v)) : L FU l k 0 = some (k + 4 * l.length, mkQ k l.length) := by
  have := mark_gen L l.length k hs he FU 0 l (by omega) (by rw [FU_eq]; omega) rfl (by simp [mkQ])
  simpa using this
theorem held_gen0 (L : Nat → Int → Int → Option Int) (n : Nat) (k : Int) (hn : n ≤ 4000000)
    (hs : ∀ m i, i < n → L (m + 1) (k + 4 * i) i = L m (k + 4 * ((i + 1 : Nat) : Int)) ((i + 1 : Nat) : Int)) (he : ∀ m, L (m + 1) (k + 4 * n) n = some (k + 4 * n)) : L FU k 0 = some (k + 4 * n) := by
  have : ∀ m i, i ≤ n → n - i < m → L m (k + 4 * i) i = some (k + 4 * n) := by
    intro m
    induction m with
    | zero => intro i _ h; omega
    | succ m ih =>
      intro i hi h
      by_cases e : i = n
      · subst e; exact he m
      · rw [hs m i (by omega)]; exact ih (i + 1) (by omega) (by omega)
  have := this FU 0 (by omega) (by rw [FU_eq]; omega)
  simpa using this
theorem markGateS_eq (l : List Q4) (k : Int) (hl : l.length ≤ 4000000) (hk : 0 ≤ k ∧ k ≤ 1000000000) : l_markGateS l k = some (k + 4 * (l.length : Int), mkQ k l.length) := by
  unfold l_markGateS
  refine mark_gen0 l_markGateS_l1 l k hl (fun m i v hv hi => ?_) (fun m v hv => ?_)
  · have hlt : (i : Int) < (v.length : Int) := by omega
    have hiv : i < v.length := by omega
    rw [l_markGateS_l1]
    simp only [hlt, decide_true, br_true, geti_lt hiv, bO_some, Int.toNat_natCast, geti_set_self hiv, List.set_set]
    rw [w64 (x := k + 4 * i + 1) (by omega) (by omega), w64 (x := k + 4 * i + 1 + 1) (by omega) (by omega), w64 (x := k + 4 * i + 1 + 1 + 1) (by omega) (by omega), w64 (x := k + 4 * i + 1 + 1 + 1 + 1) (by omega) (by omega), w64s hi (by omega)]
    rw [show k + 4 * (i : Int) + 1 + 1 + 1 + 1 = k + 4 * ((i + 1 : Nat) : Int) by omega]
    congr 2
    unfold mk4
    rw [show k + 4 * (i : Int) + 1 + 1 = k + 4 * (i : Int) + 2 by omega, show k + 4 * (i : Int) + 2 + 1 = k + 4 * (i : Int) + 3 by omega]
  · have hlt : ¬ (l.length : Int) < (v.length : Int) := by omega
    rw [l_markGateS_l1]
    simp only [hlt, decide_false, br_false, l_markGateS_j1]
theorem heldGateS_eq (n : Nat) (k : Int) (hn : n ≤ 4000000) (hk : 0 ≤ k ∧ k ≤ 1000000000) : l_heldGateS (mkQ k n) k = some (k + 4 * (n : Int)) := by
  unfold l_heldGateS
  refine held_gen0 (l_heldGateS_l1 (mkQ k n)) n k hn (fun m i hi => ?_) (fun m => ?_)
  · have hlt : (i : Int) < ((mkQ k n).length : Int) := by rw [mkQ_len]; omega
    rw [l_heldGateS_l1]
    rw [w64 (x := k + 4 * i + 1) (by omega) (by omega), w64 (x := k + 4 * i + 1 + 1) (by omega) (by omega), w64 (x := k + 4 * i + 1 + 1 + 1) (by omega) (by omega), w64 (x := k + 4 * i + 1 + 1 + 1 + 1) (by omega) (by omega), w64s hi (by omega)]
    rw [show k + 4 * (i : Int) + 1 + 1 + 1 + 1 = k + 4 * ((i + 1 : Nat) : Int) by omega, show k + 4 * (i : Int) + 1 + 1 + 1 = k + 4 * (i : Int) + 3 by omega, show k + 4 * (i : Int) + 1 + 1 = k + 4 * (i : Int) + 2 by omega]
    simp only [hlt, decide_true, br_true, geti_nat (mkQ_get hi), bO_some, mk4, bne_self_eq_false, br_false]
  · have hlt : ¬ (n : Int) < ((mkQ k n).length : Int) := by rw [mkQ_len]; omega
    rw [l_heldGateS_l1]
    simp only [hlt, decide_false, br_false, l_heldGateS_j1]
end Go.Proofs.Ytoleoojcodlciaa
