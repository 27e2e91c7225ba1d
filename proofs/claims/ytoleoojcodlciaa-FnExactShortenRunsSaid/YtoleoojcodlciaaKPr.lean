/- Plain law: CircuitTableau. -/
import Derived.Test.YtoleoojcodlciaaK3
import Derived.Test.YtoleoojcodlciaaK9
namespace Go.Proofs.Ytoleoojcodlciaa
open Go.RowKit
set_option maxRecDepth 100000
set_option linter.unusedVariables false
set_option linter.unusedSimpArgs false
/-- A valid circuit. -/
def gvB (N : Int) (l : List Q4) (k : Nat) : Bool := match l[k]? with
  | some q => ivg q.1 q.2.1 q.2.2.1 q.2.2.2 N
  | none => false
def vC (N : Int) (l : List Q4) : Bool := (List.range l.length).all (gvB N l) && (decide (1 ≤ N ∧ N ≤ 4) && decide ((l.length : Int) ≤ 60))
theorem gvB_eq {N : Int} {l : List Q4} {k : Nat} {q : Q4} (hq : l[k]? = some q) : gvB N l k = ivg q.1 q.2.1 q.2.2.1 q.2.2.2 N := by unfold gvB; rw [hq]
theorem s_circ (N : Int) (l : List Q4) (hl : l.length ≤ 1048576) : s_IsValidCircuit N l = some (vC N l) := by
  unfold s_IsValidCircuit
  rw [loop_all0 (s_IsValidCircuit_l1 N l) l.length (gvB N l) (by omega) (fun m k hk => ?_) (some (decide (1 ≤ N ∧ N ≤ 4) && decide ((l.length : Int) ≤ 60))) (fun m => ?_)]
  · unfold vC
    cases (List.range l.length).all (gvB N l) <;> rfl
  · have hq := List.getElem?_eq_getElem hk
    have hlt : (k : Int) < (l.length : Int) := by omega
    rw [s_IsValidCircuit_l1, geti_nat hq, gvB_eq hq]
    simp only [hlt, decide_true, br_true, bO_some, s_ivg]
    rw [w64s hk (by omega)]
    cases ivg l[k].1 l[k].2.1 l[k].2.2.1 l[k].2.2.2 N <;> simp only [Bool.not_true, Bool.not_false, br_true, br_false]
  · have hlt : ¬ (l.length : Int) < (l.length : Int) := by omega
    rw [s_IsValidCircuit_l1]
    simp only [hlt, decide_false, br_false, s_IsValidCircuit_j1, s_in_eq, bO_some, br_and, s_IsValidCircuit_j2]
theorem i_circ (N : Int) (l : List Q4) (hl : l.length ≤ 1048576) : i_IsValidCircuit N l = some (vC N l) := by
  unfold i_IsValidCircuit
  simp only [i_in_eq, bO_some]
  unfold vC
  by_cases hN : 1 ≤ N ∧ N ≤ 4
  · by_cases hlen : (l.length : Int) ≤ 60
    · have h60 : ¬ 60 < (l.length : Int) := by omega
      simp only [hN, hlen, h60, and_self, decide_true, decide_false, Bool.not_true, br_false, bO_some, i_IsValidCircuit_j1, Bool.and_true]
      rw [loop_all0 (fun m k => i_IsValidCircuit_l1 N l m (l.length : Int) k) l.length (gvB N l) (by omega) (fun m k hk => ?_) (some true) (fun m => ?_)]
      · cases (List.range l.length).all (gvB N l) <;> rfl
      · have hq := List.getElem?_eq_getElem hk
        have hlt : (k : Int) < (l.length : Int) := by omega
        show i_IsValidCircuit_l1 N l (m + 1) (l.length : Int) (k : Int) = _
        rw [i_IsValidCircuit_l1, geti_nat hq, gvB_eq hq]
        simp only [hlt, decide_true, br_true, bO_some, i_IsValidGate]
        rw [w64s hk (by omega)]
        cases ivg l[k].1 l[k].2.1 l[k].2.2.1 l[k].2.2.2 N <;> simp only [Bool.not_true, Bool.not_false, br_true, br_false]
      · have hlt : ¬ (l.length : Int) < (l.length : Int) := by omega
        show i_IsValidCircuit_l1 N l (m + 1) (l.length : Int) (l.length : Int) = _
        rw [i_IsValidCircuit_l1]
        simp only [hlt, decide_false, br_false, i_IsValidCircuit_j2]
    · have h60 : 60 < (l.length : Int) := by omega
      simp only [hN, hlen, h60, and_self, decide_true, decide_false, Bool.not_true, br_false, br_true, bO_some, i_IsValidCircuit_j1, Bool.and_false]
  · simp only [hN, decide_false, Bool.not_false, br_true, bO_some, i_IsValidCircuit_j1, Bool.false_and, Bool.and_false]
def idOk (n : Nat) : Bool := match i_IdentityTableau (n : Int), s_IdentityTableau (n : Int) with
  | some r', some r => r' == r && (r.1 == (n : Int) && (tB r.1 r.2 && r.2.length == 2 * n))
  | _, _ => false
theorem id_fin : ∀ n : Fin 5, (decide (n.val < 1) || idOk n.val) = true := by decide +kernel
/-- The identity's tableau. -/
def idT (N : Int) : List Q4 := match s_IdentityTableau N with | some r => r.2 | none => []
theorem id_ok {N : Int} (h : 1 ≤ N ∧ N ≤ 4) : s_IdentityTableau N = some (N, idT N) ∧ i_IdentityTableau N = some (N, idT N) ∧ tB N (idT N) = true ∧ (idT N).length = 2 * N.toNat := by
  obtain ⟨k, rfl⟩ := fin_of' (n := 5) (x := N) (by omega)
  have e := id_fin k
  rw [decide_eq_false (by omega : ¬ k.val < 1), Bool.false_or] at e
  unfold idOk at e
  unfold idT
  split at e
  · rename_i r' r h1 h2
    rw [h1, h2]
    obtain ⟨r1, r2⟩ := r
    simp only [Bool.and_eq_true, beq_iff_eq] at e
    obtain ⟨rfl, h1, h3, h4⟩ := e
    subst h1
    exact ⟨rfl, rfl, h3, by rw [h4]; simp⟩
  · cases e
theorem circ_loop (g : List Q4) (hg : g.length ≤ 1048576) : ∀ (m j : Nat) (N : Int) (l : List Q4), j ≤ g.length → g.length - j < m → l.length ≤ 1048576 →
    ∃ r, s_CircuitTableau_l1 g m j N l = some r ∧ i_CircuitTableau_l1 g m (g.length : Int) j N l = some r ∧ r.2.1.length ≤ 1048576
  | 0, j, N, l, _, h, _ => by omega
  | m + 1, j, N, l, hj, h, hl => by
    rw [s_CircuitTableau_l1, i_CircuitTableau_l1]
    by_cases e : j = g.length
    · have hlt : ¬ (j : Int) < (g.length : Int) := by omega
      simp only [hlt, decide_false, br_false]
      exact ⟨(N, l, true), rfl, rfl, hl⟩
    · have hjl : j < g.length := by omega
      have hlt : (j : Int) < (g.length : Int) := by omega
      obtain ⟨r, hs, hi, hr⟩ := tabg_eq N l hl g[j].1 g[j].2.1 g[j].2.2.1 g[j].2.2.2
      simp only [hlt, decide_true, br_true, geti_lt hjl, bO_some, hs, hi, w64s hjl (by omega : g.length ≤ 4194304)]
      cases r.2.2 with
      | false =>
        simp only [Bool.not_false, br_true]
        exact ⟨(0, [], false), rfl, rfl, by simp⟩
      | true =>
        simp only [Bool.not_true, br_false]
        exact circ_loop g hg m (j + 1) _ _ (by omega) (by omega) (by omega)
theorem circ_eq (N : Int) (g : List Q4) (hg : g.length ≤ 1048576) : ∃ r, s_CircuitTableau N g = some r ∧ i_CircuitTableau N g = some r ∧ r.2.1.length ≤ 1048576 := by
  unfold s_CircuitTableau i_CircuitTableau
  rw [s_circ N g hg, i_circ N g hg, bO_some, bO_some]
  cases h : vC N g with
  | false =>
    simp only [Bool.not_false, br_true]
    exact ⟨(0, [], false), rfl, rfl, by simp⟩
  | true =>
    have hN : 1 ≤ N ∧ N ≤ 4 := by
      unfold vC at h
      simp only [Bool.and_eq_true, decide_eq_true_eq] at h
      exact h.2.1
    obtain ⟨i1, i2, _, i4⟩ := id_ok hN
    simp only [Bool.not_true, br_false, i1, i2, bO_some]
    exact circ_loop g hg FU 0 N (idT N) (by omega) (by rw [FU_eq]; omega) (by omega)
end Go.Proofs.Ytoleoojcodlciaa
