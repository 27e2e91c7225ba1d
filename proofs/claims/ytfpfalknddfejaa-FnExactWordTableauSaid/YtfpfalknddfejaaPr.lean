/- Plain law: CircuitTableau. -/
import Derived.Test.YtfpfalknddfejaaMi
import Derived.Test.YtfpfalknddfejaaPt
namespace Go.Proofs.Ytfpfalknddfejaa
open Go.RowKit
set_option maxRecDepth 100000
set_option linter.unusedVariables false
set_option linter.unusedSimpArgs false
theorem toGate_eq (q : Q4) : l_toGate q.1 q.2.1 q.2.2.1 q.2.2.2 = some q := rfl
theorem toGateS_eq (l : List Q4) (hl : l.length ≤ 1048576) : l_toGateS l = some l := by
  unfold l_toGateS
  refine loop_to0 (l_toGateS_l1 l) l _ hl (fun m k v hk hv => ?_) (fun m v hv => ?_)
  · have hlt : (k : Int) < (l.length : Int) := by omega
    rw [l_toGateS_l1, geti_lt hk, geti_lt (l := v) (by omega), w64s hk (by omega)]
    simp only [hlt, decide_true, br_true, bO_some, toGate_eq, Int.toNat_natCast]
  · have hlt : ¬ (l.length : Int) < (l.length : Int) := by omega
    rw [l_toGateS_l1]
    simp only [hlt, decide_false, br_false, l_toGateS_j1]
theorem szGateS_eq (l : List Q4) (a : Int) (h0 : 0 ≤ a ∧ a ≤ 1048576) (hl : l.length ≤ 9223372036854775807) : l_szGateS l a = some (if (l.length : Int) ≤ a then a - l.length else -1) := by
  unfold l_szGateS
  rw [w64 (by omega) (by omega)]
  by_cases h : (l.length : Int) ≤ a
  · have : ¬ a - (l.length : Int) < 0 := by omega
    simp only [this, decide_false, br_false, if_pos h]
  · have : a - (l.length : Int) < 0 := by omega
    simp only [this, decide_true, br_true, if_neg h]
theorem eqGate_self (q : Q4) : l_eqGate q.1 q.2.1 q.2.2.1 q.2.2.2 q.1 q.2.1 q.2.2.1 q.2.2.2 = some true := by
  unfold l_eqGate; simp only [bne_self_eq_false, br_false]
theorem eqGateS_self (l : List Q4) (hl : l.length ≤ 1048576) : l_eqGateS l l = some true := by
  unfold l_eqGateS
  simp only [bne_self_eq_false, br_false]
  rw [loop_all0 (l_eqGateS_l1 l l) l.length (fun _ => true) (by omega) (fun m k hk => ?_) (some true) (fun m => ?_), all_true]
  · rfl
  · have hlt : (k : Int) < (l.length : Int) := by omega
    rw [l_eqGateS_l1, geti_lt hk, w64s hk (by omega)]
    simp only [hlt, decide_true, br_true, bO_some, eqGate_self, Bool.not_true, br_false]
  · have hlt : ¬ (l.length : Int) < (l.length : Int) := by omega
    rw [l_eqGateS_l1]
    simp only [hlt, decide_false, br_false, l_eqGateS_j1]
theorem markGateS_eq (l : List Q4) (k : Int) (hl : l.length ≤ 1048576) (hk : 0 ≤ k ∧ k ≤ 1000000000) : l_markGateS l k = some (k + 4 * (l.length : Int), mkQ k l.length) := by
  unfold l_markGateS
  refine mark_gen0 l_markGateS_l1 l k hl (fun m i v hv hi => ?_) (fun m v hv => ?_)
  · have hlt : (i : Int) < (v.length : Int) := by omega
    have hiv : i < v.length := by omega
    rw [l_markGateS_l1]
    simp only [hlt, decide_true, br_true, geti_lt hiv, bO_some, Int.toNat_natCast, geti_set_self hiv, List.set_set]
    rw [w64 (x := k + 4 * i + 1) (by omega) (by omega), w64 (x := k + 4 * i + 1 + 1) (by omega) (by omega), w64 (x := k + 4 * i + 1 + 1 + 1) (by omega) (by omega), w64 (x := k + 4 * i + 1 + 1 + 1 + 1) (by omega) (by omega), w64s hi (by omega)]
    rw [show k + 4 * (i : Int) + 1 + 1 + 1 + 1 = k + 4 * ((i + 1 : Nat) : Int) by omega]
    congr 2
    unfold mk4
    rw [show k + 4 * (i : Int) + 1 + 1 = k + 4 * (i : Int) + 2 by omega, show k + 4 * (i : Int) + 2 + 1 = k + 4 * (i : Int) + 3 by omega]
  · have hlt : ¬ (l.length : Int) < (v.length : Int) := by omega
    rw [l_markGateS_l1]
    simp only [hlt, decide_false, br_false, l_markGateS_j1]
theorem toCircuit_eq (N : Int) (l : List Q4) (hl : l.length ≤ 1048576) : l_toCircuit N l = some (N, l) := by
  unfold l_toCircuit; rw [toGateS_eq l hl]; rfl
theorem szCircuit_eq (N : Int) (l : List Q4) (a : Int) (h0 : 0 ≤ a ∧ a ≤ 1048576) (hl : l.length ≤ 9223372036854775807) : l_szCircuit N l a = some (if (l.length : Int) ≤ a then a - l.length else -1) := by
  unfold l_szCircuit
  rw [szGateS_eq l a h0 hl, bO_some]
  by_cases h : (l.length : Int) ≤ a
  · have : ¬ a - (l.length : Int) < 0 := by omega
    simp only [if_pos h, this, decide_false, br_false]
  · simp only [if_neg h]; rfl
theorem eqCircuit_self (N : Int) (l : List Q4) (hl : l.length ≤ 1048576) : l_eqCircuit N l N l = some true := by
  unfold l_eqCircuit; rw [eqGateS_self l hl]; simp only [bne_self_eq_false, br_false, bO_some, Bool.not_true]
theorem markCircuit_eq (N : Int) (l : List Q4) (hl : l.length ≤ 1048576) : l_markCircuit N l 1 = some ((1 + 4 * (l.length : Int) : Int), mkQ 1 l.length) := by
  unfold l_markCircuit
  rw [markGateS_eq l 1 hl (by omega), bO_some]
  simp only [mkQ_len, decide_true, gd_true]
/-- A valid circuit. -/
def gvB (N : Int) (l : List Q4) (k : Nat) : Bool := match l[k]? with
  | some q => ivg q.1 q.2.1 q.2.2.1 q.2.2.2 N
  | none => false
def vC (N : Int) (l : List Q4) : Bool := (List.range l.length).all (gvB N l) && (decide (1 ≤ N ∧ N ≤ 4) && decide ((l.length : Int) ≤ 60))
theorem gvB_eq {N : Int} {l : List Q4} {k : Nat} {q : Q4} (hq : l[k]? = some q) : gvB N l k = ivg q.1 q.2.1 q.2.2.1 q.2.2.2 N := by unfold gvB; rw [hq]
theorem s_circ (N : Int) (l : List Q4) (hl : l.length ≤ 1048576) : s_IsValidCircuit N l = some (vC N l) := by
  unfold s_IsValidCircuit
  rw [loop_all0 (s_IsValidCircuit_l1 N l) l.length (gvB N l) (by omega) (fun m k hk => ?_) (some (decide (1 ≤ N ∧ N ≤ 4) && decide ((l.length : Int) ≤ 60))) (fun m => ?_)]
  · unfold vC
    cases (List.range l.length).all (gvB N l) <;> rfl
  · have hq := List.getElem?_eq_getElem hk
    have hlt : (k : Int) < (l.length : Int) := by omega
    rw [s_IsValidCircuit_l1, geti_nat hq, gvB_eq hq]
    simp only [hlt, decide_true, br_true, bO_some, s_ivg]
    rw [w64s hk (by omega)]
    cases ivg l[k].1 l[k].2.1 l[k].2.2.1 l[k].2.2.2 N <;> simp only [Bool.not_true, Bool.not_false, br_true, br_false]
  · have hlt : ¬ (l.length : Int) < (l.length : Int) := by omega
    rw [s_IsValidCircuit_l1]
    simp only [hlt, decide_false, br_false, s_IsValidCircuit_j1, s_in_eq, bO_some, br_and, s_IsValidCircuit_j2]
theorem i_circ (N : Int) (l : List Q4) (hl : l.length ≤ 1048576) : i_IsValidCircuit N l = some (vC N l) := by
  unfold i_IsValidCircuit
  simp only [i_in_eq, bO_some]
  unfold vC
  by_cases hN : 1 ≤ N ∧ N ≤ 4
  · by_cases hlen : (l.length : Int) ≤ 60
    · have h60 : ¬ 60 < (l.length : Int) := by omega
      simp only [hN, hlen, h60, and_self, decide_true, decide_false, Bool.not_true, br_false, bO_some, i_IsValidCircuit_j1, Bool.and_true]
      rw [loop_all0 (fun m k => i_IsValidCircuit_l1 N l m (l.length : Int) k) l.length (gvB N l) (by omega) (fun m k hk => ?_) (some true) (fun m => ?_)]
      · cases (List.range l.length).all (gvB N l) <;> rfl
      · have hq := List.getElem?_eq_getElem hk
        have hlt : (k : Int) < (l.length : Int) := by omega
        show i_IsValidCircuit_l1 N l (m + 1) (l.length : Int) (k : Int) = _
        rw [i_IsValidCircuit_l1, geti_nat hq, gvB_eq hq]
        simp only [hlt, decide_true, br_true, bO_some, i_IsValidGate]
        rw [w64s hk (by omega)]
        cases ivg l[k].1 l[k].2.1 l[k].2.2.1 l[k].2.2.2 N <;> simp only [Bool.not_true, Bool.not_false, br_true, br_false]
      · have hlt : ¬ (l.length : Int) < (l.length : Int) := by omega
        show i_IsValidCircuit_l1 N l (m + 1) (l.length : Int) (l.length : Int) = _
        rw [i_IsValidCircuit_l1]
        simp only [hlt, decide_false, br_false, i_IsValidCircuit_j2]
    · have h60 : 60 < (l.length : Int) := by omega
      simp only [hN, hlen, h60, and_self, decide_true, decide_false, Bool.not_true, br_false, br_true, bO_some, i_IsValidCircuit_j1, Bool.and_false]
  · simp only [hN, decide_false, Bool.not_false, br_true, bO_some, i_IsValidCircuit_j1, Bool.false_and, Bool.and_false]
def idOk (n : Nat) : Bool := match i_IdentityTableau (n : Int), s_IdentityTableau (n : Int) with
  | some r', some r => r' == r && (r.1 == (n : Int) && (tB r.1 r.2 && r.2.length == 2 * n))
  | _, _ => false
theorem id_fin : ∀ n : Fin 5, (decide (n.val < 1) || idOk n.val) = true := by decide +kernel
/-- The identity's tableau. -/
def idT (N : Int) : List Q4 := match s_IdentityTableau N with | some r => r.2 | none => []
theorem id_ok {N : Int} (h : 1 ≤ N ∧ N ≤ 4) : s_IdentityTableau N = some (N, idT N) ∧ i_IdentityTableau N = some (N, idT N) ∧ tB N (idT N) = true ∧ (idT N).length = 2 * N.toNat := by
  obtain ⟨k, rfl⟩ := fin_of' (n := 5) (x := N) (by omega)
  have e := id_fin k
  rw [decide_eq_false (by omega : ¬ k.val < 1), Bool.false_or] at e
  unfold idOk at e
  unfold idT
  split at e
  · rename_i r' r h1 h2
    rw [h1, h2]
    obtain ⟨r1, r2⟩ := r
    simp only [Bool.and_eq_true, beq_iff_eq] at e
    obtain ⟨rfl, h1, h3, h4⟩ := e
    subst h1
    exact ⟨rfl, rfl, h3, by rw [h4]; simp⟩
  · cases e
theorem circ_loop (g : List Q4) (hg : g.length ≤ 1048576) : ∀ (m j : Nat) (N : Int) (l : List Q4), j ≤ g.length → g.length - j < m → l.length ≤ 1048576 →
    ∃ r, s_CircuitTableau_l1 g m j N l = some r ∧ i_CircuitTableau_l1 g m (g.length : Int) j N l = some r ∧ r.2.1.length ≤ 1048576
  | 0, j, N, l, _, h, _ => by omega
  | m + 1, j, N, l, hj, h, hl => by
    rw [s_CircuitTableau_l1, i_CircuitTableau_l1]
    by_cases e : j = g.length
    · have hlt : ¬ (j : Int) < (g.length : Int) := by omega
      simp only [hlt, decide_false, br_false]
      exact ⟨(N, l, true), rfl, rfl, hl⟩
    · have hjl : j < g.length := by omega
      have hlt : (j : Int) < (g.length : Int) := by omega
      obtain ⟨r, hs, hi, hr⟩ := tabg_eq N l hl g[j].1 g[j].2.1 g[j].2.2.1 g[j].2.2.2
      simp only [hlt, decide_true, br_true, geti_lt hjl, bO_some, hs, hi, w64s hjl (by omega : g.length ≤ 4194304)]
      cases r.2.2 with
      | false =>
        simp only [Bool.not_false, br_true]
        exact ⟨(0, [], false), rfl, rfl, by simp⟩
      | true =>
        simp only [Bool.not_true, br_false]
        exact circ_loop g hg m (j + 1) _ _ (by omega) (by omega) (by omega)
theorem circ_eq (N : Int) (g : List Q4) (hg : g.length ≤ 1048576) : ∃ r, s_CircuitTableau N g = some r ∧ i_CircuitTableau N g = some r ∧ r.2.1.length ≤ 1048576 := by
  unfold s_CircuitTableau i_CircuitTableau
  rw [s_circ N g hg, i_circ N g hg, bO_some, bO_some]
  cases h : vC N g with
  | false =>
    simp only [Bool.not_false, br_true]
    exact ⟨(0, [], false), rfl, rfl, by simp⟩
  | true =>
    have hN : 1 ≤ N ∧ N ≤ 4 := by
      unfold vC at h
      simp only [Bool.and_eq_true, decide_eq_true_eq] at h
      exact h.2.1
    obtain ⟨i1, i2, _, i4⟩ := id_ok hN
    simp only [Bool.not_true, br_false, i1, i2, bO_some]
    exact circ_loop g hg FU 0 N (idT N) (by omega) (by rw [FU_eq]; omega) (by omega)
theorem law_CircuitTableau (N : Int) (g : List Q4) (hl : g.length ≤ 9223372036854775807) : l_FnExactCircuitTableau N g = some true := by
  unfold l_FnExactCircuitTableau
  rw [szCircuit_eq N g _ (by omega) hl, bO_some]
  by_cases h : (g.length : Int) ≤ 1048576
  · have h1 : ¬ 1048576 - (g.length : Int) < 0 := by omega
    obtain ⟨r, hs, hi, hr⟩ := circ_eq N g (by omega)
    have hq1 : ¬ (1 + 4 * (g.length : Int)) < 0 := by omega
    have hq2 : ¬ (1 + 4 * (r.2.1.length : Int)) < 0 := by omega
    simp only [if_pos h, h1, decide_false, br_false, toCircuit_eq N g (by omega), bO_some, hs, hi, bne_self_eq_false, eqTableau_self r.1 r.2.1 (by omega), eqCircuit_self N g (by omega), Bool.not_true,
      l_FnExactCircuitTableau_j1, l_FnExactCircuitTableau_j2, l_FnExactCircuitTableau_j3, markCircuit_eq N g (by omega), markTableau_eq r.1 r.2.1 (by omega), mkQ_len, decide_true, gd_true, hq1, hq2, heldTableau_eq r.1 r.2.1.length (by omega)]
  · simp only [if_neg h]; rfl
end Go.Proofs.Ytfpfalknddfejaa
