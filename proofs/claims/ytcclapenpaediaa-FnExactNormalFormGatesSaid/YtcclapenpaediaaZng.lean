/- Plain law: NormalFormGates. -/
import Derived.Test.YtcclapenpaediaaMLng
import Derived.Test.YtcclapenpaediaaPnf
import Derived.Test.YtcclapenpaediaaPk
namespace Go.Proofs.Ytcclapenpaediaa
open Go.RowKit
set_option maxRecDepth 100000
set_option linter.unusedVariables false
set_option linter.unusedSimpArgs false
theorem markInt_ok (l : List Int) (k : Int) (hl : l.length ≤ 1048576) (hk : 0 ≤ k ∧ k ≤ 1000000000) : ∃ r, l_markIntS l k = some (k + (l.length : Int), r) ∧ r.length = l.length := by
  have key : ∀ (m i : Nat) (v : List Int), i ≤ l.length → l.length - i < m → v.length = l.length → ∃ r, l_markIntS_l1 m v (k + i) i = some (k + (l.length : Int), r) ∧ r.length = l.length := by
    intro m
    induction m with
    | zero => intro i v _ h; omega
    | succ m ih =>
      intro i v hi hm hv
      rw [l_markIntS_l1]
      by_cases e : i = l.length
      · have hlt : ¬ (i : Int) < (v.length : Int) := by omega
        simp only [hlt, decide_false, br_false, l_markIntS_j1]
        exact ⟨v, by rw [e], hv⟩
      · have hiv : i < v.length := by omega
        have hlt : (i : Int) < (v.length : Int) := by omega
        simp only [hlt, decide_true, br_true, geti_lt hiv, bO_some]
        rw [w64 (x := k + i + 1) (by omega) (by omega), w64s (n := l.length) (by omega) (by omega), show k + (i : Int) + 1 = k + ((i + 1 : Nat) : Int) by omega]
        exact ih (i + 1) _ (by omega) (by omega) (by simpa using hv)
  have := key FU 0 l (by omega) (by rw [FU_eq]; omega) rfl
  unfold l_markIntS
  simpa using this
theorem markTableau_k (N : Int) (l : List Q4) (k : Int) (hl : l.length ≤ 1048576) (hk : 0 ≤ k ∧ k ≤ 1000000000) : l_markTableau N l k = some (k + 4 * (l.length : Int), mkQ k l.length) := by
  unfold l_markTableau
  rw [markPauliS_eq l k (by omega) hk, bO_some]
  simp only [mkQ_len, decide_true, gd_true]
theorem markNF_ok (y : List Int) (N : Int) (l : List Q4) (hy : y.length ≤ 1048576) (hl : l.length ≤ 1048576) : ∃ r, l_markNormalForm y N l 1 = some r ∧ (r.2.1.length = y.length ∧ r.2.2.length = l.length) ∧ 0 ≤ r.1 := by
  obtain ⟨r, h1, h2⟩ := markInt_ok y 1 hy (by omega)
  unfold l_markNormalForm
  rw [h1, bO_some]
  have hg : decide (r.length = y.length) = true := decide_eq_true h2
  have hg2 : decide ((mkQ (1 + (y.length : Int)) l.length).length = l.length) = true := decide_eq_true (mkQ_len _ _)
  simp only [hg, gd_true, markTableau_k N l (1 + (y.length : Int)) hl (by omega), bO_some, hg2]
  exact ⟨_, rfl, ⟨h2, mkQ_len _ _⟩, by show 0 ≤ 1 + (y.length : Int) + 4 * (l.length : Int); omega⟩
theorem law_NormalFormGates (y : List Int) (N : Int) (l : List Q4) (hy : y.length ≤ 9223372036854775807) (hl : l.length ≤ 9223372036854775807) : l_FnExactNormalFormGates y N l = some true := by
  unfold l_FnExactNormalFormGates
  rw [szNormalForm_eq y N l _ (by omega) hy hl, bO_some]
  by_cases h : (y.length : Int) + l.length ≤ 1048576
  · have h1 : ¬ 1048576 - (y.length : Int) - (l.length : Int) < 0 := by omega
    obtain ⟨r, hs, hi, hr⟩ := nfg_eq y N l (by omega) (by omega)
    obtain ⟨m, g1, ⟨g2, g3⟩, g4⟩ := markNF_ok y N l (by omega) (by omega)
    have d2 : decide (m.2.1.length = y.length) = true := decide_eq_true g2
    have d3 : decide (m.2.2.length = l.length) = true := decide_eq_true g3
    have hq1 : ¬ m.1 < 0 := by omega
    have hq2 : ¬ (1 + 4 * (r.length : Int)) < 0 := by omega
    simp only [if_pos h, h1, decide_false, br_false, toNormalForm_eq y N l (by omega) (by omega), bO_some, hs, hi, bne_self_eq_false, eqGateS_self r (by omega), eqNormalForm_self y N l (by omega) (by omega), Bool.not_true,
      l_FnExactNormalFormGates_j1, g1, d2, d3, markGateS_eq r 1 (by omega) (by omega), mkQ_len, decide_true, gd_true, hq1, hq2, heldGateS_eq r.length 1 (by omega) (by omega)]
  · simp only [if_neg h]; rfl
end Go.Proofs.Ytcclapenpaediaa
