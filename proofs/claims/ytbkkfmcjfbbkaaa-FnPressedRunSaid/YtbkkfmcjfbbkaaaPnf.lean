/- Plain laws: the gates of a normal form. -/
import Derived.Test.YtbkkfmcjfbbkaaaMo
import Derived.Test.YtbkkfmcjfbbkaaaPcw
import Derived.Test.YtbkkfmcjfbbkaaaPn
namespace Go.Proofs.Ytbkkfmcjfbbkaaa
open Go.RowKit
set_option maxRecDepth 100000
set_option linter.unusedVariables false
set_option linter.unusedSimpArgs false
theorem cosrep (q : Int) : ∃ r : List Q4, i_CosetRepresentative q = some r ∧ s_CosetRepresentative q = some r ∧ r.length ≤ 2 := by
  by_cases h1 : q = 1
  · subst h1; exact ⟨_, rfl, rfl, by decide⟩
  by_cases h2 : q = 2
  · subst h2; exact ⟨_, rfl, rfl, by decide⟩
  have e1 : (q == 1) = false := by simpa using h1
  have e2 : (q == 2) = false := by simpa using h2
  unfold i_CosetRepresentative s_CosetRepresentative
  simp only [e1, e2, br_false]
  exact ⟨[], rfl, rfl, by simp⟩
theorem nfg_loop (y : List Int) (N : Int) (l : List Q4) (hy : y.length ≤ 1048576) (hl : l.length ≤ 1048576) : ∀ (m i : Nat) (v : List Q4), i ≤ y.length → y.length - i < m → v.length ≤ 3 * i →
    ∃ r : List Q4, s_NormalFormGates_l1 y N l m i v = some r ∧ i_NormalFormGates_l1 y N l m (y.length : Int) i v = some r ∧ r.length ≤ 3 * y.length + 3
  | 0, i, v, _, h, _ => by omega
  | m + 1, i, v, hi, h, hv => by
    rw [s_NormalFormGates_l1, i_NormalFormGates_l1]
    by_cases e : i = y.length
    · have hlt : ¬ (i : Int) < (y.length : Int) := by omega
      have hc := cwF_len N l
      have hg : decide (v.length + (cwF N l).1.length ≤ 16777216) = true := decide_eq_true (by omega)
      simp only [hlt, decide_false, br_false, s_NormalFormGates_j1, i_NormalFormGates_j1, i_cw, s_cw N l hl, bO_some, hg, gd_true]
      exact ⟨_, rfl, rfl, by simp; omega⟩
    · have hil : i < y.length := by omega
      have hlt : (i : Int) < (y.length : Int) := by omega
      obtain ⟨r, e1, e2, e3⟩ := cosrep y[i]
      have hg1 : decide (v.length + r.length ≤ 16777216) = true := decide_eq_true (by omega)
      have hg2 : decide ((v ++ r).length + [((7 : Int), (0 : Int), (0 : Int), (0 : Int))].length ≤ 16777216) = true := decide_eq_true (by simp; omega)
      simp only [hlt, decide_true, br_true, geti_lt hil, bO_some, e1, e2, hg1, gd_true, show i_one 7 0 = some (7, 0, 0, 0) from rfl, show s_l14One 7 0 = some (7, 0, 0, 0) from rfl, hg2, w64s hil (by omega : y.length ≤ 4194304)]
      exact nfg_loop y N l hy hl m (i + 1) _ (by omega) (by omega) (by simp; omega)
theorem nfg_eq (y : List Int) (N : Int) (l : List Q4) (hy : y.length ≤ 1048576) (hl : l.length ≤ 1048576) : ∃ r : List Q4, s_NormalFormGates y N l = some r ∧ i_NormalFormGates y N l = some r ∧ r.length ≤ 3 * y.length + 3 := by
  unfold s_NormalFormGates i_NormalFormGates
  rw [s_nfv y N l hy hl, i_nfv y N l hy hl, bO_some, bO_some]
  cases ((List.range y.length).all (syB y) && (tB N l && N == 1)) with
  | false =>
    simp only [Bool.not_false, br_true]
    exact ⟨[], rfl, rfl, by simp⟩
  | true =>
    simp only [Bool.not_true, br_false]
    exact nfg_loop y N l hy hl FU 0 [] (by omega) (by rw [FU_eq]; omega) (by simp)
end Go.Proofs.Ytbkkfmcjfbbkaaa
