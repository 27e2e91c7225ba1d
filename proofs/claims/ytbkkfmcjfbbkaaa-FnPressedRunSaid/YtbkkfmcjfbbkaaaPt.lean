/- Plain law: TableauApplyGate. -/
import Derived.Test.YtbkkfmcjfbbkaaaMh
import Derived.Test.YtbkkfmcjfbbkaaaPx
namespace Go.Proofs.Ytbkkfmcjfbbkaaa
open Go.RowKit
set_option maxRecDepth 100000
set_option linter.unusedVariables false
set_option linter.unusedSimpArgs false
theorem tabg_loop (N : Int) (l : List Q4) (hl : l.length ≤ 1048576) (k a b c : Int) : ∀ (m j : Nat) (v : List Q4), j ≤ l.length → l.length - j < m → v.length = j →
    ∃ r, s_TableauApplyGate_l1 N l k a b c m j v = some r ∧ i_TableauApplyGate_l1 N l k a b c m (l.length : Int) j v = some r ∧ r.2.1.length ≤ l.length
  | 0, j, v, _, h, _ => by omega
  | m + 1, j, v, hj, h, hv => by
    rw [s_TableauApplyGate_l1, i_TableauApplyGate_l1]
    by_cases e : j = l.length
    · have hlt : ¬ (j : Int) < (l.length : Int) := by omega
      simp only [hlt, decide_false, br_false]
      exact ⟨(N, v, true), rfl, rfl, by show v.length ≤ l.length; omega⟩
    · have hjl : j < l.length := by omega
      have hlt : (j : Int) < (l.length : Int) := by omega
      obtain ⟨r, hs, hi⟩ := conj_eq l[j].1 l[j].2.1 l[j].2.2.1 l[j].2.2.2 k a b c
      have hg : v.length + [(r.1, r.2.1, r.2.2.1, r.2.2.2.1)].length ≤ 16777216 := by simp; omega
      simp only [hlt, decide_true, br_true, geti_lt hjl, bO_some, hs, hi, hg, gd_true, w64s hjl (by omega : l.length ≤ 4194304)]
      cases r.2.2.2.2 with
      | false => exact ⟨(0, [], false), rfl, rfl, by simp⟩
      | true => exact tabg_loop N l hl k a b c m (j + 1) _ (by omega) (by omega) (by simp; omega)
theorem tabg_eq (N : Int) (l : List Q4) (hl : l.length ≤ 1048576) (k a b c : Int) : ∃ r, s_TableauApplyGate N l k a b c = some r ∧ i_TableauApplyGate N l k a b c = some r ∧ r.2.1.length ≤ l.length := by
  unfold s_TableauApplyGate i_TableauApplyGate
  rw [s_tab N l hl, i_tab N l hl, bO_some, bO_some]
  cases tB N l with
  | false =>
    simp only [Bool.not_false, br_true]
    exact ⟨(0, [], false), rfl, rfl, by simp⟩
  | true =>
    simp only [Bool.not_true, br_false]
    exact tabg_loop N l hl k a b c FU 0 [] (by omega) (by rw [FU_eq]; omega) rfl
end Go.Proofs.Ytbkkfmcjfbbkaaa
