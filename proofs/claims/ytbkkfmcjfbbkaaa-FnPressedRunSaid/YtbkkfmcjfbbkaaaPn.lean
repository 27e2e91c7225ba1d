/- Plain law: IsValidNormalForm. -/
import Derived.Test.YtbkkfmcjfbbkaaaMcn
import Derived.Test.YtbkkfmcjfbbkaaaPb
namespace Go.Proofs.Ytbkkfmcjfbbkaaa
open Go.RowKit
set_option maxRecDepth 100000
set_option linter.unusedVariables false
set_option linter.unusedSimpArgs false
def syB (l : List Int) (k : Nat) : Bool := match l[k]? with
  | some q => decide (0 ≤ q ∧ q ≤ 2) && !(decide (0 < k) && q == 0)
  | none => false
theorem syB_eq {l : List Int} {k : Nat} {q : Int} (hq : l[k]? = some q) : syB l k = (decide (0 ≤ q ∧ q ≤ 2) && !(decide (0 < k) && q == 0)) := by
  unfold syB; rw [hq]
theorem s_nfv (y : List Int) (N : Int) (l : List Q4) (hy : y.length ≤ 1048576) (hl : l.length ≤ 1048576) : s_IsValidNormalForm y N l = some ((List.range y.length).all (syB y) && (tB N l && N == 1)) := by
  unfold s_IsValidNormalForm
  rw [loop_all0 (s_IsValidNormalForm_l1 y N l) y.length (syB y) (by omega) (fun m k hk => ?_) (some (tB N l && N == 1)) (fun m => ?_)]
  · cases (List.range y.length).all (syB y) <;> rfl
  · have hq := List.getElem?_eq_getElem hk
    have hlt : (k : Int) < (y.length : Int) := by omega
    rw [s_IsValidNormalForm_l1, geti_nat hq, syB_eq hq]
    simp only [hlt, decide_true, br_true, bO_some, s_in_eq, s_IsValidNormalForm_j4]
    rw [w64s hk (by omega)]
    by_cases h1 : 0 ≤ y[k] ∧ y[k] ≤ 2
    · by_cases h2 : 0 < k
      · have h2' : 0 < (k : Int) := by omega
        simp only [h1, h2, h2', and_self, decide_true, Bool.not_true, br_false, br_true, bO_some, Bool.true_and]
        cases (y[k] == 0) <;> rfl
      · have h2' : ¬ 0 < (k : Int) := by omega
        simp only [h1, h2, h2', and_self, decide_true, decide_false, Bool.not_true, br_false, br_true, bO_some, Bool.true_and, Bool.false_and, Bool.not_false]
    · simp only [h1, decide_false, Bool.not_false, br_true, bO_some, Bool.false_and, br_false]
  · have hlt : ¬ (y.length : Int) < (y.length : Int) := by omega
    rw [s_IsValidNormalForm_l1]
    simp only [hlt, decide_false, br_false, s_IsValidNormalForm_j1, s_tab N l hl, bO_some]
    cases tB N l <;> rfl
theorem i_nfv (y : List Int) (N : Int) (l : List Q4) (hy : y.length ≤ 1048576) (hl : l.length ≤ 1048576) : i_IsValidNormalForm y N l = some ((List.range y.length).all (syB y) && (tB N l && N == 1)) := by
  unfold i_IsValidNormalForm
  rw [loop_all0 (fun m k => i_IsValidNormalForm_l1 y N l m (y.length : Int) k) y.length (syB y) (by omega) (fun m k hk => ?_) (some (tB N l && N == 1)) (fun m => ?_)]
  · cases (List.range y.length).all (syB y) <;> rfl
  · have hq := List.getElem?_eq_getElem hk
    have hlt : (k : Int) < (y.length : Int) := by omega
    show i_IsValidNormalForm_l1 y N l (m + 1) (y.length : Int) k = _
    rw [i_IsValidNormalForm_l1, geti_nat hq, syB_eq hq]
    simp only [hlt, decide_true, br_true, bO_some, i_in_eq, i_IsValidNormalForm_j4]
    rw [w64s hk (by omega)]
    by_cases h1 : 0 ≤ y[k] ∧ y[k] ≤ 2
    · by_cases h2 : 0 < k
      · have h2' : 0 < (k : Int) := by omega
        simp only [h1, h2, h2', and_self, decide_true, Bool.not_true, br_false, br_true, bO_some, Bool.true_and]
        cases (y[k] == 0) <;> rfl
      · have h2' : ¬ 0 < (k : Int) := by omega
        simp only [h1, h2, h2', and_self, decide_true, decide_false, Bool.not_true, br_false, br_true, bO_some, Bool.true_and, Bool.false_and, Bool.not_false]
    · simp only [h1, decide_false, Bool.not_false, br_true, bO_some, Bool.false_and, br_false]
  · have hlt : ¬ (y.length : Int) < (y.length : Int) := by omega
    show i_IsValidNormalForm_l1 y N l (m + 1) (y.length : Int) (y.length : Int) = _
    rw [i_IsValidNormalForm_l1]
    simp only [hlt, decide_false, br_false, i_IsValidNormalForm_j1]
    by_cases h : N = 1
    · have : (N == 1) = true := by simpa using h
      simp only [this, br_true, i_tab N l hl, bO_some, i_IsValidNormalForm_j5, Bool.and_true]
    · have : (N == 1) = false := by simpa using h
      simp only [this, br_false, bO_some, i_IsValidNormalForm_j5, Bool.and_false]
end Go.Proofs.Ytbkkfmcjfbbkaaa
