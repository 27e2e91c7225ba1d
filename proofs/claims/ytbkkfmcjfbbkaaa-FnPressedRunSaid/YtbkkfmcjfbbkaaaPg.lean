/- Plain law: LedAlong. -/
import Derived.Test.YtbkkfmcjfbbkaaaPok
import Derived.Test.YtbkkfmcjfbbkaaaPf
import Derived.Test.YtbkkfmcjfbbkaaaMu
namespace Go.Proofs.Ytbkkfmcjfbbkaaa
open Go.RowKit
set_option maxRecDepth 100000
set_option linter.unusedVariables false
set_option linter.unusedSimpArgs false
theorem conj_is (n x z p k a b c : Int) : i_ConjugatePauli n x z p k a b c = s_ConjugatePauli n x z p k a b c := by
  obtain ⟨r, hs, hi⟩ := conj_eq n x z p k a b c
  rw [hs, hi]
theorem conj_all (n x z p k a b c : Int) : (∃ (h : 1 ≤ n ∧ n ≤ 4) (hp : vP (n, x, z, p) = true) (h1 : clif k = true) (h2 : ivg k a b c n = true), s_ConjugatePauli n x z p k a b c = some (outG (led h (gA h k a b) (gB h k a b) ⟨(n, x, z, p), hp, rfl⟩))) ∨ s_ConjugatePauli n x z p k a b c = some (0, 0, 0, 0, false) := by
  rcases Bool.eq_false_or_eq_true (vP (n, x, z, p)) with hp | hp
  · rcases Bool.eq_false_or_eq_true (ivg k a b c n) with h2 | h2
    · rcases Bool.eq_false_or_eq_true (clif k) with h1 | h1
      · have h := (vP_iff.1 hp).1
        exact .inl ⟨h, hp, h1, h2, conj_s h1 h2 hp h⟩
      · refine .inr ?_
        unfold s_ConjugatePauli
        simp only [s_valid, s_ivg, s_clif, hp, h1, h2, bO_some, Bool.not_true, Bool.not_false, br_true, br_false, s_ConjugatePauli_j1]
    · refine .inr ?_
      unfold s_ConjugatePauli
      simp only [s_valid, s_ivg, hp, h2, bO_some, Bool.not_true, Bool.not_false, br_true, br_false, s_ConjugatePauli_j1]
  · refine .inr ?_
    unfold s_ConjugatePauli
    simp only [s_valid, hp, bO_some, Bool.not_false, br_true, s_ConjugatePauli_j1]
theorem mul_tot (n x z p m y w r : Int) : Ok (i_MulPauli n x z p m y w r) (fun _ => True) ∧ Ok (s_MulPauli n x z p m y w r) (fun _ => True) := by
  cases ha : vP (n, x, z, p) with
  | false => exact ⟨⟨(0, 0, 0, 0, false), by unfold i_MulPauli; simp only [i_valid, ha, bO_some, Bool.not_false, br_true, i_MulPauli_j1], trivial⟩, ⟨(0, 0, 0, 0, false), by unfold s_MulPauli; simp only [s_valid, ha, bO_some, Bool.not_false, br_true, s_MulPauli_j1], trivial⟩⟩
  | true =>
    cases hb : vP (m, y, w, r) with
    | false => exact ⟨⟨(0, 0, 0, 0, false), by unfold i_MulPauli; simp only [i_valid, ha, hb, bO_some, Bool.not_false, Bool.not_true, br_true, br_false, i_MulPauli_j1], trivial⟩, ⟨(0, 0, 0, 0, false), by unfold s_MulPauli; simp only [s_valid, ha, hb, bO_some, Bool.not_false, Bool.not_true, br_true, br_false, s_MulPauli_j1], trivial⟩⟩
    | true =>
      by_cases e : n = m
      · subst e; exact ⟨⟨_, i_mul ha hb, trivial⟩, ⟨_, s_mul ha hb, trivial⟩⟩
      · have hne : (n != m) = true := by simpa using e
        exact ⟨⟨(0, 0, 0, 0, false), by unfold i_MulPauli; simp only [i_valid, ha, hb, bO_some, Bool.not_true, br_true, br_false, i_MulPauli_j1, hne], trivial⟩, ⟨(0, 0, 0, 0, false), by unfold s_MulPauli; simp only [s_valid, ha, hb, bO_some, Bool.not_true, br_true, br_false, s_MulPauli_j1, hne], trivial⟩⟩
theorem big_eq (code : List Int) : l_big code = some (decide (1048576 < (code.length : Int))) := rfl
end Go.Proofs.Ytbkkfmcjfbbkaaa
