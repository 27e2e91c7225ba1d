/- Plain law: LedAlong. -/
import Derived.Test.YtfpfalknddfejaaPd
namespace Go.Proofs.Ytfpfalknddfejaa
open Go.RowKit
set_option maxRecDepth 100000
set_option linter.unusedVariables false
set_option linter.unusedSimpArgs false
theorem conj_is (n x z p k a b c : Int) : i_ConjugatePauli n x z p k a b c = s_ConjugatePauli n x z p k a b c := by
  obtain ⟨r, hs, hi⟩ := conj_eq n x z p k a b c
  rw [hs, hi]
theorem conj_all (n x z p k a b c : Int) : (∃ (h : 1 ≤ n ∧ n ≤ 4) (hp : vP (n, x, z, p) = true) (h1 : clif k = true) (h2 : ivg k a b c n = true), s_ConjugatePauli n x z p k a b c = some (outG (led h (gA h k a b) (gB h k a b) ⟨(n, x, z, p), hp, rfl⟩))) ∨ s_ConjugatePauli n x z p k a b c = some (0, 0, 0, 0, false) := by
  rcases Bool.eq_false_or_eq_true (vP (n, x, z, p)) with hp | hp
  · rcases Bool.eq_false_or_eq_true (ivg k a b c n) with h2 | h2
    · rcases Bool.eq_false_or_eq_true (clif k) with h1 | h1
      · have h := (vP_iff.1 hp).1
        exact .inl ⟨h, hp, h1, h2, conj_s h1 h2 hp h⟩
      · refine .inr ?_
        unfold s_ConjugatePauli
        simp only [s_valid, s_ivg, s_clif, hp, h1, h2, bO_some, Bool.not_true, Bool.not_false, br_true, br_false, s_ConjugatePauli_j1]
    · refine .inr ?_
      unfold s_ConjugatePauli
      simp only [s_valid, s_ivg, hp, h2, bO_some, Bool.not_true, Bool.not_false, br_true, br_false, s_ConjugatePauli_j1]
  · refine .inr ?_
    unfold s_ConjugatePauli
    simp only [s_valid, hp, bO_some, Bool.not_false, br_true, s_ConjugatePauli_j1]
theorem mul_tot (n x z p m y w r : Int) : Ok (i_MulPauli n x z p m y w r) (fun _ => True) ∧ Ok (s_MulPauli n x z p m y w r) (fun _ => True) := by
  cases ha : vP (n, x, z, p) with
  | false => exact ⟨⟨(0, 0, 0, 0, false), by unfold i_MulPauli; simp only [i_valid, ha, bO_some, Bool.not_false, br_true, i_MulPauli_j1], trivial⟩, ⟨(0, 0, 0, 0, false), by unfold s_MulPauli; simp only [s_valid, ha, bO_some, Bool.not_false, br_true, s_MulPauli_j1], trivial⟩⟩
  | true =>
    cases hb : vP (m, y, w, r) with
    | false => exact ⟨⟨(0, 0, 0, 0, false), by unfold i_MulPauli; simp only [i_valid, ha, hb, bO_some, Bool.not_false, Bool.not_true, br_true, br_false, i_MulPauli_j1], trivial⟩, ⟨(0, 0, 0, 0, false), by unfold s_MulPauli; simp only [s_valid, ha, hb, bO_some, Bool.not_false, Bool.not_true, br_true, br_false, s_MulPauli_j1], trivial⟩⟩
    | true =>
      by_cases e : n = m
      · subst e; exact ⟨⟨_, i_mul ha hb, trivial⟩, ⟨_, s_mul ha hb, trivial⟩⟩
      · have hne : (n != m) = true := by simpa using e
        exact ⟨⟨(0, 0, 0, 0, false), by unfold i_MulPauli; simp only [i_valid, ha, hb, bO_some, Bool.not_true, br_true, br_false, i_MulPauli_j1, hne], trivial⟩, ⟨(0, 0, 0, 0, false), by unfold s_MulPauli; simp only [s_valid, ha, hb, bO_some, Bool.not_true, br_true, br_false, s_MulPauli_j1, hne], trivial⟩⟩
theorem tail_ok {code : List Int} : Ok (l_tail code) (fun r => r.length ≤ code.length) := by
  unfold l_tail
  refine Ok.br (fun _ => Ok.some (Nat.le_refl _)) (fun e => ?_)
  have e : code.length ≠ 0 := by simpa using e
  have : slc code 1 (code.length : Int) = some ((code.drop 1).take (code.length - 1)) := by
    unfold slc
    rw [if_pos ⟨by omega, by omega, by omega⟩]
    rfl
  rw [this, bO_some]
  exact Ok.some (by simp)
theorem big_eq (code : List Int) : l_big code = some (decide (1048576 < (code.length : Int))) := rfl
theorem law_LedAlong (code : List Int) : l_FnLedAlong code = some true := by
  unfold l_FnLedAlong
  rw [big_eq, bO_some]
  by_cases hb : 1048576 < (code.length : Int)
  · simp only [hb, decide_true, br_true]
  simp only [hb, decide_false, br_false]
  obtain ⟨x2, e2, _⟩ := dConj_ok (code := code) (by omega)
  obtain ⟨t, et, ht⟩ := tail_ok (code := code)
  obtain ⟨x4, e4, _⟩ := dConj_ok (code := t) (by omega)
  obtain ⟨n, x, z, p, k, a, b, c⟩ := x2
  obtain ⟨n', x', z', p', k', a', b', c'⟩ := x4
  rw [e2, bO_some, et, bO_some, e4, bO_some]
  simp only
  rw [conj_is, conj_is]
  obtain ⟨m, hm, _⟩ := (mul_tot n x z p n x' z' p').1
  rcases conj_all n x z p k a b c with ⟨h, hp, h1, h2, c5⟩ | c5
  · rcases conj_all n x' z' p' k a b c with ⟨_, hp', _, _, c6⟩ | c6
    · have F := gate_fam h h1 h2
      have hm : i_MulPauli n x z p n x' z' p' = some (outG ((⟨(n, x, z, p), hp, rfl⟩ : Gp n) * ⟨(n, x', z', p'), hp', rfl⟩)) := (mulG (⟨(n, x, z, p), hp, rfl⟩ : Gp n) ⟨(n, x', z', p'), hp', rfl⟩).2
      rw [c5, bO_some, c6, bO_some, hm, bO_some]
      generalize hP1 : (⟨(n, x, z, p), hp, rfl⟩ : Gp n) = P1 at *
      generalize hP2 : (⟨(n, x', z', p'), hp', rfl⟩ : Gp n) = P2 at *
      have q1 : P1.q = (n, x, z, p) := by rw [← hP1]
      have q2 : P2.q = (n, x', z', p') := by rw [← hP2]
      have c13 : i_ConjugatePauli (P1 * P2).q.1 (P1 * P2).q.2.1 (P1 * P2).q.2.2.1 (P1 * P2).q.2.2.2 k a b c = some (outG (led h (gA h k a b) (gB h k a b) (P1 * P2))) := by
        rw [conj_is]
        have hn := (P1 * P2).n
        have hv := (P1 * P2).v
        generalize hR : P1 * P2 = R at *
        obtain ⟨⟨r0, r1, r2, r3⟩, rv, rn⟩ := R
        simp only at rn
        subst rn
        exact conj_s h1 h2 rv h
      simp only [outG, Bool.not_true, br_false, bO_some, l_FnLedAlong_j1, l_FnLedAlong_j2]
      rw [c13, bO_some, (mulG _ _).2, bO_some, led_mul F]
      have ic : i_PaulisCommute (led h (gA h k a b) (gB h k a b) P1).q.1 (led h (gA h k a b) (gB h k a b) P1).q.2.1 (led h (gA h k a b) (gB h k a b) P1).q.2.2.1 (led h (gA h k a b) (gB h k a b) P1).q.2.2.2 (led h (gA h k a b) (gB h k a b) P2).q.1 (led h (gA h k a b) (gB h k a b) P2).q.2.1 (led h (gA h k a b) (gB h k a b) P2).q.2.2.1 (led h (gA h k a b) (gB h k a b) P2).q.2.2.2 = some (cP P1.q P2.q) := by
        rw [← led_comm F]; exact i_comm (led h (gA h k a b) (gB h k a b) P1).v (led h (gA h k a b) (gB h k a b) P2).v
      have ic2 : i_PaulisCommute n x z p n x' z' p' = some (cP P1.q P2.q) := by rw [q1, q2]; exact i_comm hp hp'
      have ih1 : i_IsHermitianPauli (led h (gA h k a b) (gB h k a b) P1).q.1 (led h (gA h k a b) (gB h k a b) P1).q.2.1 (led h (gA h k a b) (gB h k a b) P1).q.2.2.1 (led h (gA h k a b) (gB h k a b) P1).q.2.2.2 = some (hP P1.q) := by
        rw [← led_herm F]; exact i_herm _ _ _ _
      have ih2 : i_IsHermitianPauli n x z p = some (hP P1.q) := by rw [q1]; exact i_herm _ _ _ _
      simp only [outG, beq_self_eq_true, Bool.and_self, br_true, bO_some, ic, ic2, ih1, ih2]
    · rw [c5, c6, hm]
      simp only [outG, bO_some, Bool.not_true, Bool.not_false, br_true, br_false, l_FnLedAlong_j1, c5, beq_self_eq_true]
  · rw [c5, bO_some]
    rcases conj_all n x' z' p' k a b c with ⟨_, hp', _, _, c6⟩ | c6 <;>
    · rw [c6, hm]
      simp only [bO_some, Bool.not_true, Bool.not_false, br_true, br_false, l_FnLedAlong_j1, c5, beq_self_eq_true]
end Go.Proofs.Ytfpfalknddfejaa
