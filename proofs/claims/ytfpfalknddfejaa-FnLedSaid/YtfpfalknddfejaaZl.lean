/- Plain law: Led. -/
import Derived.Test.YtfpfalknddfejaaMLld
import Derived.Test.YtfpfalknddfejaaPi
namespace Go.Proofs.Ytfpfalknddfejaa
open Go.RowKit
set_option maxRecDepth 100000
set_option linter.unusedVariables false
set_option linter.unusedSimpArgs false
theorem dcbt_ok {code : List Int} (h : code.length ≤ 1048576) : Ok (s_DrawConjugateByTableau code) (fun r => r.2.1.length ≤ 8) := by
  unfold s_DrawConjugateByTableau
  refine (new_ok h).bO fun c hc => (dbent_ok hc).bO fun t ht => ?_
  rw [s_in_eq, bO_some]
  have fin : ∀ (v : Bool) (b : List Int) (i h : Int), CurP (b, i, h) → Ok (s_DrawConjugateByTableau_j1 t v b i h) (fun r => r.2.1.length ≤ 8) := by
    intro v b i h hc
    unfold s_DrawConjugateByTableau_j1
    exact Ok.br (fun _ => (pauli_ok hc).bO fun p hp => Ok.some ht.1) (fun _ => (bent_ok hc).bO fun p hp => Ok.some ht.1)
  refine Ok.bO (Q := fun r => CurP r.2) (Ok.br (fun _ => (once_ok ht.2).bO fun y hy => Ok.some hy) (fun _ => Ok.some ht.2)) fun y hy => fin _ _ _ _ hy
/-- Conjugation by a tableau, for all arguments. -/
theorem cbt_all (N n x z p : Int) (l : List Q4) (hl : l.length ≤ 1048576) : (∃ (e : N = n) (h : 1 ≤ n ∧ n ≤ 4) (hp : vP (n, x, z, p) = true), tB n l = true ∧
      s_ConjugateByTableau N l n x z p = some (outG (led h (rwG h l) (rwB h l) ⟨(n, x, z, p), hp, rfl⟩)) ∧ i_ConjugateByTableau N l n x z p = some (outG (led h (rwG h l) (rwB h l) ⟨(n, x, z, p), hp, rfl⟩))) ∨
    (s_ConjugateByTableau N l n x z p = some (0, 0, 0, 0, false) ∧ i_ConjugateByTableau N l n x z p = some (0, 0, 0, 0, false)) := by
  rcases Bool.eq_false_or_eq_true (tB N l) with ht | ht
  · rcases Bool.eq_false_or_eq_true (vP (n, x, z, p)) with hp | hp
    · by_cases e : N = n
      · subst e
        have h := (tB_len ht).1
        obtain ⟨h1, h2⟩ := cbt_eq ht hl hp h
        exact .inl ⟨rfl, h, hp, ht, h1, h2⟩
      · have hne : (N != n) = true := by simpa using e
        refine .inr ⟨?_, ?_⟩
        · unfold s_ConjugateByTableau
          simp only [s_tab N l hl, ht, s_valid, hp, bO_some, Bool.not_true, br_true, br_false, hne, s_ConjugateByTableau_j1]
        · unfold i_ConjugateByTableau
          simp only [i_tab N l hl, ht, i_valid, hp, bO_some, Bool.not_true, br_true, br_false, hne, i_ConjugateByTableau_j1]
    · refine .inr ⟨?_, ?_⟩
      · unfold s_ConjugateByTableau
        simp only [s_tab N l hl, ht, s_valid, hp, bO_some, Bool.not_true, Bool.not_false, br_true, br_false, s_ConjugateByTableau_j1]
      · unfold i_ConjugateByTableau
        simp only [i_tab N l hl, ht, i_valid, hp, bO_some, Bool.not_true, Bool.not_false, br_true, br_false, i_ConjugateByTableau_j1]
  · refine .inr ⟨?_, ?_⟩
    · unfold s_ConjugateByTableau
      simp only [s_tab N l hl, ht, bO_some, Bool.not_false, br_true, s_ConjugateByTableau_j1]
    · unfold i_ConjugateByTableau
      simp only [i_tab N l hl, ht, bO_some, Bool.not_false, br_true, i_ConjugateByTableau_j1]
theorem law_Led (code : List Int) : l_FnLed code = some true := by
  unfold l_FnLed
  rw [big_eq, bO_some]
  by_cases hb : 1048576 < (code.length : Int)
  · simp only [hb, decide_true, br_true]
  simp only [hb, decide_false, br_false]
  obtain ⟨x2, e2, hx2⟩ := dcbt_ok (code := code) (by omega)
  obtain ⟨t, et, ht⟩ := tail_ok (code := code)
  obtain ⟨x4, e4, _⟩ := dcbt_ok (code := t) (by omega)
  obtain ⟨N, l, n, x, z, p⟩ := x2
  obtain ⟨N', l', n', x', z', p'⟩ := x4
  rw [e2, bO_some, et, bO_some, e4, bO_some]
  simp only at hx2 ⊢
  rcases cbt_all N n x z p l (by omega) with ⟨e, h, hp, htB, hs, hi⟩ | ⟨hs, hi⟩
  · subst e
    rw [hs, hi, bO_some, bO_some]
    simp only [outG, bne_self_eq_false, beq_self_eq_true, Bool.and_self, Bool.not_true, br_false, bO_some, l_FnLed_j1]
    rcases cbt_all N N x' z' p' l (by omega) with ⟨_, _, hp', _, hs', hi'⟩ | ⟨hs', hi'⟩
    · have F := tab_fam h htB
      have hm := (mulG (⟨(N, x, z, p), hp, rfl⟩ : Gp N) ⟨(N, x', z', p'), hp', rfl⟩).1
      simp only at hm
      rw [hi', bO_some, hm, bO_some]
      generalize hP1 : (⟨(N, x, z, p), hp, rfl⟩ : Gp N) = P1 at *
      generalize hP2 : (⟨(N, x', z', p'), hp', rfl⟩ : Gp N) = P2 at *
      have c15 : i_ConjugateByTableau N l (P1 * P2).q.1 (P1 * P2).q.2.1 (P1 * P2).q.2.2.1 (P1 * P2).q.2.2.2 = some (outG (led h (rwG h l) (rwB h l) (P1 * P2))) := by
        have hn := (P1 * P2).n
        have hv := (P1 * P2).v
        generalize hR : P1 * P2 = R at *
        obtain ⟨⟨r0, r1, r2, r3⟩, rv, rn⟩ := R
        simp only at rn
        subst rn
        exact (cbt_eq htB (by omega) rv h).2
      simp only [outG, Bool.not_true, br_false, bO_some, l_FnLed_j3, l_FnLed_j4]
      rw [c15, bO_some, (mulG _ _).1, bO_some, led_mul F]
      simp only [outG, beq_self_eq_true, Bool.and_self, br_true, bO_some]
    · obtain ⟨m, hm, _⟩ := (mul_tot N x z p N x' z' p').2
      rw [hi', bO_some, hm, bO_some]
      simp only [Bool.not_false, br_true, bO_some, l_FnLed_j3]
  · rw [hs, hi, bO_some, bO_some]
    simp only [bne_self_eq_false, beq_self_eq_true, Bool.and_self, Bool.not_true, Bool.not_false, br_true, br_false, bO_some, l_FnLed_j1, l_FnLed_j2]
end Go.Proofs.Ytfpfalknddfejaa
