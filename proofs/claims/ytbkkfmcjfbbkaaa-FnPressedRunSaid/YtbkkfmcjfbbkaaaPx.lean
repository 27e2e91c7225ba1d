/- Joined texts: Pw Px. -/
import Derived.Test.YtbkkfmcjfbbkaaaPv
import Derived.Test.YtbkkfmcjfbbkaaaPb
/- Plain laws: the images of X and Z under a gate. -/
namespace Go.Proofs.Ytbkkfmcjfbbkaaa
open Go.RowKit
set_option maxRecDepth 100000
set_option linter.unusedVariables false
set_option linter.unusedSimpArgs false
def imgOk (N k a b v : Int) : Bool := match i_images k a b 0 N v, s_l25Image N k a b 0 v false, s_l25Image N k a b 0 v true with
  | some (x0, x1, x2, x3, z0, z1, z2, z3), some X, some Z => ((x0, x1, x2, x3) == X && (z0, z1, z2, z3) == Z) && ((vP X && X.1 == N) && (vP Z && Z.1 == N))
  | _, _, _ => false
theorem img_fin : ∀ k : Fin 12, ∀ a b v : Fin 4, ∀ N : Fin 5, ((clif k.val && ivg k.val a.val b.val 0 N.val) && decide (v.val < N.val)) = true → imgOk N.val k.val a.val b.val v.val = true := by decide +kernel
end Go.Proofs.Ytbkkfmcjfbbkaaa
/- Plain law: ConjugatePauli. -/
namespace Go.Proofs.Ytbkkfmcjfbbkaaa
open Go.RowKit
set_option maxRecDepth 100000
set_option linter.unusedVariables false
set_option linter.unusedSimpArgs false
theorem all_true {n : Nat} : (List.range n).all (fun _ => true) = true := List.all_eq_true.2 fun _ _ => rfl
theorem fin_of' {x : Int} {n : Nat} (h : 0 ≤ x ∧ x < n) : ∃ k : Fin n, x = (k.val : Int) := ⟨⟨x.toNat, by omega⟩, by show x = (x.toNat : Int); omega⟩
theorem gate_dom {k a b c N : Int} (h1 : clif k = true) (h2 : ivg k a b c N = true) : c = 0 ∧ (0 ≤ k ∧ k < 12) ∧ (0 ≤ a ∧ a < 4) ∧ (0 ≤ b ∧ b < 4) ∧ (1 ≤ N ∧ N ≤ 4) := by
  unfold clif at h1
  simp only [Bool.and_eq_true, decide_eq_true_eq, bne_iff_ne, ne_eq] at h1
  unfold ivg at h2
  rcases ar4 k with h | h | h | h <;> rw [h] at h2 <;> simp [okQ] at h2
  · omega
  · omega
  · unfold arity at h; (repeat' split at h) <;> omega
theorem img_ok {k a b c N v : Int} (h1 : clif k = true) (h2 : ivg k a b c N = true) (hv : 0 ≤ v ∧ v < N) : ∃ X Z : Q4, i_images k a b c N v = some (X.1, X.2.1, X.2.2.1, X.2.2.2, Z.1, Z.2.1, Z.2.2.1, Z.2.2.2) ∧ s_l25Image N k a b c v false = some X ∧ s_l25Image N k a b c v true = some Z ∧ vP X = true ∧ X.1 = N ∧ vP Z = true ∧ Z.1 = N := by
  obtain ⟨rfl, d1, d2, d3, d4⟩ := gate_dom h1 h2
  obtain ⟨k, rfl⟩ := fin_of' (n := 12) d1
  obtain ⟨a, rfl⟩ := fin_of' (n := 4) d2
  obtain ⟨b, rfl⟩ := fin_of' (n := 4) d3
  obtain ⟨N, rfl⟩ := fin_of' (n := 5) (x := N) (by omega)
  obtain ⟨v, rfl⟩ := fin_of' (n := 4) (x := v) (by omega)
  have := img_fin k a b v N (by rw [h1, h2]; simpa using hv.2)
  unfold imgOk at this
  split at this
  · rename_i x0 x1 x2 x3 z0 z1 z2 z3 X Z e1 e2 e3
    simp only [Bool.and_eq_true, beq_iff_eq] at this
    obtain ⟨⟨rfl, rfl⟩, ⟨g1, g2⟩, g3, g4⟩ := this
    exact ⟨_, _, e1, e2, e3, g1, g2, g3, g4⟩
  · cases this
theorem mulC {p q : Q4} {N : Int} (hp : vP p = true) (hq : vP q = true) (e1 : p.1 = N) (e2 : q.1 = N) :
    s_MulPauli p.1 p.2.1 p.2.2.1 p.2.2.2 q.1 q.2.1 q.2.2.1 q.2.2.2 = some ((mulQ p q).1, (mulQ p q).2.1, (mulQ p q).2.2.1, (mulQ p q).2.2.2, true) ∧
    i_MulPauli p.1 p.2.1 p.2.2.1 p.2.2.2 q.1 q.2.1 q.2.2.1 q.2.2.2 = some ((mulQ p q).1, (mulQ p q).2.1, (mulQ p q).2.2.1, (mulQ p q).2.2.2, true) ∧ vP (mulQ p q) = true ∧ (mulQ p q).1 = N := by
  obtain ⟨p0, p1, p2, p3⟩ := p
  obtain ⟨q0, q1, q2, q3⟩ := q
  simp only at e1 e2
  subst e1 e2
  exact ⟨s_mul hp hq, i_mul hp hq, mulQ_vP hp hq rfl, rfl⟩
theorem in_c {k a b c N : Int} (h1 : clif k = true) (h2 : ivg k a b c N = true) (x z : Int) : ∀ (m v : Nat) (p : Q4), (v : Int) ≤ N → N - v < m → vP p = true → p.1 = N →
    ∃ r, s_ConjugatePauli_l1 N x z k a b c m v p.1 p.2.1 p.2.2.1 p.2.2.2 = some r ∧ i_ConjugatePauli_l1 N x z k a b c m v p.1 p.2.1 p.2.2.1 p.2.2.2 = some r
  | 0, v, p, hv, hm, _, _ => by omega
  | m + 1, v, p, hv, hm, hp, hN => by
    obtain ⟨_, _, _, _, d4⟩ := gate_dom h1 h2
    rw [s_ConjugatePauli_l1, i_ConjugatePauli_l1]
    by_cases e : (v : Int) = N
    · have hlt : ¬ (v : Int) < N := by omega
      simp only [hlt, decide_false, br_false]
      exact ⟨_, rfl, rfl⟩
    · have hlt : (v : Int) < N := by omega
      have h0 : ¬ (v : Int) < 0 := by omega
      obtain ⟨X, Z, g1, g2, g3, vX, nX, vZ, nZ⟩ := img_ok h1 h2 (v := (v : Int)) (by omega)
      have hw : IntKind.wrap .i64 ((v : Int) + 1) = ((v + 1 : Nat) : Int) := by rw [w64 (by omega) (by omega)]; omega
      simp only [hlt, decide_true, br_true, u64_s (n := (v : Int)) (by omega), h0, not_false_eq_true, gd_true, g1, g2, g3, bO_some, s_ConjugatePauli_j8, i_ConjugatePauli_j8, s_ConjugatePauli_j7, i_ConjugatePauli_j7, hw]
      obtain ⟨a1, a2, a3, a4⟩ := mulC hp vX hN nX
      obtain ⟨b1, b2, b3, b4⟩ := mulC a3 vZ a4 nZ
      obtain ⟨c1, c2, c3, c4⟩ := mulC hp vZ hN nZ
      cases (bits .and .i64 (Int.fdiv x (2 ^ min (Int.toNat (v : Int)) (IntKind.bits .i64))) 1 == 1) <;> cases (bits .and .i64 (Int.fdiv z (2 ^ min (Int.toNat (v : Int)) (IntKind.bits .i64))) 1 == 1) <;> simp only [br_true, br_false, a1, a2, b1, b2, c1, c2, bO_some]
      · exact in_c h1 h2 x z m (v + 1) _ (by omega) (by omega) hp hN
      · exact in_c h1 h2 x z m (v + 1) _ (by omega) (by omega) c3 c4
      · exact in_c h1 h2 x z m (v + 1) _ (by omega) (by omega) a3 a4
      · exact in_c h1 h2 x z m (v + 1) _ (by omega) (by omega) b3 b4
theorem conj_eq (n x z p k a b c : Int) : ∃ r, s_ConjugatePauli n x z p k a b c = some r ∧ i_ConjugatePauli n x z p k a b c = some r := by
  unfold s_ConjugatePauli i_ConjugatePauli
  simp only [s_valid, i_valid, s_ivg, i_IsValidGate, s_clif, i_clif, bO_some]
  cases h1 : vP (n, x, z, p) with
  | false => exact ⟨(0, 0, 0, 0, false), rfl, rfl⟩
  | true =>
    cases h2 : ivg k a b c n with
    | false => exact ⟨(0, 0, 0, 0, false), rfl, rfl⟩
    | true =>
      cases h3 : clif k with
      | false => exact ⟨(0, 0, 0, 0, false), rfl, rfl⟩
      | true =>
        obtain ⟨_, _, _, h4⟩ := vP_iff.1 h1
        obtain ⟨_, _, _, _, d4⟩ := gate_dom h3 h2
        have hp : vP (n, 0, 0, p) = true := by
          rcases four d4 with rfl | rfl | rfl | rfl <;> exact vP_iff.2 ⟨by omega, by decide, by decide, h4⟩
        exact in_c h3 h2 x z FU 0 (n, 0, 0, p) (by omega) (by rw [FU_eq]; omega) hp rfl
end Go.Proofs.Ytbkkfmcjfbbkaaa
