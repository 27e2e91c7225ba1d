/- Plain law: CosetIndex. -/
import Derived.Test.YtbkkfmcjfbbkaaaMc
import Derived.Test.YtbkkfmcjfbbkaaaPb
namespace Go.Proofs.Ytbkkfmcjfbbkaaa
open Go.RowKit
set_option maxRecDepth 100000
set_option linter.unusedVariables false
set_option linter.unusedSimpArgs false
theorem coset_fin : ∀ x0 z0 x1 z1 : Fin 2, ∀ p0 p1 : Fin 4, let l : List Q4 := [(1, x0.val, z0.val, p0.val), (1, x1.val, z1.val, p1.val)]
    tB 1 l = true → i_CosetIndex 1 l = s_CosetIndex 1 l ∧ (s_CosetIndex 1 l).isSome = true := by decide +kernel
theorem fin_of {x : Int} {n : Nat} (h : 0 ≤ x ∧ x < n) : ∃ k : Fin n, x = (k.val : Int) := ⟨⟨x.toNat, by omega⟩, by show x = (x.toNat : Int); omega⟩
theorem tB_inv {N : Int} {l : List Q4} (h : tB N l = true) : (1 ≤ N ∧ N ≤ 4) ∧ (l.length : Int) = 2 * N ∧ ∀ k, k < l.length → rowB N l k = true := by
  unfold tB at h
  simp only [Bool.and_eq_true, decide_eq_true_eq, List.all_eq_true, List.mem_range] at h
  exact ⟨h.1, h.2.1, h.2.2⟩
theorem two_rows {l : List Q4} (h : tB 1 l = true) : ∃ x0 z0 x1 z1 : Fin 2, ∃ p0 p1 : Fin 4, l = ([(1, x0.val, z0.val, p0.val), (1, x1.val, z1.val, p1.val)] : List Q4) := by
  obtain ⟨_, h2, h3⟩ := tB_inv h
  have hl : l.length = 2 := by omega
  match l, hl with
  | [(n0, x0, z0, p0), (n1, x1, z1, p1)], _ =>
    obtain ⟨e0, r0⟩ := rowB_herm (h3 0 (by simp)) (q := (n0, x0, z0, p0)) rfl
    obtain ⟨e1, r1⟩ := rowB_herm (h3 1 (by simp)) (q := (n1, x1, z1, p1)) rfl
    simp only at e0 e1
    subst e0 e1
    obtain ⟨_, a1, a2, a3⟩ := vP_iff.1 (hP_vP r0)
    obtain ⟨_, b1, b2, b3⟩ := vP_iff.1 (hP_vP r1)
    have e2 : (2 : Int) ^ (1 : Int).toNat = 2 := rfl
    rw [e2] at a1 a2 b1 b2
    obtain ⟨x0, rfl⟩ := fin_of (n := 2) a1
    obtain ⟨z0, rfl⟩ := fin_of (n := 2) a2
    obtain ⟨p0, rfl⟩ := fin_of (n := 4) (by omega : 0 ≤ p0 ∧ p0 < (4 : Nat))
    obtain ⟨x1, rfl⟩ := fin_of (n := 2) b1
    obtain ⟨z1, rfl⟩ := fin_of (n := 2) b2
    obtain ⟨p1, rfl⟩ := fin_of (n := 4) (by omega : 0 ≤ p1 ∧ p1 < (4 : Nat))
    exact ⟨x0, z0, x1, z1, p0, p1, rfl⟩
theorem coset_eq (N : Int) (l : List Q4) (hl : l.length ≤ 1048576) : ∃ r, s_CosetIndex N l = some r ∧ i_CosetIndex N l = some r := by
  by_cases hN : N = 1
  · subst hN
    cases h : tB 1 l with
    | true =>
      obtain ⟨x0, z0, x1, z1, p0, p1, rfl⟩ := two_rows h
      obtain ⟨e1, e2⟩ := coset_fin x0 z0 x1 z1 p0 p1 h
      obtain ⟨r, hr⟩ := Option.isSome_iff_exists.1 e2
      exact ⟨r, hr, e1.trans hr⟩
    | false =>
      refine ⟨-1, ?_, ?_⟩
      · unfold s_CosetIndex; rw [s_tab 1 l hl, h]; rfl
      · unfold i_CosetIndex; rw [i_tab 1 l hl, h]; rfl
  · have hb : (N != 1) = true := by simpa using hN
    refine ⟨-1, ?_, ?_⟩
    · unfold s_CosetIndex; rw [s_tab N l hl, hb, bO_some]
      cases tB N l <;> rfl
    · unfold i_CosetIndex; rw [hb]; rfl
end Go.Proofs.Ytbkkfmcjfbbkaaa
