/- Plain laws: words of the one-qubit Clifford group. -/
import Derived.Test.YtfjopjalhllplaaGreatK5
import Derived.Test.YtfjopjalhllplaaGreatKPwl
import Derived.Test.YtfjopjalhllplaaGreatK8
import Derived.Test.YtfjopjalhllplaaGreatKPh
namespace Go.Proofs.YtfjopjalhllplaaGreat
open Go.RowKit
set_option maxRecDepth 100000
set_option linter.unusedVariables false
set_option linter.unusedSimpArgs false
def TL : List (List Q4) := [[(1, 1, 0, 0), (1, 0, 1, 0)], [(1, 1, 0, 0), (1, 0, 1, 2)], [(1, 1, 0, 2), (1, 0, 1, 2)], [(1, 1, 0, 2), (1, 0, 1, 0)], [(1, 0, 1, 0), (1, 1, 0, 0)], [(1, 1, 1, 1), (1, 0, 1, 0)], [(1, 1, 1, 3), (1, 0, 1, 0)], [(1, 0, 1, 0), (1, 1, 0, 2)], [(1, 1, 1, 1), (1, 0, 1, 2)], [(1, 1, 1, 3), (1, 0, 1, 2)], [(1, 0, 1, 2), (1, 1, 0, 2)], [(1, 0, 1, 2), (1, 1, 0, 0)], [(1, 0, 1, 0), (1, 1, 1, 1)], [(1, 0, 1, 0), (1, 1, 1, 3)], [(1, 1, 1, 3), (1, 1, 0, 0)], [(1, 1, 1, 1), (1, 1, 0, 0)], [(1, 1, 1, 3), (1, 1, 0, 2)], [(1, 1, 1, 1), (1, 1, 0, 2)], [(1, 0, 1, 2), (1, 1, 1, 3)], [(1, 0, 1, 2), (1, 1, 1, 1)], [(1, 1, 0, 0), (1, 1, 1, 3)], [(1, 1, 0, 0), (1, 1, 1, 1)], [(1, 1, 0, 2), (1, 1, 1, 3)], [(1, 1, 0, 2), (1, 1, 1, 1)]]
def ZL : List (List Q4 × List Q4) := WL.zip TL
theorem Z_map : ZL.map (·.1) = WL := rfl
theorem Z_wt : (ZL.all fun p => i_WordTableau p.1 == some (1, p.2, true) && (tB 1 p.2 && (decide (p.1.length ≤ 3) && s_CliffordWord 1 p.2 == some (p.1, true)))) = true := by decide +kernel
def zin (x0 z0 x1 z1 p0 p1 : Nat) : Bool := let l : List Q4 := [(1, x0, z0, p0), (1, x1, z1, p1)]
 !(tB 1 l) || (ZL.any fun p => p.2 == l)
theorem Z_in : ∀ x0 z0 x1 z1 : Fin 2, ∀ p0 p1 : Fin 4, zin x0.val z0.val x1.val z1.val p0.val p1.val = true := by decide +kernel
theorem z_of {l : List Q4} (h : tB 1 l = true) : ∃ p ∈ ZL, p.2 = l := by
 obtain ⟨x0, z0, x1, z1, p0, p1, rfl⟩ := two_rows h
 have e := Z_in x0 z0 x1 z1 p0 p1
 unfold zin at e
 simp only at e
 rw [h, Bool.not_true, Bool.false_or, List.any_eq_true] at e
 obtain ⟨p, h1, h2⟩ := e
 exact ⟨p, h1, eq_of_beq h2⟩
theorem z_at {p : List Q4 × List Q4} (h : p ∈ ZL) : i_WordTableau p.1 = some (1, p.2, true) ∧ tB 1 p.2 = true ∧ p.1.length ≤ 3 ∧ s_CliffordWord 1 p.2 = some (p.1, true) := by
 have e := List.all_eq_true.1 Z_wt p h
 simp only [Bool.and_eq_true, beq_iff_eq, decide_eq_true_eq] at e
 exact ⟨e.1, e.2.1, e.2.2.1, e.2.2.2⟩
theorem i_eqT (N : Int) (l : List Q4) (M : Int) (r : List Q4) (hl : l.length ≤ 1048576) : i_EqualTableau N l M r = some (N == M && l == r) := by
 have same : i_same_impl_Pauli_ l r = some (l == r) := by
  unfold i_same_impl_Pauli_
  by_cases hlen : l.length = r.length
  ·have : ((l.length : Int) != (r.length : Int)) = false := by simp [hlen]
   simp only [this, br_false]
   rw [loop_all0 (fun m k => i_same_impl_Pauli__l1 l r m (l.length : Int) k) l.length (fun k => l[k]? == r[k]?) (by omega) (fun m k hk => ?_) (some true) (fun m => ?_)]
   ·have e : (List.range l.length).all (fun k => l[k]? == r[k]?) = (l == r) := by
     rw [Bool.eq_iff_iff, List.all_eq_true, beq_iff_eq]
     constructor
     ·intro hh
      refine List.ext_getElem? fun k => ?_
      by_cases hk : k < l.length
      ·exact eq_of_beq (hh k (List.mem_range.2 hk))
      ·rw [List.getElem?_eq_none (by omega), List.getElem?_eq_none (by omega)]
     ·intro hh k _; rw [hh]; exact beq_self_eq_true _
    rw [e]
    cases (l == r) <;> rfl
   ·have hk' : k < r.length := by omega
    have hlt : (k : Int) < (l.length : Int) := by omega
    show i_same_impl_Pauli__l1 l r (m + 1) (l.length : Int) (k : Int) = _
    rw [i_same_impl_Pauli__l1, geti_lt hk, geti_lt hk', w64s hk (by omega)]
    simp only [hlt, decide_true, br_true, bO_some, List.getElem?_eq_getElem hk, List.getElem?_eq_getElem hk']
    have e : (l[k].1 == r[k].1 && (l[k].2.1 == r[k].2.1 && (l[k].2.2.1 == r[k].2.2.1 && l[k].2.2.2 == r[k].2.2.2))) = (some l[k] == some r[k]) := rfl
    rw [e]
    cases (some l[k] == some r[k]) <;> rfl
   ·have hlt : ¬ (l.length : Int) < (l.length : Int) := by omega
    show i_same_impl_Pauli__l1 l r (m + 1) (l.length : Int) (l.length : Int) = _
    rw [i_same_impl_Pauli__l1]
    simp only [hlt, decide_false, br_false, i_same_impl_Pauli__j1]
  ·have : ((l.length : Int) != (r.length : Int)) = true := by rw [bne_iff_ne]; intro hh; exact hlen (by omega)
   have e : (l == r) = false := by
    rw [beq_eq_false_iff_ne]; intro hh; exact hlen (by rw [hh])
   simp only [this, br_true, e]
 unfold i_EqualTableau
 rw [same]
 cases N == M <;> rfl
/-- Both searches. -/
def cwF (N : Int) (l : List Q4) : List Q4 × Bool := match ZL.find? (fun p => 1 == N && p.2 == l) with | some p => (p.1, true) | none => ([], false)
theorem i_cw (N : Int) (l : List Q4) : i_CliffordWord N l = some (cwF N l) := by
 unfold i_CliffordWord
 rw [W_all, bO_some]
 have key : ∀ (c m k : Nat), k + c = 24 → c < m → i_CliffordWord_l1 N l WL m (WL.length : Int) (k : Int) = some (match (ZL.drop k).find? (fun p => 1 == N && p.2 == l) with | some p => (p.1, true) | none => ([], false)) := by
  intro c
  induction c with
  | zero =>
   intro m k hk hm
   obtain ⟨m, rfl⟩ : ∃ m', m = m' + 1 := ⟨m - 1, by omega⟩
   have : k = 24 := by omega
   subst this
   rw [i_CliffordWord_l1, W_len]
   rfl
  | succ c ih =>
   intro m k hk hm
   obtain ⟨m, rfl⟩ : ∃ m', m = m' + 1 := ⟨m - 1, by omega⟩
   have hkW : k < WL.length := by rw [W_len]; omega
   have hkZ : k < ZL.length := by show k < 24; omega
   have hw : WL[k]? = some ZL[k].1 := by
    rw [← Z_map, List.getElem?_map, List.getElem?_eq_getElem hkZ]; rfl
   obtain ⟨z1, z2, z3, z4⟩ := z_at (List.getElem_mem hkZ)
   have hl2 := tB_inv2 z2
   have hlt : (k : Int) < (WL.length : Int) := by omega
   rw [i_CliffordWord_l1, List.drop_eq_getElem_cons hkZ, List.find?_cons]
   simp only [hlt, decide_true, br_true, geti_nat hw, bO_some, z1, i_eqT 1 ZL[k].2 N l (by omega : ZL[k].2.length ≤ 1048576), i_CliffordWord_j4, w64s hkW (by rw [W_len]; omega)]
   cases (1 == N && ZL[k].2 == l) with
   | true => simp only [br_true]
   | false =>
    simp only [br_false]
    exact ih m (k + 1) (by omega) (by omega)
 have := key 24 FU 0 (by omega) (by rw [FU_eq]; omega)
 exact this
theorem cwF_ok {l : List Q4} (h : tB 1 l = true) : ∃ p ∈ ZL, p.2 = l ∧ cwF 1 l = (p.1, true) := by
 unfold cwF
 cases hf : ZL.find? (fun p => 1 == (1 : Int) && p.2 == l) with
 | some p =>
  have h1 := List.mem_of_find?_eq_some hf
  have h2 := List.find?_some hf
  simp only [Bool.and_eq_true, beq_iff_eq] at h2
  exact ⟨p, h1, h2.2, rfl⟩
 | none =>
  obtain ⟨p, h1, h2⟩ := z_of h
  have := List.find?_eq_none.1 hf p h1
  simp [h2] at this
theorem cwF_no {N : Int} {l : List Q4} (h : tB N l = false ∨ N ≠ 1) : cwF N l = ([], false) := by
 unfold cwF
 cases hf : ZL.find? (fun p => 1 == N && p.2 == l) with
 | none => rfl
 | some p =>
  exfalso
  have h1 := List.mem_of_find?_eq_some hf
  have h2 := List.find?_some hf
  simp only [Bool.and_eq_true, beq_iff_eq] at h2
  obtain ⟨rfl, rfl⟩ := h2
  rcases h with h | h
  ·rw [(z_at h1).2.1] at h; cases h
  ·exact h rfl
theorem s_cw (N : Int) (l : List Q4) (hl : l.length ≤ 1048576) : s_CliffordWord N l = some (cwF N l) := by
 by_cases hN : N = 1
 ·subst hN
  rcases Bool.eq_false_or_eq_true (tB 1 l) with ht | ht
  ·obtain ⟨p, h1, rfl, h3⟩ := cwF_ok ht
   rw [h3]; exact (z_at h1).2.2.2
  ·rw [cwF_no (.inl ht)]
   unfold s_CliffordWord
   rw [s_tab 1 l hl, ht, bO_some]
   simp only [Bool.not_false, br_true, bO_some, s_CliffordWord_j1]
 ·rw [cwF_no (.inr hN)]
  unfold s_CliffordWord
  have hne : (N != 1) = true := by simpa using hN
  rw [s_tab N l hl, bO_some]
  cases tB N l <;> simp only [Bool.not_true, Bool.not_false, br_true, br_false, bO_some, hne, s_CliffordWord_j1]
theorem cwF_len (N : Int) (l : List Q4) : (cwF N l).1.length ≤ 3 := by
 unfold cwF
 cases hf : ZL.find? (fun p => 1 == N && p.2 == l) with
 | none => simp
 | some p => exact (z_at (List.mem_of_find?_eq_some hf)).2.2.1
end Go.Proofs.YtfjopjalhllplaaGreat
