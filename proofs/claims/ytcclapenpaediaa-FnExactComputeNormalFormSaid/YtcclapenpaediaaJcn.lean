/- Plain law: ComputeNormalForm. -/
import Derived.Test.YtcclapenpaediaaMLcn
import Derived.Test.YtcclapenpaediaaPna
import Derived.Test.YtcclapenpaediaaPk
import Derived.Test.YtcclapenpaediaaBr
namespace Go.Proofs.Ytcclapenpaediaa
open Go.RowKit
set_option maxRecDepth 100000
set_option linter.unusedVariables false
set_option linter.unusedSimpArgs false
def mkI (k : Int) (n : Nat) : List Int := (List.range n).map fun (j : Nat) => k + (j : Int)
theorem mkI_len (k : Int) (n : Nat) : (mkI k n).length = n := by simp [mkI]
theorem markIntS_eq (l : List Int) (k : Int) (hl : l.length ≤ 4000000) (hk : 0 ≤ k ∧ k ≤ 1000000000) : l_markIntS l k = some (k + (l.length : Int), mkI k l.length) := by
  have key : ∀ (m i : Nat) (v : List Int), i ≤ l.length → l.length - i < m → v.length = l.length → v.take i = mkI k i → l_markIntS_l1 m v (k + i) i = some (k + (l.length : Int), mkI k l.length) := by
    intro m
    induction m with
    | zero => intro i v _ h; omega
    | succ m ih =>
      intro i v hi hm hv ht
      rw [l_markIntS_l1]
      by_cases e : i = l.length
      · have hlt : ¬ (i : Int) < (v.length : Int) := by omega
        simp only [hlt, decide_false, br_false, l_markIntS_j1]
        rw [e, List.take_of_length_le (by omega)] at ht
        rw [ht, e]
      · have hiv : i < v.length := by omega
        have hlt : (i : Int) < (v.length : Int) := by omega
        simp only [hlt, decide_true, br_true, geti_lt hiv, bO_some, Int.toNat_natCast]
        rw [w64 (x := k + i + 1) (by omega) (by omega), w64s (n := l.length) (by omega) (by omega), show k + (i : Int) + 1 = k + ((i + 1 : Nat) : Int) by omega]
        refine ih (i + 1) _ (by omega) (by omega) (by simpa using hv) ?_
        rw [take_set_succ hiv, ht]
        unfold mkI
        rw [List.range_succ, List.map_append]
        rfl
  have := key FU 0 l (by omega) (by rw [FU_eq]; omega) rfl (by simp [mkI])
  unfold l_markIntS
  simpa using this
theorem heldIntS_eq (n : Nat) (k : Int) (hn : n ≤ 4000000) (hk : 0 ≤ k ∧ k ≤ 1000000000) : l_heldIntS (mkI k n) k = some (k + (n : Int)) := by
  have key : ∀ (m i : Nat), i ≤ n → n - i < m → l_heldIntS_l1 (mkI k n) m (k + i) i = some (k + (n : Int)) := by
    intro m
    induction m with
    | zero => intro i _ h; omega
    | succ m ih =>
      intro i hi hm
      rw [l_heldIntS_l1, mkI_len]
      by_cases e : i = n
      · have hlt : ¬ (i : Int) < (n : Int) := by omega
        simp only [hlt, decide_false, br_false, l_heldIntS_j1]
        rw [e]
      · have hiv : i < n := by omega
        have hlt : (i : Int) < (n : Int) := by omega
        have hg : geti (mkI k n) (i : Int) = some (k + (i : Int)) := geti_nat (by simp [mkI, hiv])
        simp only [hlt, decide_true, br_true, hg, bO_some, bne_self_eq_false, br_false]
        rw [w64 (x := k + i + 1) (by omega) (by omega), w64s (n := n) (by omega) (by omega), show k + (i : Int) + 1 = k + ((i + 1 : Nat) : Int) by omega]
        exact ih (i + 1) (by omega) (by omega)
  have := key FU 0 (by omega) (by rw [FU_eq]; omega)
  unfold l_heldIntS
  simpa using this
theorem markNF_eq (y : List Int) (N : Int) (l : List Q4) (hy : y.length ≤ 4000000) (hl : l.length ≤ 4000000) : l_markNormalForm y N l 1 = some (1 + (y.length : Int) + 4 * (l.length : Int), mkI 1 y.length, mkQ (1 + (y.length : Int)) l.length) := by
  unfold l_markNormalForm l_markTableau
  simp only [markIntS_eq y 1 hy (by omega), bO_some, mkI_len, decide_true, gd_true, markPauliS_eq l (1 + (y.length : Int)) hl (by omega), mkQ_len]
theorem heldNF_eq (n m : Nat) (N : Int) (hy : n ≤ 4000000) (hl : m ≤ 4000000) : l_heldNormalForm (mkI 1 n) N (mkQ (1 + (n : Int)) m) 1 = some (1 + (n : Int) + 4 * (m : Int)) := by
  unfold l_heldNormalForm l_heldTableau
  have h1 : ¬ (1 + (n : Int)) < 0 := by omega
  have h2 : ¬ (1 + (n : Int) + 4 * (m : Int)) < 0 := by omega
  simp only [heldIntS_eq n 1 hy (by omega), bO_some, h1, decide_false, br_false, heldPauliS_eq m (1 + (n : Int)) hl (by omega), h2]
theorem nfa_eq2 (y : List Int) (N : Int) (l : List Q4) (k a b c : Int) (hy : y.length ≤ 1048576) (hl : l.length ≤ 1048576) :
    ∃ r : Int × List Int × List Q4 × Bool, s_NormalFormApplyGate y N l k a b c = some r ∧ i_NormalFormApplyGate y N l k a b c = some r ∧ r.2.1.length ≤ y.length + 1 ∧ r.2.2.1.length ≤ 1048576 := by
  have cs : s_l30Copy y N l = some (N, y, l) := by
    unfold s_l30Copy s_l26Copy
    rw [gd_w (by simp; omega), gd_w (by simp; omega), bO_some]
  have ci : i_copyNormalForm y N l = some (N, y, l) := by
    unfold i_copyNormalForm
    rw [gd_w (by simp; omega), gd_w (by simp; omega)]
  unfold s_NormalFormApplyGate i_NormalFormApplyGate
  rw [cs, ci, bO_some, bO_some, s_nfv y N l (by omega) (by omega), i_nfv y N l (by omega) (by omega), bO_some, bO_some]
  have bad : ∃ r : Int × List Int × List Q4 × Bool, s_NormalFormApplyGate_j1 y N l k a b c (N, y, l) true = some r ∧ i_NormalFormApplyGate_j1 k a b c (N, y, l) true = some r ∧ r.2.1.length ≤ y.length + 1 ∧ r.2.2.1.length ≤ 1048576 :=
    ⟨(N, y, l, false), rfl, rfl, by show y.length ≤ _; omega, by show l.length ≤ _; omega⟩
  cases hv : ((List.range y.length).all (syB y) && (tB N l && N == 1)) with
  | false => simpa only [Bool.not_false, br_true, bO_some] using bad
  | true =>
    simp only [Bool.not_true, br_false, s_ivg, i_IsValidGate, bO_some]
    cases hg : ivg k a b c 1 with
    | false => simpa only [Bool.not_false] using bad
    | true =>
      simp only [Bool.and_eq_true, beq_iff_eq] at hv
      obtain ⟨hy1, ht, rfl⟩ := hv
      have hl2 := (tB_inv ht).2.1
      have hyv : ∀ (k : Nat) (q : Int), y[k]? = some q → 0 ≤ q ∧ q ≤ 2 := fun k q hq => by
        have hk : k < y.length := by
          rcases Nat.lt_or_ge k y.length with h' | h'
          · exact h'
          · rw [List.getElem?_eq_none h'] at hq; cases hq
        have := List.all_eq_true.1 hy1 k (List.mem_range.2 hk)
        rw [syB_eq hq] at this
        simp only [Bool.and_eq_true, decide_eq_true_eq] at this
        exact this.1
      simp only [Bool.not_true, s_NormalFormApplyGate_j1, i_NormalFormApplyGate_j1, br_false]
      by_cases h7 : k = 7
      · subst h7
        obtain ⟨r, e1, e2, e3, e4, e5, _⟩ := wt_eq y l (by omega) hyv ht
        have := (tB_inv e4).2.1
        simp only [beq_self_eq_true, br_true, e1, e2, bO_some]
        exact ⟨_, rfl, rfl, by show r.2.1.length ≤ _; omega, by show r.2.2.length ≤ _; omega⟩
      · have c7 : (k == 7) = false := by simpa using h7
        by_cases h8 : k = 8
        · subst h8
          have hh : 1 ≤ (1 : Int) ∧ (1 : Int) ≤ 4 := by omega
          have hs := tg_ok (l := l) (by omega) hh (k := 6) (a := 0) (b := 0) (c := 0) (by decide) (by decide) ht
          have ht' := gmap_tB hh (k := 6) (a := 0) (b := 0) (c := 0) (by decide) (by decide) ht
          obtain ⟨r0, g1, g2, _⟩ := tabg_eq 1 l (by omega) 6 0 0 0
          have hr0 := Option.some.inj (g1.symm.trans hs)
          subst hr0
          obtain ⟨r, e1, e2, e3, e4, e5, _⟩ := wt_eq y _ (by omega) hyv ht'
          have := (tB_inv e4).2.1
          have o1 : i_one 6 0 = some (6, 0, 0, 0) := rfl
          have o2 : s_l14One 6 0 = some (6, 0, 0, 0) := rfl
          simp only [c7, br_false, beq_self_eq_true, br_true, o1, o2, bO_some, g1, g2, e1, e2]
          exact ⟨_, rfl, rfl, by show r.2.1.length ≤ _; omega, by show r.2.2.length ≤ _; omega⟩
        · have c8 : (k == 8) = false := by simpa using h8
          obtain ⟨r, g1, g2, g3⟩ := tabg_eq 1 l (by omega) k a b c
          simp only [c7, c8, br_false, g1, g2, bO_some]
          exact ⟨_, rfl, rfl, by show y.length ≤ _; omega, by show r.2.1.length ≤ _; omega⟩
theorem cnf_eq (g : List Q4) (hg : g.length ≤ 1048576) : ∃ r : Int × List Int × List Q4 × Bool, s_ComputeNormalForm g = some r ∧ i_ComputeNormalForm g = some r ∧ r.2.1.length ≤ 1048576 ∧ r.2.2.1.length ≤ 1048576 := by
  have key : ∀ (m j : Nat) (N : Int) (y : List Int) (l : List Q4), j ≤ g.length → g.length - j < m → y.length ≤ j → l.length ≤ 1048576 →
      ∃ r : Int × List Int × List Q4 × Bool, s_ComputeNormalForm_l1 g m j N y l = some r ∧ i_ComputeNormalForm_l1 g m (g.length : Int) j N y l = some r ∧ r.2.1.length ≤ 1048576 ∧ r.2.2.1.length ≤ 1048576 := by
    intro m
    induction m with
    | zero => intro j N y l _ h; omega
    | succ m ih =>
      intro j N y l hj hm hy hl
      rw [s_ComputeNormalForm_l1, i_ComputeNormalForm_l1]
      by_cases e : j = g.length
      · have hlt : ¬ (j : Int) < (g.length : Int) := by omega
        simp only [hlt, decide_false, br_false, s_ComputeNormalForm_j1, i_ComputeNormalForm_j1]
        exact ⟨_, rfl, rfl, by show y.length ≤ _; omega, hl⟩
      · have hjl : j < g.length := by omega
        have hlt : (j : Int) < (g.length : Int) := by omega
        obtain ⟨r, h1, h2, h3, h4⟩ := nfa_eq2 y N l g[j].1 g[j].2.1 g[j].2.2.1 g[j].2.2.2 (by omega) hl
        simp only [hlt, decide_true, br_true, geti_lt hjl, bO_some, h1, h2]
        cases hb : r.2.2.2 with
        | false => exact ⟨_, rfl, rfl, by simp, by simp⟩
        | true =>
          simp only [Bool.not_true, br_false]
          rw [w64s (n := g.length) hjl (by omega)]
          exact ih (j + 1) r.1 r.2.1 r.2.2.1 (by omega) (by omega) (by omega) h4
  obtain ⟨i1, i2, i3, i4⟩ := id_ok (N := 1) (by omega)
  obtain ⟨r, k1, k2, k3⟩ := key FU 0 1 [] (idT 1) (by omega) (by rw [FU_eq]; omega) (by simp) (by omega)
  refine ⟨r, ?_, ?_, k3⟩
  · unfold s_ComputeNormalForm s_IdentityNormalForm
    rw [i1, bO_some, bO_some]
    exact k1
  · unfold i_ComputeNormalForm i_IdentityNormalForm
    rw [i2, bO_some, bO_some]
    exact k2
theorem law_ComputeNormalForm (g : List Q4) (hl : g.length ≤ 9223372036854775807) : l_FnExactComputeNormalForm g = some true := by
  unfold l_FnExactComputeNormalForm
  rw [szGateS_eq g _ (by omega) hl, bO_some]
  by_cases h : (g.length : Int) ≤ 1048576
  · have h1 : ¬ 1048576 - (g.length : Int) < 0 := by omega
    obtain ⟨r, hs, hi, hr1, hr2⟩ := cnf_eq g (by omega)
    have hq1 : ¬ (1 + 4 * (g.length : Int)) < 0 := by omega
    have hq2 : ¬ (1 + (r.2.1.length : Int) + 4 * (r.2.2.1.length : Int)) < 0 := by omega
    simp only [if_pos h, h1, decide_false, br_false, toGateS_eq g (by omega), bO_some, hs, hi, bne_self_eq_false, eqGateS_self g (by omega), eqNormalForm_self r.2.1 r.1 r.2.2.1 hr1 hr2, Bool.not_true,
      l_FnExactComputeNormalForm_j1, l_FnExactComputeNormalForm_j2, l_FnExactComputeNormalForm_j3, markGateS_eq g 1 (by omega) (by omega), markNF_eq r.2.1 r.1 r.2.2.1 (by omega) (by omega), mkI_len, mkQ_len, decide_true, gd_true, hq1, hq2, heldNF_eq r.2.1.length r.2.2.1.length r.1 (by omega) (by omega)]
  · simp only [if_neg h]; rfl
theorem law_cn (A : Option Addr) (n c : Nat) (l : List Quad) (w : World) (wa : IsQuads w A n c l) :
    Calls Try.prog 13 #[.slice A n c] w fun e w' => e = .returned (.bool true) ∧ Below w.heap.size w w' := by
  refine spec_calls (l_FnExactComputeNormalForm_ok (law_ComputeNormalForm l ?_)) rfl (args1 (.plain (pv_quads wa.2 wa.1.2)))
  have h1 := wa.1.1; have h2 := wa.2.1; simp only [maxLen] at h1; omega
end Go.Proofs.Ytcclapenpaediaa
