/- Plain law and its bridge: PauliMul. -/
import Derived.Test.YtplbdmigbakmlaaKMLpm
import Derived.Test.YtplbdmigbakmlaaK16
import Derived.Test.YtplbdmigbakmlaaKPd
import Derived.Test.YtplbdmigbakmlaaK10
import Derived.Test.YtplbdmigbakmlaaK1
namespace Go.Proofs.Ytplbdmigbakmlaa
open Go.RowKit
set_option maxRecDepth 100000
set_option linter.unusedVariables false
set_option linter.unusedSimpArgs false
theorem dpm_ok {code : List Int} (h : code.length ≤ 1048576) : Ok (s_DrawMulPauli code) (fun _ => True) := by
  unfold s_DrawMulPauli
  refine (new_ok h).bO fun c hc => (below_ok hc).bO fun k hk => (once_ok hk.2).bO fun o ho => Ok.br (fun _ => (bent_ok ho).bO fun a ha => (bent_ok ha).bO fun b hb => Ok.some trivial) (fun _ => (pauli_ok ho).bO fun a ha => (pauli_ok ha.2).bO fun b hb => Ok.some trivial)
theorem m_no {n x z p m y w r : Int} (h : ¬ ((vP (n, x, z, p) = true ∧ vP (m, y, w, r) = true) ∧ n = m)) : i_MulPauli n x z p m y w r = some (0, 0, 0, 0, false) ∧ s_MulPauli n x z p m y w r = some (0, 0, 0, 0, false) := by
  have e : ((!vP (n, x, z, p) || !vP (m, y, w, r)) || (n != m)) = true := by
    cases h1 : vP (n, x, z, p) with
    | false => rfl
    | true =>
      cases h2 : vP (m, y, w, r) with
      | false => rfl
      | true =>
        have : n ≠ m := fun e => h ⟨⟨h1, h2⟩, e⟩
        simpa using this
  unfold i_MulPauli s_MulPauli
  simp only [i_valid, s_valid, bO_some, br_or, e]
  exact ⟨rfl, rfl⟩
theorem pm_stB {q : Q4} (hq : vP q = true) {f : Nat → DQ} (hf : ∀ r, vd (f r) = true) : stB ((List.range (2 ^ q.1.toNat)).map f) = true := by
  obtain ⟨n, x, z, p⟩ := q
  have h1 := (vP_iff.1 hq).1
  unfold stB
  rw [Bool.and_eq_true, List.all_eq_true, decide_eq_true_eq]
  refine ⟨fun y hy => ?_, ?_⟩
  · obtain ⟨r, _, rfl⟩ := List.mem_map.1 hy
    exact hf r
  · show 0 < qcF ((List.range (2 ^ n.toNat)).map f).length
    rw [List.length_map, List.length_range]
    rcases four h1 with rfl | rfl | rfl | rfl <;> decide
theorem pm_mtB {q : Q4} (hq : vP q = true) : mtB (pmL q) = true := by
  unfold mtB
  rw [Bool.and_eq_true, List.all_eq_true, decide_eq_true_eq]
  have hp : 0 < 2 ^ q.1.toNat := Nat.two_pow_pos _
  refine ⟨fun row hr => ?_, ?_⟩
  · obtain ⟨r, _, rfl⟩ := List.mem_map.1 hr
    rw [Bool.and_eq_true, beq_iff_eq]
    refine ⟨?_, pm_stB hq (pm_vd q r)⟩
    rw [pm_tb, tb_len]
    unfold pmR
    simp
  · rw [pm_tb, tb_len]; omega
theorem s_mm {a b : Q4} (ha : vP a = true) (hb : vP b = true) (hab : a.1 = b.1) : s_MulMatrix (pmL a) (pmL b) = some (pmL (mulQ a b), true) := by
  have h16 : 2 ^ a.1.toNat ≤ 16 := by
    obtain ⟨n, x, z, p⟩ := a
    exact pw16 (vP_iff.1 ha).1
  have ma := pm_mtB ha
  have mb := pm_mtB hb
  have la : (pmL a).length = 2 ^ a.1.toNat := by rw [pm_tb, tb_len]
  have lb : (pmL b).length = 2 ^ a.1.toNat := by rw [pm_tb, tb_len, ← hab]
  have ra : ∀ r ∈ pmL a, r.length ≤ 1048576 := fun r hr => by have := (mt_inv ma r hr).1; omega
  have rb : ∀ r ∈ pmL b, r.length ≤ 1048576 := fun r hr => by have := (mt_inv mb r hr).1; omega
  unfold s_MulMatrix
  rw [s_mt _ (by omega) (fun r hr => by have := ra r hr; omega), s_mt _ (by omega) (fun r hr => by have := rb r hr; omega), bO_some]
  have hne : (((pmL a).length : Int) != ((pmL b).length : Int)) = false := by rw [la, lb]; simp
  simp only [bO_some, br_or, ma, mb, hne, Bool.not_true, Bool.or_self, s_MulMatrix_j1, br_false]
  have key : ∀ (m k : Nat), k ≤ 2 ^ a.1.toNat → 2 ^ a.1.toNat - k < m → s_MulMatrix_l1 (pmL a) (pmL b) m k ((List.range k).map fun c => (List.range (2 ^ a.1.toNat)).map fun r => pmE (mulQ a b) r c) = some (pmL (mulQ a b), true) := by
    intro m
    induction m with
    | zero => intro k _ h; omega
    | succ m ih =>
      intro k hk hm
      rw [s_MulMatrix_l1, lb]
      by_cases e : k = 2 ^ a.1.toNat
      · have hlt : decide ((k : Int) < ((2 ^ a.1.toNat : Nat) : Int)) = false := decide_eq_false (by omega)
        rw [hlt, br_false, e]
        unfold s_MulMatrix_j2
        have hf := s_cols (n := 2 ^ a.1.toNat) (fun c r => pmE (mulQ a b) r c) (by omega)
        unfold tbF at hf
        rw [hf, bO_some]
        rfl
      · have hkl : k < 2 ^ a.1.toNat := by omega
        have hlt : decide ((k : Int) < ((2 ^ a.1.toNat : Nat) : Int)) = true := decide_eq_true (by omega)
        have hc : s_l7Column (pmL b) (k : Int) = some ((List.range (2 ^ a.1.toNat)).map fun j => pmE b j k) := by
          have := s_col (n := 2 ^ b.1.toNat) (fun r c => pmE b r c) (by rw [← hab]; omega) (k := k) (by rw [← hab]; exact hkl)
          rw [← pm_tb, ← hab] at this
          exact this
        have hst : stB ((List.range (2 ^ a.1.toNat)).map fun j => pmE b j k) = true := pm_stB ha fun r => pm_vd b r k
        have hlen : ((List.range (2 ^ a.1.toNat)).map fun j => pmE b j k).length = 2 ^ a.1.toNat := by simp
        have hap : s_ApplyMatrix (pmL a) ((List.range (2 ^ a.1.toNat)).map fun j => pmE b j k) = some ((List.range (2 ^ a.1.toNat)).map fun r => pmE (mulQ a b) r k, true) := by
          rw [s_apply _ _ (by omega) ra (by rw [hlen]; omega)]
          unfold apM
          rw [if_pos ⟨⟨ma, hst⟩, by rw [la, hlen]⟩, ap_pm ha hlen (st_inv hst).1]
          show some (apP a ((List.range (2 ^ a.1.toNat)).map fun j => pmE b j k), true) = _
          have el : apP a ((List.range (2 ^ a.1.toNat)).map fun j => pmE b j k) = (List.range (2 ^ a.1.toNat)).map fun r => pmE (mulQ a b) r k := ?_
          · rw [el]
          unfold apP
          refine List.map_congr_left fun r hr => ?_
          have hr := List.mem_range.1 hr
          unfold atp
          rw [List.getElem?_map, List.getElem?_range (pix_lt ha hr)]
          exact pm_mul ha hb hab hr hkl
        rw [hlt, br_true, hc, bO_some, hap, bO_some]
        simp only [Bool.not_true, br_false]
        rw [show decide (((List.range k).map fun c => (List.range (2 ^ a.1.toNat)).map fun r => pmE (mulQ a b) r c).length + [(List.range (2 ^ a.1.toNat)).map fun r => pmE (mulQ a b) r k].length ≤ 16777216) = true from decide_eq_true (by simp; omega), gd_true, w64s hkl (by omega)]
        have := ih (k + 1) (by omega) (by omega)
        rw [← rg_snoc] at this
        exact this
  exact key FU 0 (Nat.zero_le _) (by rw [FU_eq]; omega)
theorem s_eqm_self (m : List (List DQ)) (hl : m.length ≤ 4000000) (hr : ∀ r ∈ m, r.length ≤ 4000000) : s_EqualMatrix m m = some true := by
  unfold s_EqualMatrix
  rw [bne_self_eq_false, br_false]
  rw [loop_all0 (s_EqualMatrix_l1 m m) m.length (fun _ => true) hl (fun k i hk => ?_) (some true) (fun k => ?_), all_true]
  · rfl
  · have hlt : decide ((i : Int) < (m.length : Int)) = true := decide_eq_true (by omega)
    rw [s_EqualMatrix_l1, hlt, br_true, geti_lt hk, bO_some, bO_some, s_eqs _ _ (hr _ (List.getElem_mem hk)), bO_some, beq_self_eq_true, w64s hk (by omega)]
    rfl
  · have hlt : decide ((m.length : Int) < (m.length : Int)) = false := decide_eq_false (by omega)
    rw [s_EqualMatrix_l1, hlt, br_false]
    rfl
theorem law_PauliMul (code : List Int) : l_FnPauliMul code = some true := by
  unfold l_FnPauliMul
  rw [big_eq, bO_some]
  by_cases hb : 1048576 < (code.length : Int)
  · simp only [hb, decide_true, br_true]
  simp only [hb, decide_false, br_false]
  obtain ⟨x2, e2, _⟩ := dpm_ok (code := code) (by omega)
  obtain ⟨n, x, z, p, m, y, w, r⟩ := x2
  rw [e2, bO_some]
  simp only
  by_cases hv : (vP (n, x, z, p) = true ∧ vP (m, y, w, r) = true) ∧ n = m
  · obtain ⟨⟨h1, h2⟩, rfl⟩ := hv
    have hm := mulQ_vP h1 h2 rfl
    rw [i_mul h1 h2, s_mul h1 h2, bO_some, bO_some]
    simp only [bne_self_eq_false, br_false, bO_some, beq_self_eq_true, Bool.and_self, Bool.not_true, l_FnPauliMul_j1]
    have hmm := s_mm h1 h2 rfl
    have hm' : vP (n, xo x y, xo z w, (p + r + 2 * pc (an z y)) % 4) = true := hm
    have h16 := pw16 (vP_iff.1 h1).1
    have hmt := pm_mtB hm
    have hq : mulQ (n, x, z, p) (n, y, w, r) = (n, xo x y, xo z w, (p + r + 2 * pc (an z y)) % 4) := rfl
    rw [hq] at hmm hmt
    have hll : (pmL (n, xo x y, xo z w, (p + r + 2 * pc (an z y)) % 4)).length = 2 ^ n.toNat := by rw [pm_tb, tb_len]
    have heq := s_eqm_self (pmL (n, xo x y, xo z w, (p + r + 2 * pc (an z y)) % 4)) (by omega) (fun r hr => by have := (mt_inv hmt r hr).1; omega)
    simp only [i_pm h1, i_pm h2, i_pm hm', bO_some, hmm, br_true, i_valid, hm', heq, l_FnPauliMul_j2]
  · obtain ⟨h1, h2⟩ := m_no hv
    rw [h1, h2, bO_some, bO_some]
    rfl
theorem law_pm (A : Option Addr) (n c : Nat) (l : List Int) (w : World) (wa : IsBytesC w A n c l) :
    Calls Try.prog 3 #[.slice A n c] w fun e w' => e = .returned (.bool true) ∧ Below w.heap.size w w' :=
  spec_calls (l_FnPauliMul_ok (law_PauliMul l)) rfl (args1 (.plain (pv_bytes wa)))
end Go.Proofs.Ytplbdmigbakmlaa
