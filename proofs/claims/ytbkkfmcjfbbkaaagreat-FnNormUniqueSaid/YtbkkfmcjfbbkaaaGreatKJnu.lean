/- Plain law and its bridge: NormUnique. -/
import Derived.Test.YtbkkfmcjfbbkaaaGreatKMLnu
import Derived.Test.YtbkkfmcjfbbkaaaGreatK18
import Derived.Test.YtbkkfmcjfbbkaaaGreatK10
import Derived.Test.YtbkkfmcjfbbkaaaGreatK1
namespace Go.Proofs.YtbkkfmcjfbbkaaaGreat
open Go.RowKit
set_option maxRecDepth 100000
set_option linter.unusedVariables false
set_option linter.unusedSimpArgs false
theorem at0_ok (code : List Int) (i : Nat) (hi : i < 4000000) : ∃ v, l_at0 code (i : Int) = some v := by
  unfold l_at0
  by_cases h : i < code.length
  · rw [decide_eq_true (by omega), br_true, geti_lt h, bO_some]
    exact ⟨_, rfl⟩
  · rw [decide_eq_false (by omega), br_false]
    exact ⟨_, rfl⟩
theorem nu_two {a b : List Q4} (la : a.length ≤ 20) (lb : b.length ≤ 20) : l_FnNormUnique_j1 a b = some true := by
  unfold l_FnNormUnique_j1
  by_cases hA : ∀ q ∈ a, G1 q
  · obtain ⟨c1, c2, c3, c4, c5⟩ := cnf_ok (by omega) hA
    by_cases hB : ∀ q ∈ b, G1 q
    · obtain ⟨d1, d2, d3, d4, d5⟩ := cnf_ok (by omega) hB
      have hca := hc_le a
      have hcb := hc_le b
      have hn8 := (tB_inv c4).2.1
      obtain ⟨r, r1, r2⟩ := l_ap (n := 1) (by omega) (A := a) (B := b) (by omega) (by omega) hA hB (by omega) (by omega)
      have hu := nf_uniq hA hB (by omega) (by omega)
      have he : (r.2 == nfE (fo a S0).1 1 (fo a S0).2 (fo b S0).1 1 (fo b S0).2) = true := by
        rw [beq_iff_eq, Bool.eq_iff_iff, r2]
        refine hu.trans ?_
        unfold nfE
        simp only [beq_self_eq_true, Bool.true_and, Bool.and_eq_true, beq_iff_eq]
        constructor
        · intro h; rw [h]; exact ⟨rfl, rfl⟩
        · rintro ⟨h1, h2⟩; exact Prod.ext h1 h2
      simp only [c1, c2, d2, bO_some, bne_self_eq_false, br_false, Bool.not_true, l_FnNormUnique_j2, r1, i_enf _ _ _ _ _ _ (show (fo a S0).1.length ≤ 1048576 by omega) (show (fo a S0).2.length ≤ 1048576 by omega), he]
    · obtain ⟨d1, d2⟩ := cnf_no (g := b) (by omega) hB
      simp only [c1, c2, d2, bO_some, bne_self_eq_false, br_false, Bool.not_true, Bool.not_false, l_FnNormUnique_j2, br_true, beq_self_eq_true]
  · obtain ⟨c1, c2⟩ := cnf_no (g := a) (by omega) hA
    have hb : ∃ r, i_ComputeNormalForm b = some r := by
      by_cases hB : ∀ q ∈ b, G1 q
      · obtain ⟨d1, d2, _⟩ := cnf_ok (by omega) hB
        exact ⟨_, d2⟩
      · obtain ⟨d1, d2⟩ := cnf_no (g := b) (by omega) hB
        exact ⟨_, d2⟩
    obtain ⟨r, hr⟩ := hb
    simp only [c1, c2, hr, bO_some, bne_self_eq_false, br_false, Bool.not_false, br_true, l_FnNormUnique_j2, beq_self_eq_true]
theorem law_NormUnique (code : List Int) : l_FnNormUnique code = some true := by
  unfold l_FnNormUnique
  rw [big_eq, bO_some]
  by_cases hb : 1048576 < (code.length : Int)
  · simp only [hb, decide_true, br_true]
  simp only [hb, decide_false, br_false]
  obtain ⟨g, e2, hg⟩ := dcn_ok (code := code) (by omega)
  obtain ⟨t, e3, ht⟩ := tail_ok (code := code)
  obtain ⟨g', e4, hg'⟩ := dcn_ok (code := t) (by omega)
  obtain ⟨v, e5⟩ := at0_ok code 1 (by omega)
  rw [e2, bO_some, e3, bO_some, e4, bO_some, show (1 : Int) = ((1 : Nat) : Int) from rfl, e5, bO_some]
  cases (Int.tmod v 2 == 0)
  · rw [br_false]
    exact nu_two (by omega) (by omega)
  · rw [br_true, decide_eq_true (by simp; omega), gd_true, decide_eq_true (by simp; omega), gd_true]
    exact nu_two (by omega) (by simp; omega)
theorem law_nu (A : Option Addr) (n c : Nat) (l : List Int) (w : World) (wa : IsBytesC w A n c l) :
    Calls Tryz.prog 5 #[.slice A n c] w fun e w' => e = .returned (.bool true) ∧ Below w.heap.size w w' :=
  spec_calls (l_FnNormUnique_ok (law_NormUnique l)) rfl (args1 (.plain (pv_bytes wa)))
end Go.Proofs.YtbkkfmcjfbbkaaaGreat
