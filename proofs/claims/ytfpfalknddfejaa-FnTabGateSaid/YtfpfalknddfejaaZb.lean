/- Plain law: TabGate. -/
import Derived.Test.YtfpfalknddfejaaMLtb
import Derived.Test.YtfpfalknddfejaaPi
namespace Go.Proofs.Ytfpfalknddfejaa
open Go.RowKit
set_option maxRecDepth 100000
set_option linter.unusedVariables false
set_option linter.unusedSimpArgs false
theorem dtg_ok {code : List Int} (h : code.length ≤ 1048576) : Ok (s_DrawTableauApplyGate code) (fun r => r.2.1.length ≤ 8) := by
  unfold s_DrawTableauApplyGate
  refine (new_ok h).bO fun c hc => (dbent_ok hc).bO fun t ht => ?_
  obtain ⟨n, e1, e2⟩ : ∃ n : Int, (bO (s_l1Min 4 t.1) fun x3 => s_l1Max 1 x3) = some n ∧ (1 ≤ n ∧ n ≤ 4) := by
    unfold s_l1Min s_l1Max
    by_cases a : 4 < t.1
    · have : ¬ (4 : Int) < 1 := by omega
      exact ⟨4, by simp [a, br, bO], by omega⟩
    · by_cases b : t.1 < 1
      · exact ⟨1, by simp [a, b, br, bO], by omega⟩
      · exact ⟨t.1, by simp [a, b, br, bO], by omega⟩
  obtain ⟨y, e3, e4⟩ := bO_inv e1
  rw [e3, bO_some, e4, bO_some]
  obtain ⟨k, hk, hk1⟩ := nat_of e2
  rw [hk]
  exact (once_ok ht.2).bO fun o ho => Ok.br (fun _ => (gbent_ok ho hk1).bO fun _ _ => Ok.some ht.1) (fun _ => (cliff_ok ho hk1).bO fun _ _ => Ok.some ht.1)
theorem tabg_is (N : Int) (l : List Q4) (hl : l.length ≤ 1048576) (k a b c : Int) : i_TableauApplyGate N l k a b c = s_TableauApplyGate N l k a b c := by
  obtain ⟨r, hs, hi, _⟩ := tabg_eq N l hl k a b c
  rw [hs, hi]
theorem law_TabGate (code : List Int) : l_FnTabGate code = some true := by
  unfold l_FnTabGate
  rw [big_eq, bO_some]
  by_cases hb : 1048576 < (code.length : Int)
  · simp only [hb, decide_true, br_true]
  simp only [hb, decide_false, br_false]
  obtain ⟨x2, e2, hx2⟩ := dtg_ok (code := code) (by omega)
  obtain ⟨N, l, k, a, b, c⟩ := x2
  rw [e2, bO_some]
  simp only at hx2 ⊢
  have hl : l.length ≤ 1048576 := by omega
  rw [tabg_is N l hl]
  have bad : (clif k && ivg k a b c N) = false ∨ tB N l = false → _ := fun h => tg_no hl h
  by_cases hc : clif k = true ∧ ivg k a b c N = true ∧ tB N l = true
  · obtain ⟨h1, h2, ht⟩ := hc
    have h := (tB_len ht).1
    have hlen := len_map (gmap h k a b) l
    have ht' := gmap_tB h h1 h2 ht
    rw [tg_ok hl h h1 h2 ht, bO_some, bO_some]
    simp only [bne_self_eq_false, br_false, s_eqT N _ N _ (by rw [hlen]; exact hl : (l.map (gmap h k a b)).length ≤ 1048576), beq_self_eq_true, Bool.and_self, bO_some, Bool.not_true, l_FnTabGate_j1, l_FnTabGate_j2, i_inv]
    rw [tabg_is N _ (by rw [hlen]; exact hl), tg_ok (by rw [hlen]; exact hl) h (by rw [inv_clif]; exact h1) (by rw [inv_ivg]; exact h2) ht', bO_some]
    have eb : (l.map (gmap h k a b)).map (gmap h (invK k) a b) = l := by
      rw [List.map_map]
      conv => rhs; rw [← List.map_id l]
      refine List.map_congr_left fun q hq => ?_
      exact gmap_inv h h1 h2 (mem_row ht hq).1 (mem_row ht hq).2
    rw [eb]
    simp only [br_true, s_eqT N l N l hl, beq_self_eq_true, Bool.and_self, bO_some, i_tab N _ (by rw [hlen]; exact hl : (l.map (gmap h k a b)).length ≤ 1048576), ht']
  · have hb2 : (clif k && ivg k a b c N) = false ∨ tB N l = false := by
      rcases Bool.eq_false_or_eq_true (tB N l) with ht | ht
      · refine .inl ?_
        rcases Bool.eq_false_or_eq_true (clif k) with h1 | h1
        · rcases Bool.eq_false_or_eq_true (ivg k a b c N) with h2 | h2
          · exact absurd ⟨h1, h2, ht⟩ hc
          · rw [h2, Bool.and_false]
        · rw [h1, Bool.false_and]
      · exact .inr ht
    rw [tg_no hl hb2, bO_some, bO_some]
    have h0 : ([] : List Q4).length ≤ 1048576 := by simp
    simp only [bne_self_eq_false, br_false, s_eqT 0 [] 0 [] h0, beq_self_eq_true, Bool.and_self, bO_some, Bool.not_true, Bool.not_false, l_FnTabGate_j1, l_FnTabGate_j2, i_inv]
    obtain ⟨r, hs, hi, _⟩ := tabg_eq 0 [] h0 (invK k) a b c
    rw [hi, bO_some]
    simp only [br_true, bO_some]
end Go.Proofs.Ytfpfalknddfejaa
