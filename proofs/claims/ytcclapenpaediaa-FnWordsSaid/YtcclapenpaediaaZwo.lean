/- Plain law: Words. -/
import Derived.Test.YtcclapenpaediaaMLwo
import Derived.Test.YtcclapenpaediaaPcw
import Derived.Test.YtcclapenpaediaaPid
namespace Go.Proofs.Ytcclapenpaediaa
open Go.RowKit
set_option maxRecDepth 100000
set_option linter.unusedVariables false
set_option linter.unusedSimpArgs false
theorem same_self (l : List Q4) (hl : l.length ≤ 1048576) : l_sameGates l l = some true := by
  unfold l_sameGates
  simp only [bne_self_eq_false, br_false]
  rw [loop_all0 (l_sameGates_l1 l l) l.length (fun _ => true) (by omega) (fun m k hk => ?_) (some true) (fun m => ?_), all_true]
  · rfl
  · have hlt : (k : Int) < (l.length : Int) := by omega
    rw [l_sameGates_l1, geti_lt hk, w64s hk (by omega)]
    simp only [hlt, decide_true, br_true, bO_some, beq_self_eq_true, Bool.and_self, Bool.not_true, br_false]
  · have hlt : ¬ (l.length : Int) < (l.length : Int) := by omega
    rw [l_sameGates_l1]
    simp only [hlt, decide_false, br_false, l_sameGates_j1]
theorem dcw_ok {code : List Int} (h : code.length ≤ 1048576) : Ok (s_DrawCliffordWord code) (fun r => r.2.length ≤ 8) := by
  unfold s_DrawCliffordWord
  refine (new_ok h).bO fun c hc => (once_ok hc).bO fun o ho => Ok.br (fun _ => (dbent_ok ho).bO fun t ht => Ok.some ht.1) (fun _ => ?_)
  unfold s_l29Cliff
  refine Ok.bO (Q := fun r => (∀ g ∈ r.1, GateOk 1 g) ∧ (r.1.length : Int) ≤ 8) ((dcirc_ok (n := 1) (most := 8) ho (by omega) (by omega)).bO fun g hg => Ok.some ⟨hg.1.2.1, hg.1.2.2⟩) fun g hg => ?_
  unfold s_WordTableau
  have h1 : 1 ≤ (1 : Int) ∧ (1 : Int) ≤ 4 := by omega
  rw [circ_ok h1 g.1 (by omega) hg.1, bO_some, bO_some]
  refine Ok.some ?_
  show (runG h1 g.1 (idT 1)).length ≤ 8
  rw [runG_len, (id_ok h1).2.2.2]
  decide
theorem law_Words (code : List Int) : l_FnWords code = some true := by
  unfold l_FnWords
  rw [big_eq, bO_some]
  by_cases hb : 1048576 < (code.length : Int)
  · simp only [hb, decide_true, br_true]
  simp only [hb, decide_false, br_false]
  obtain ⟨x2, e2, hx2⟩ := dcw_ok (code := code) (by omega)
  obtain ⟨N, l⟩ := x2
  rw [e2, bO_some]
  simp only at hx2 ⊢
  have hc := cwF_len N l
  rw [i_cw, s_cw N l (by omega), bO_some, bO_some]
  simp only [bne_self_eq_false, br_false, same_self (cwF N l).1 (by omega), bO_some, Bool.not_true, l_FnWords_j1]
  by_cases hN : N = 1
  · subst hN
    rcases Bool.eq_false_or_eq_true (tB 1 l) with ht | ht
    · obtain ⟨p, h1, rfl, h3⟩ := cwF_ok ht
      obtain ⟨z1, z2, z3, z4⟩ := z_at h1
      have hl3 : decide ((p.1.length : Int) ≤ 3) = true := decide_eq_true (by omega)
      rw [h3]
      simp only [Bool.not_true, br_false, z1, bO_some, br_true, s_eqT 1 p.2 1 p.2 (by omega : p.2.length ≤ 1048576), beq_self_eq_true, Bool.and_self, hl3, W_all, l_FnWords_j3]
      rfl
    · rw [cwF_no (.inl ht)]
      simp only [Bool.not_false, br_true, s_tab 1 l (by omega), ht, bO_some, l_FnWords_j2]
  · rw [cwF_no (.inr hN)]
    have hne : (N != 1) = true := by simpa using hN
    simp only [Bool.not_false, br_true, s_tab N l (by omega), bO_some, hne]
    cases tB N l <;> simp only [Bool.not_true, Bool.not_false, br_true, br_false, bO_some, l_FnWords_j2]
end Go.Proofs.Ytcclapenpaediaa
