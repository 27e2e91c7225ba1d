/- Plain law: Reduced. -/
import Derived.Test.YtcclapenpaediaaMLre
import Derived.Test.YtcclapenpaediaaPrd
import Derived.Test.YtcclapenpaediaaPid
import Derived.Test.YtcclapenpaediaaPsg
namespace Go.Proofs.Ytcclapenpaediaa
open Go.RowKit
set_option maxRecDepth 100000
set_option linter.unusedVariables false
set_option linter.unusedSimpArgs false
theorem law_Reduced (code : List Int) : l_FnReduced code = some true := by
  unfold l_FnReduced
  rw [big_eq, bO_some]
  by_cases hb : 1048576 < (code.length : Int)
  · simp only [hb, decide_true, br_true]
  simp only [hb, decide_false, br_false]
  have hd : Ok (s_DrawReduceTableau code) (fun r => r.2.length ≤ 8) := by
    unfold s_DrawReduceTableau
    exact (new_ok (by omega)).bO fun c hc => (dbent_ok hc).bO fun t ht => Ok.some ht.1
  obtain ⟨x2, e2, hx2⟩ := hd
  obtain ⟨N, l⟩ := x2
  rw [e2, bO_some]
  simp only at hx2 ⊢
  rcases Bool.eq_false_or_eq_true (tB N l) with ht | ht
  · have h := (tB_len ht).1
    obtain ⟨h1, h2, h3⟩ := red_ok (h := h) ht (by omega)
    have J := red_end (h := h) ht
    have hid := red_id (h := h) ht
    have hlen : (redP h l).2.length ≤ 250 := h3.2.1
    rw [h1, h2, bO_some, bO_some]
    simp only [bne_self_eq_false, br_false, same_self (redP h l).2 (by omega), bO_some, Bool.not_true, l_FnReduced_j1]
    have key : ∀ (m j : Nat) (u : List Q4), j ≤ (redP h l).2.length → (redP h l).2.length - j < m → tB N u = true → u.length ≤ 1048576 →
        l_FnReduced_l1 ((redP h l).2, true) m j N u = l_FnReduced_j3 N (runG h ((redP h l).2.drop j) u) := by
      intro m
      induction m with
      | zero => intro j u _ hm; omega
      | succ m ih =>
        intro j u hj hm hu hul
        rw [l_FnReduced_l1]
        by_cases e : j = (redP h l).2.length
        · have hlt : ¬ (j : Int) < ((redP h l).2.length : Int) := by omega
          simp only [hlt, decide_false, br_false]
          rw [e, List.drop_length]
          rfl
        · have hjl : j < (redP h l).2.length := by omega
          have hlt : (j : Int) < ((redP h l).2.length : Int) := by omega
          have hg := J.gs _ (List.getElem_mem hjl)
          simp only [hlt, decide_true, br_true, geti_lt hjl, bO_some, tg_ok hul h hg.1 hg.2 hu, Bool.not_true, br_false]
          rw [w64s (n := (redP h l).2.length) hjl (by omega), ih (j + 1) _ (by omega) (by omega) (gmap_tB h hg.1 hg.2 hu) (by rw [len_map]; exact hul), List.drop_eq_getElem_cons hjl]
          rfl
    have k := key FU 0 l (by omega) (by rw [FU_eq]; omega) ht (by omega)
    rw [show ((0 : Nat) : Int) = 0 by rfl] at k
    rw [k, List.drop_zero, ← J.run, hid]
    unfold l_FnReduced_j3
    rw [(id_ok h).2.1, bO_some, s_eqT N _ N _ (by rw [(id_ok h).2.2.2]; omega), bO_some]
    simp only [beq_self_eq_true, Bool.and_self]
  · obtain ⟨h1, h2⟩ := red_no ht (by omega : l.length ≤ 1048576)
    rw [h1, h2, bO_some, bO_some]
    simp only [bne_self_eq_false, br_false, same_self [] (by simp), bO_some, Bool.not_true, Bool.not_false, l_FnReduced_j1, br_true, beq_self_eq_true, l_FnReduced_j2]
end Go.Proofs.Ytcclapenpaediaa
