/- Plain laws: the matrix of a gate; matrices that lead one Pauli operator to another. -/
import Derived.Test.YtplbdmigbakmlaaK17
import Derived.Test.YtplbdmigbakmlaaKPvf
import Derived.Test.YtplbdmigbakmlaaK16
namespace Go.Proofs.Ytplbdmigbakmlaa
open Go.RowKit
set_option maxRecDepth 100000
set_option linter.unusedVariables false
set_option linter.unusedSimpArgs false
theorem ph_dq (a K : Nat) {n : Z4} (hK : K ≤ 60) (hb : bdz 1073741824 n) : phx a (dq K n) = dq K (mlz (phz a) n) := by
  refine dq_eq (ph_vd (dq_vd hK hb)) ?_
  rw [(ph_exn a _).1, (ph_exn a _).2, rtn_mlz', dq_val, ← rtn_mlz']
theorem er_of_cj {N : Int} {L : List GQ} {p q : Gp N} {K : Nat} (hK : K ≤ 60) (hb : ∀ c, bdv 1073741824 (gzs L (dl c))) (h : Cj L p q) : Er (fun r c => dq K (gzs L (dl c) r)) p q := by
  intro r c hr hc
  simp only
  rw [ph_dq _ K hK (hb _ _), ph_dq _ K hK (hb _ _)]
  congr 1
  have e := h (dl c) r hr
  rw [show paQ p.q (dl c) = fun i => mlz (phz (pe p.q c)) (dl (pix p.q c) i) from funext (pa_dl p c), gzs_mul] at e
  exact e
/-- The matrix of a gate. -/
def gmF (D : Nat) (K : Nat) (L : List GQ) : List (List DQ) := tbF D fun r c => dq K (gzs L (dl c) r)
theorem s_eqm (m : List (List DQ)) (hl : m.length ≤ 4000000) (hr : ∀ r ∈ m, r.length ≤ 4000000) : s_EqualMatrix m m = some true := by
  unfold s_EqualMatrix
  rw [bne_self_eq_false, br_false]
  rw [loop_all0 (s_EqualMatrix_l1 m m) m.length (fun _ => true) hl (fun k i hk => ?_) (some true) (fun k => ?_)]
  · rw [List.all_eq_true.2 (fun _ _ => rfl)]; rfl
  · have hlt : decide ((i : Int) < (m.length : Int)) = true := decide_eq_true (by omega)
    rw [s_EqualMatrix_l1, hlt, br_true, geti_lt hk, bO_some, bO_some, s_eqs _ _ (hr _ (List.getElem_mem hk)), bO_some, beq_self_eq_true, w64s hk (by omega)]
    rfl
  · have hlt : decide ((m.length : Int) < (m.length : Int)) = false := decide_eq_false (by omega)
    rw [s_EqualMatrix_l1, hlt, br_false]
    rfl
/-- The three last steps: matrix times Pauli, Pauli times matrix, equality. -/
theorem s_both {N : Int} (h : 1 ≤ N ∧ N ≤ 4) {L : List GQ} {K : Nat} (hK : K ≤ 60) (hb : ∀ c, bdv 1073741824 (gzs L (dl c))) {p q : Gp N} (hc : Cj L p q) :
    ∃ m, s_MulMatrix (gmF (2 ^ N.toNat) K L) (pmL p.q) = some (m, true) ∧ s_MulMatrix (pmL q.q) (gmF (2 ^ N.toNat) K L) = some (m, true) ∧ s_EqualMatrix m m = some true := by
  have h16 : 2 ^ N.toNat ≤ 16 := by rcases four h with rfl | rfl | rfl | rfl <;> decide
  have hvd : ∀ r c, r < 2 ^ N.toNat → c < 2 ^ N.toNat → vd (dq K (gzs L (dl c) r)) = true := fun r c _ _ => dq_vd hK (hb c r)
  refine ⟨_, tb_pm h p hvd, ?_, s_eqm _ (by rw [tb_len]; omega) (fun r hr => ?_)⟩
  · rw [Er.eq (er_of_cj hK hb hc)]
    exact pm_tb' h q hvd
  · unfold tbF at hr
    obtain ⟨i, _, rfl⟩ := List.mem_map.1 hr
    simp; omega
theorem gzs_bd1 {L : List GQ} (h : hc L ≤ 24) (c : Nat) : bdv 1073741824 (gzs L (dl c)) := fun r => by
  have h1 := gzs_bd (e := 0) (L := L) (dl_bd c) r
  have h2 := pow24 (e := 0 + hc L) (by omega)
  exact bdz_mono (by omega) h1
end Go.Proofs.Ytplbdmigbakmlaa
