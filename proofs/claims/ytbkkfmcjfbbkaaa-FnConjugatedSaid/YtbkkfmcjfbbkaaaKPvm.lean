/- Plain laws: the matrix of a gate; matrices that lead one Pauli operator to another. -/
import Derived.Test.YtbkkfmcjfbbkaaaK6b
import Derived.Test.YtbkkfmcjfbbkaaaK17
import Derived.Test.YtbkkfmcjfbbkaaaKPvf
import Derived.Test.YtbkkfmcjfbbkaaaK16
namespace Go.Proofs.Ytbkkfmcjfbbkaaa
open Go.RowKit
set_option maxRecDepth 100000
set_option linter.unusedVariables false
set_option linter.unusedSimpArgs false
theorem ph_dq (a K : Nat) {n : Z4} (hK : K ≤ 60) (hb : bdz 1073741824 n) : phx a (dq K n) = dq K (mlz (phz a) n) := by
  refine dq_eq (ph_vd (dq_vd hK hb)) ?_
  rw [(ph_exn a _).1, (ph_exn a _).2, rtn_mlz', dq_val, ← rtn_mlz']
theorem pa_dl {N : Int} (p : Gp N) (c i : Nat) : paQ p.q (dl c) i = mlz (phz (pe p.q c)) (dl (pix p.q c) i) := by
  unfold paQ dl
  by_cases h : pix p.q i = c
  · rw [if_pos h, if_pos (by rw [← h, pix_pix]), h]
  · rw [if_neg h, if_neg (fun e => h (by rw [e, pix_pix])), mlz_0r, mlz_0r]
theorem er_of_cj {N : Int} {L : List GQ} {p q : Gp N} {K : Nat} (hK : K ≤ 60) (hb : ∀ c, bdv 1073741824 (gzs L (dl c))) (h : Cj L p q) : Er (fun r c => dq K (gzs L (dl c) r)) p q := by
  intro r c hr hc
  simp only
  rw [ph_dq _ K hK (hb _ _), ph_dq _ K hK (hb _ _)]
  congr 1
  have e := h (dl c) r hr
  rw [show paQ p.q (dl c) = fun i => mlz (phz (pe p.q c)) (dl (pix p.q c) i) from funext (pa_dl p c), gzs_mul] at e
  exact e
/-- A Clifford gate on up to three qubits. -/
theorem cj_gate {k a b c N : Int} (h : 1 ≤ N ∧ N ≤ 4) (h3 : N ≤ 3) (h1 : clif k = true) (h2 : ivg k a b c N = true) (p : Gp N) : Cj [(k, a, b, c)] p (led h (gA h k a b) (gB h k a b) p) := by
  have hg := ivg_gok h2
  obtain ⟨rfl, _⟩ := gate_dom h1 h2
  have hL : ∀ q ∈ [((k, a, b, 0) : GQ)], gok N.toNat q := fun q hq => by
    simp only [List.mem_cons, List.not_mem_nil, or_false] at hq
    rw [hq]; exact hg
  obtain ⟨_, ha, hc⟩ := ivg_cases h2
  have hk : 1 ≤ k ∧ k ≤ 11 := by
    unfold clif at h1
    simp at h1
    exact h1.1
  have hb : 0 ≤ b ∧ b < N := by rcases hc with ⟨_, e, _⟩ | ⟨_, e, _⟩ | ⟨e, _⟩ <;> omega
  obtain ⟨k', rfl⟩ : ∃ k' : Nat, k = k' := ⟨k.toNat, by omega⟩
  obtain ⟨a', rfl⟩ : ∃ a' : Nat, a = a' := ⟨a.toNat, by omega⟩
  obtain ⟨b', rfl⟩ : ∃ b' : Nat, b = b' := ⟨b.toNat, by omega⟩
  obtain ⟨N', rfl⟩ : ∃ N' : Nat, N = N' := ⟨N.toNat, by omega⟩
  have hfin := cj_fin ⟨k', by omega⟩ ⟨a', by omega⟩ ⟨b', by omega⟩ ⟨N', by omega⟩ (by simp only; rw [h1, h2]; rfl)
  unfold cjB at hfin
  refine Cj.all hL h (fun j hj => ?_) p
  rw [Int.toNat_natCast] at hj
  have hj' := List.all_eq_true.1 hfin j (List.mem_range.2 hj)
  rw [Bool.and_eq_true] at hj'
  obtain ⟨_, _, g1, g2⟩ := img_g h h1 h2 (v := j) (by rw [Int.toNat_natCast]; exact hj)
  have ev : ∀ {g i : Gp (N' : Int)} {gq iq : Q4}, g.q = gq → i.q = iq → cjE N' k' a' b' j gq iq = true → Cj [((k' : Int), (a' : Int), (b' : Int), 0)] g i := by
    intro g i gq iq e1 e2 he
    refine cj_of hL fun c r hc hr => ?_
    rw [Int.toNat_natCast] at hc hr
    unfold cjE at he
    have := List.all_eq_true.1 (List.all_eq_true.1 he c (List.mem_range.2 hc)) r (List.mem_range.2 hr)
    rw [e1, e2]
    exact eq_of_beq this
  constructor
  · exact ev (by unfold gpX; rw [dif_pos (by rw [Int.toNat_natCast]; exact hj)]) g1 hj'.1
  · exact ev (by unfold gpZ; rw [dif_pos (by rw [Int.toNat_natCast]; exact hj)]) g2 hj'.2
/-- The matrix of a gate. -/
def gmF (D : Nat) (K : Nat) (L : List GQ) : List (List DQ) := tbF D fun r c => dq K (gzs L (dl c) r)
theorem s_gm {k a b c n : Int} (hv : ivg k a b c n = true) : s_GateMatrix k a b c n = some (gmF (2 ^ n.toNat) (kq k) [(k, a, b, c)], true) := by
  obtain ⟨hn, _, _⟩ := ivg_cases hv
  have h16 : 2 ^ n.toNat ≤ 16 := by rcases four hn with rfl | rfl | rfl | rfl <;> decide
  have hu : IntKind.wrap .u64 n = n := IntWalk.u64_in _ (by omega)
  have hs : IntKind.wrap .i64 (1 * 2 ^ min (Int.toNat n) (IntKind.bits .i64)) = ((2 ^ n.toNat : Nat) : Int) := by rcases four hn with rfl | rfl | rfl | rfl <;> decide
  have hng : decide (¬ n < 0) = true := decide_eq_true (by omega)
  have hk1 : kq k ≤ 1 := by unfold kq; split <;> omega
  have key : ∀ (m i : Nat), i ≤ 2 ^ n.toNat → 2 ^ n.toNat - i < m → s_GateMatrix_l1 k a b c n m (i : Int) ((List.range i).map fun j => vc (2 ^ n.toNat) (kq k) (gzs [(k, a, b, c)] (dl j))) = some (gmF (2 ^ n.toNat) (kq k) [(k, a, b, c)], true) := by
    intro m
    induction m with
    | zero => intro i _ h; omega
    | succ m ih =>
      intro i hi hm
      rw [s_GateMatrix_l1]
      simp only [hu, hs, hng, gd_true]
      by_cases e : i = 2 ^ n.toNat
      · have hlt : decide ((i : Int) < ((2 ^ n.toNat : Nat) : Int)) = false := by rw [e]; exact decide_eq_false (Int.lt_irrefl _)
        rw [hlt, br_false]
        unfold s_GateMatrix_j1
        have hf := s_cols (n := 2 ^ n.toNat) (fun j r => dq (kq k) (gzs [(k, a, b, c)] (dl j) r)) (by omega)
        unfold tbF at hf
        rw [e]
        unfold vc
        rw [hf, bO_some]
        rfl
      · have hil : i < 2 ^ n.toNat := by omega
        have hlt : decide ((i : Int) < ((2 ^ n.toNat : Nat) : Int)) = true := (fun x h => decide_eq_true (by omega) : ∀ x : Nat, i < x → decide ((i : Int) < (x : Int)) = true) _ hil
        have hg := s_ag (K := 0) (M := 1) (f := dl i) hv (by omega) (by omega) (dl_bd i)
        rw [Nat.zero_add] at hg
        rw [hlt, br_true, s_bs hn hil, bO_some, hg, bO_some]
        simp only
        rw [decide_eq_true (by simp; omega), gd_true, w64s (n := 17) (by omega) (by omega)]
        have := ih (i + 1) (by omega) (by omega)
        rw [List.range_succ, List.map_append] at this
        exact this
  unfold s_GateMatrix
  rw [s_ivg, hv, bO_some]
  simp only [Bool.not_true, br_false]
  exact key FU 0 (Nat.zero_le _) (by rw [FU_eq]; omega)
theorem s_eqm (m : List (List DQ)) (hl : m.length ≤ 4000000) (hr : ∀ r ∈ m, r.length ≤ 4000000) : s_EqualMatrix m m = some true := by
  unfold s_EqualMatrix
  rw [bne_self_eq_false, br_false]
  rw [loop_all0 (s_EqualMatrix_l1 m m) m.length (fun _ => true) hl (fun k i hk => ?_) (some true) (fun k => ?_)]
  · rw [List.all_eq_true.2 (fun _ _ => rfl)]; rfl
  · have hlt : decide ((i : Int) < (m.length : Int)) = true := decide_eq_true (by omega)
    rw [s_EqualMatrix_l1, hlt, br_true, geti_lt hk, bO_some, bO_some, s_eqs _ _ (hr _ (List.getElem_mem hk)), bO_some, beq_self_eq_true, w64s hk (by omega)]
    rfl
  · have hlt : decide ((m.length : Int) < (m.length : Int)) = false := decide_eq_false (by omega)
    rw [s_EqualMatrix_l1, hlt, br_false]
    rfl
/-- The three last steps: matrix times Pauli, Pauli times matrix, equality. -/
theorem s_both {N : Int} (h : 1 ≤ N ∧ N ≤ 4) {L : List GQ} {K : Nat} (hK : K ≤ 60) (hb : ∀ c, bdv 1073741824 (gzs L (dl c))) {p q : Gp N} (hc : Cj L p q) :
    ∃ m, s_MulMatrix (gmF (2 ^ N.toNat) K L) (pmL p.q) = some (m, true) ∧ s_MulMatrix (pmL q.q) (gmF (2 ^ N.toNat) K L) = some (m, true) ∧ s_EqualMatrix m m = some true := by
  have h16 : 2 ^ N.toNat ≤ 16 := by rcases four h with rfl | rfl | rfl | rfl <;> decide
  have hvd : ∀ r c, r < 2 ^ N.toNat → c < 2 ^ N.toNat → vd (dq K (gzs L (dl c) r)) = true := fun r c _ _ => dq_vd hK (hb c r)
  refine ⟨_, tb_pm h p hvd, ?_, s_eqm _ (by rw [tb_len]; omega) (fun r hr => ?_)⟩
  · rw [Er.eq (er_of_cj hK hb hc)]
    exact pm_tb' h q hvd
  · unfold tbF at hr
    obtain ⟨i, _, rfl⟩ := List.mem_map.1 hr
    simp; omega
theorem gzs_bd1 {L : List GQ} (h : hc L ≤ 24) (c : Nat) : bdv 1073741824 (gzs L (dl c)) := fun r => by
  have h1 := gzs_bd (e := 0) (L := L) (dl_bd c) r
  have h2 := pow24 (e := 0 + hc L) (by omega)
  exact bdz_mono (by omega) h1
end Go.Proofs.Ytbkkfmcjfbbkaaa
