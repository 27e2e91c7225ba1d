/- Plain laws: the matrix of a circuit; which circuits have a tableau. -/
import Derived.Test.YtplbdmigbakmlaaK6b
import Derived.Test.YtplbdmigbakmlaaKPvm
import Derived.Test.YtplbdmigbakmlaaKPvt
namespace Go.Proofs.Ytplbdmigbakmlaa
open Go.RowKit
set_option maxRecDepth 100000
set_option linter.unusedVariables false
set_option linter.unusedSimpArgs false
theorem s_cm {n : Int} (hn : 1 ≤ n ∧ n ≤ 4) {L : List GQ} (hl : L.length ≤ 1048576) (hv : vC n L = true) (hg : ∀ q ∈ L, ivg q.1 q.2.1 q.2.2.1 q.2.2.2 n = true) (hh : hc L ≤ 24) : s_CircuitMatrix n L = some (gmF (2 ^ n.toNat) (hc L) L, true) := by
  have h16 : 2 ^ n.toNat ≤ 16 := by rcases four hn with rfl | rfl | rfl | rfl <;> decide
  have hu : IntKind.wrap .u64 n = n := IntWalk.u64_in _ (by omega)
  have hs : IntKind.wrap .i64 (1 * 2 ^ min (Int.toNat n) (IntKind.bits .i64)) = ((2 ^ n.toNat : Nat) : Int) := by rcases four hn with rfl | rfl | rfl | rfl <;> decide
  have hng : decide (¬ n < 0) = true := decide_eq_true (by omega)
  have key : ∀ (m i : Nat), i ≤ 2 ^ n.toNat → 2 ^ n.toNat - i < m → s_l11Mat_l1 L n m (i : Int) ((List.range i).map fun j => vc (2 ^ n.toNat) (hc L) (gzs L (dl j))) = some (gmF (2 ^ n.toNat) (hc L) L, true) := by
    intro m
    induction m with
    | zero => intro i _ h; omega
    | succ m ih =>
      intro i hi hm
      rw [s_l11Mat_l1]
      simp only [hu, hs, hng, gd_true]
      by_cases e : i = 2 ^ n.toNat
      · have hlt : decide ((i : Int) < ((2 ^ n.toNat : Nat) : Int)) = false := by rw [e]; exact decide_eq_false (Int.lt_irrefl _)
        rw [hlt, br_false]
        unfold s_l11Mat_j1
        have hf := s_cols (n := 2 ^ n.toNat) (fun j r => dq (hc L) (gzs L (dl j) r)) (by omega)
        unfold tbF at hf
        rw [e]
        unfold vc
        rw [hf, bO_some]
        rfl
      · have hil : i < 2 ^ n.toNat := by omega
        have hlt : decide ((i : Int) < ((2 ^ n.toNat : Nat) : Int)) = true := (fun x h => decide_eq_true (by omega) : ∀ x : Nat, i < x → decide ((i : Int) < (x : Int)) = true) _ hil
        rw [hlt, br_true, s_bs hn hil, bO_some, s_run hn (by omega) hg hh i, bO_some]
        simp only [Bool.not_true, br_false]
        rw [decide_eq_true (by simp; omega), gd_true, w64s (n := 17) (by omega) (by omega)]
        have := ih (i + 1) (by omega) (by omega)
        rw [List.range_succ, List.map_append] at this
        exact this
  unfold s_CircuitMatrix
  rw [s_circ n L hl, hv, bO_some]
  simp only [Bool.not_true, br_false]
  unfold s_l11Mat
  have := key FU 0 (Nat.zero_le _) (by rw [FU_eq]; omega)
  rw [List.range_zero, List.map_nil] at this
  rw [show ((0 : Nat) : Int) = 0 from rfl] at this
  rw [this, bO_some]
theorem circ_no {N : Int} {g : List Q4} (hl : g.length ≤ 1048576) (hn : ¬ (vC N g = true ∧ ∀ q ∈ g, GateOk N q)) : s_CircuitTableau N g = some (0, [], false) := by
  unfold s_CircuitTableau
  rw [s_circ N g hl, bO_some]
  cases hv : vC N g with
  | false => rfl
  | true =>
    have h : 1 ≤ N ∧ N ≤ 4 := by
      unfold vC at hv
      simp only [Bool.and_eq_true, decide_eq_true_eq] at hv
      exact hv.2.1
    obtain ⟨i1, _, i3, i4⟩ := id_ok h
    have hn' : ¬ ∀ q ∈ g, GateOk N q := fun h' => hn ⟨hv, h'⟩
    rw [Bool.not_true, br_false, i1, bO_some]
    have key : ∀ (m j : Nat) (l : List Q4), j ≤ g.length → g.length - j < m → tB N l = true → l.length ≤ 1048576 → (∀ q ∈ g.take j, GateOk N q) → s_CircuitTableau_l1 g m (j : Int) N l = some (0, [], false) := by
      intro m
      induction m with
      | zero => intro j l _ h; omega
      | succ m ih =>
        intro j l hj hm ht hll hp
        by_cases e : j = g.length
        · rw [e, List.take_length] at hp
          exact absurd hp hn'
        · have hjl : j < g.length := by omega
          have hlt : decide ((j : Int) < (g.length : Int)) = true := decide_eq_true (by omega)
          rw [s_CircuitTableau_l1, hlt, br_true, geti_lt hjl, bO_some]
          by_cases hq : GateOk N g[j]
          · rw [tg_ok hll h hq.1 hq.2 ht, bO_some]
            simp only [Bool.not_true, br_false]
            rw [w64s (n := g.length) hjl (by omega)]
            refine ih (j + 1) _ (by omega) (by omega) (gmap_tB h hq.1 hq.2 ht) (by rw [List.length_map]; exact hll) (fun x hx => ?_)
            rw [List.take_succ_eq_append_getElem hjl] at hx
            rcases List.mem_append.1 hx with hx | hx
            · exact hp x hx
            · simp only [List.mem_cons, List.not_mem_nil, or_false] at hx
              rw [hx]; exact hq
          · have hf : (clif g[j].1 && ivg g[j].1 g[j].2.1 g[j].2.2.1 g[j].2.2.2 N) = false := by
              rw [Bool.eq_false_iff]
              intro h'
              rw [Bool.and_eq_true] at h'
              exact hq h'
            rw [tg_no hll (Or.inl hf), bO_some]
            rfl
    exact key FU 0 (idT N) (Nat.zero_le _) (by rw [FU_eq]; omega) i3 (by omega) (by simp)
end Go.Proofs.Ytplbdmigbakmlaa
