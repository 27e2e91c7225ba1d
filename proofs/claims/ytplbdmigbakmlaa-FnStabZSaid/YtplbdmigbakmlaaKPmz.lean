/- Plain laws: what a measured qubit shows. -/
import Derived.Test.YtplbdmigbakmlaaKPz
import Derived.Test.YtplbdmigbakmlaaKPvs
namespace Go.Proofs.Ytplbdmigbakmlaa
open Go.RowKit
set_option maxRecDepth 100000
set_option linter.unusedVariables false
set_option linter.unusedSimpArgs false
theorem in_m {N : Int} (h : 1 ≤ N ∧ N ≤ 4) {l : List Q4} (ht : tB N l = true) (x5 : Q4) {set : Nat} (hs : set < 16) (ks : Int → Option (Int × Bool)) :
    ∀ (m k : Nat), k ≤ N.toNat → N.toNat - k < m →
      s_StabilizerMeasureZ_l4 N l x5 (set : Int) ks m (k : Int) (prB h (rwB h l) (set : Int) k).q.1 (prB h (rwB h l) (set : Int) k).q.2.1 (prB h (rwB h l) (set : Int) k).q.2.2.1 (prB h (rwB h l) (set : Int) k).q.2.2.2 =
      s_StabilizerMeasureZ_j16 x5 (set : Int) ks (prB h (rwB h l) (set : Int) N.toNat).q.1 (prB h (rwB h l) (set : Int) N.toNat).q.2.1 (prB h (rwB h l) (set : Int) N.toNat).q.2.2.1 (prB h (rwB h l) (set : Int) N.toNat).q.2.2.2 := by
  intro m
  induction m with
  | zero => intro k _ h; omega
  | succ m ih =>
    intro k hk hm
    rw [s_StabilizerMeasureZ_l4]
    by_cases e : k = N.toNat
    · have hlt : decide ((k : Int) < N) = false := decide_eq_false (by omega)
      rw [hlt, br_false, e]
    · have hkl : k < N.toNat := by omega
      have hl8 := (tB_len ht).2
      have hlt : decide ((k : Int) < N) = true := decide_eq_true (by omega)
      have hng : decide (¬ (k : Int) < 0) = true := decide_eq_true (by omega)
      have hg : geti l (IntKind.wrap .i64 (N + (k : Int))) = some (rwB h l k).q := by
        rw [w64 (by omega) (by omega), show N + (k : Int) = ((N.toNat + k : Nat) : Int) by omega]
        exact geti_nat (rwG_q h ht (by omega))
      have hbe := bit_eq (x := (set : Int)) ⟨by omega, by omega⟩ (v := k) (by omega)
      rw [hlt, br_true, u64_s (by omega), hng, gd_true, hbe, hg, bO_some]
      have hih := ih (k + 1) (by omega) (by omega)
      rw [prB] at hih
      generalize prB h (rwB h l) (set : Int) k = P at hih ⊢
      generalize prB h (rwB h l) (set : Int) N.toNat = R at hih ⊢
      generalize rwB h l k = B at hih ⊢
      unfold s_StabilizerMeasureZ_j19
      rw [w64s (n := 5) (by omega) (by omega)]
      unfold Gp.pw at hih
      cases hb : bt (set : Int) k with
      | false =>
        rw [hb] at hih
        rw [br_false]
        exact hih
      | true =>
        rw [hb, if_pos rfl] at hih
        rw [br_true]
        have e2 : B.q.1 = P.q.1 := B.n.trans P.n.symm
        have hBv : vP (P.q.1, B.q.2.1, B.q.2.2.1, B.q.2.2.2) = true := by rw [← e2]; exact B.v
        have hm := s_mul (n := P.q.1) (x := P.q.2.1) (z := P.q.2.2.1) (p := P.q.2.2.2) (y := B.q.2.1) (w := B.q.2.2.1) (r := B.q.2.2.2) P.v hBv
        rw [e2, hm, bO_some]
        exact hih
/-- Measured: either no product of rows is Z or -Z on the qubit, or the sign of the first that is. -/
theorem meas_s {N : Int} (h : 1 ≤ N ∧ N ≤ 4) {l : List Q4} (ht : tB N l = true) {q : Nat} (hq : q < N.toNat) :
    (s_StabilizerMeasureZ N l (q : Int) = some (0, false) ∧ ∀ z : Nat, z < 2 ^ N.toNat → ¬ ((prB h (rwB h l) (z : Int) N.toNat).q.2.1 = 0 ∧ (prB h (rwB h l) (z : Int) N.toNat).q.2.2.1 = 2 ^ q)) ∨
    ∃ z : Nat, z < 2 ^ N.toNat ∧ (prB h (rwB h l) (z : Int) N.toNat).q.2.1 = 0 ∧ (prB h (rwB h l) (z : Int) N.toNat).q.2.2.1 = 2 ^ q ∧ s_StabilizerMeasureZ N l (q : Int) = some (IntKind.wrap .i64 (Int.tdiv (prB h (rwB h l) (z : Int) N.toNat).q.2.2.2 2), true) := by
  have h16 := pw16' h
  have hl8 := (tB_len ht).2
  have hu : IntKind.wrap .u64 N = N := IntWalk.u64_in _ (by omega)
  have hs : IntKind.wrap .i64 (1 * 2 ^ min (Int.toNat N) (IntKind.bits .i64)) = ((2 ^ N.toNat : Nat) : Int) := by rcases four h with rfl | rfl | rfl | rfl <;> decide
  have hng : decide (¬ N < 0) = true := decide_eq_true (by omega)
  have key : ∀ (m k : Nat), k ≤ 2 ^ N.toNat → 2 ^ N.toNat - k < m → (∀ z : Nat, z < k → ¬ ((prB h (rwB h l) (z : Int) N.toNat).q.2.1 = 0 ∧ (prB h (rwB h l) (z : Int) N.toNat).q.2.2.1 = 2 ^ q)) →
      (s_StabilizerMeasureZ_l1 N l (N, 0, 2 ^ q, 0) m (k : Int) = some (0, false) ∧ ∀ z : Nat, z < 2 ^ N.toNat → ¬ ((prB h (rwB h l) (z : Int) N.toNat).q.2.1 = 0 ∧ (prB h (rwB h l) (z : Int) N.toNat).q.2.2.1 = 2 ^ q)) ∨
      ∃ z : Nat, z < 2 ^ N.toNat ∧ (prB h (rwB h l) (z : Int) N.toNat).q.2.1 = 0 ∧ (prB h (rwB h l) (z : Int) N.toNat).q.2.2.1 = 2 ^ q ∧ s_StabilizerMeasureZ_l1 N l (N, 0, 2 ^ q, 0) m (k : Int) = some (IntKind.wrap .i64 (Int.tdiv (prB h (rwB h l) (z : Int) N.toNat).q.2.2.2 2), true) := by
    intro m
    induction m with
    | zero => intro k _ h; omega
    | succ m ih =>
      intro k hk hm hz
      rw [s_StabilizerMeasureZ_l1, hu, hng, gd_true, hs]
      by_cases ek : k = 2 ^ N.toNat
      · have hlt : decide ((k : Int) < ((2 ^ N.toNat : Nat) : Int)) = false := by rw [ek]; exact decide_eq_false (Int.lt_irrefl _)
        rw [hlt, br_false]
        exact Or.inl ⟨rfl, fun z hz' => hz z (by omega)⟩
      · have hkl : k < 2 ^ N.toNat := by omega
        have hlt : decide ((k : Int) < ((2 ^ N.toNat : Nat) : Int)) = true := (fun x h => decide_eq_true (by omega) : ∀ x : Nat, k < x → decide ((k : Int) < (x : Int)) = true) _ hkl
        have hin := in_m h ht (N, 0, 2 ^ q, 0) (set := k) (by omega) (s_StabilizerMeasureZ_l1 N l (N, 0, 2 ^ q, 0) m) FU 0 (Nat.zero_le _) (by rw [FU_eq]; omega)
        rw [hlt, br_true]
        rw [show (prB h (rwB h l) (k : Int) 0).q = (N, 0, 0, 0) from rfl] at hin
        rw [show ((0 : Nat) : Int) = 0 from rfl] at hin
        rw [hin]
        unfold s_StabilizerMeasureZ_j16
        rw [br_and]
        simp only []
        unfold s_StabilizerMeasureZ_j20 s_StabilizerMeasureZ_j15
        rw [w64s (n := 17) (by omega) (by omega)]
        cases hb : ((prB h (rwB h l) (k : Int) N.toNat).q.2.1 == 0 && (prB h (rwB h l) (k : Int) N.toNat).q.2.2.1 == 2 ^ q) with
        | true =>
          rw [br_true]
          simp only [Bool.and_eq_true, beq_iff_eq] at hb
          exact Or.inr ⟨k, hkl, hb.1, hb.2, rfl⟩
        | false =>
          rw [br_false]
          refine ih (k + 1) (by omega) (by omega) (fun z hz' => ?_)
          by_cases ez : z = k
          · subst ez
            intro hc
            rw [hc.1, hc.2] at hb
            simp at hb
          · exact hz z (by omega)
  have hin : (q : Int) ≤ N - 1 := by omega
  have heq : s_StabilizerMeasureZ N l (q : Int) = s_StabilizerMeasureZ_l1 N l (N, 0, 2 ^ q, 0) FU 0 := by
    unfold s_StabilizerMeasureZ
    rw [s_tab N l (by omega), bO_some, ht]
    simp only [Bool.not_true, br_false, s_in_eq, bO_some]
    rw [w64 (x := N - 1) (by omega) (by omega), decide_eq_true (show 0 ≤ (q : Int) ∧ (q : Int) ≤ N - 1 from ⟨by omega, hin⟩)]
    have hq0 : ¬ (q : Int) < 0 := by omega
    simp only [Bool.not_true, bO_some, s_StabilizerMeasureZ_j1, br_false, s_l25Single, br_true, u64_s (n := (q : Int)) (by omega), hq0, not_false_eq_true, decide_true, gd_true, sh4 (n := (q : Int)) (by omega), bO_some]
    rw [Int.toNat_natCast]
  rw [heq]
  have hk := key FU 0 (Nat.zero_le _) (by rw [FU_eq]; omega) (fun z hz => by omega)
  rw [show ((0 : Nat) : Int) = 0 from rfl] at hk
  exact hk
end Go.Proofs.Ytplbdmigbakmlaa
