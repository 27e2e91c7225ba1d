/- Plain law: StabilizerMeasureZ. -/
import Derived.Test.YtplbdmigbakmlaaKMcz
import Derived.Test.YtplbdmigbakmlaaK9
import Derived.Test.YtplbdmigbakmlaaK8
namespace Go.Proofs.Ytplbdmigbakmlaa
open Go.RowKit
set_option maxRecDepth 100000
set_option linter.unusedVariables false
set_option linter.unusedSimpArgs false
theorem sh4 {n : Int} (h : 0 ≤ n ∧ n ≤ 4) : IntKind.wrap .i64 (1 * 2 ^ min (Int.toNat n) (IntKind.bits .i64)) = 2 ^ n.toNat := by
  have : n = 0 ∨ n = 1 ∨ n = 2 ∨ n = 3 ∨ n = 4 := by omega
  rcases this with rfl | rfl | rfl | rfl | rfl <;> rfl
theorem bit_or (x : Int) (k : Nat) : True := trivial
theorem in_z {N : Int} {l : List Q4} (hl : l.length ≤ 1048576) (h : tB N l = true) (x5 : Q4) (vs set : Int) (ks ki : Int → Option (Int × Bool)) :
    ∀ (m k : Nat) (p : Q4), (k : Int) ≤ N → N - k < m → InvS N l p → ∃ p', InvS N l p' ∧
      s_StabilizerMeasureZ_l4 N l x5 set ks m k p.1 p.2.1 p.2.2.1 p.2.2.2 = s_StabilizerMeasureZ_j16 x5 set ks p'.1 p'.2.1 p'.2.2.1 p'.2.2.2 ∧
      i_StabilizerMeasureZ_l6 N l vs set ki m k p.1 p.2.1 p.2.2.1 p.2.2.2 = i_StabilizerMeasureZ_j17 vs set ki p'.1 p'.2.1 p'.2.2.1 p'.2.2.2
  | 0, k, p, hk, hm, _ => by omega
  | m + 1, k, p, hk, hm, hp => by
    obtain ⟨h1, h2, h3⟩ := tB_inv2 h
    rw [s_StabilizerMeasureZ_l4, i_StabilizerMeasureZ_l6]
    by_cases e : (k : Int) = N
    · have hlt : ¬ (k : Int) < N := by omega
      refine ⟨p, hp, ?_, ?_⟩
      · simp only [hlt, decide_false, br_false]
      · simp only [hlt, decide_false, br_false]
    · have hlt : (k : Int) < N := by omega
      have h0 : ¬ (k : Int) < 0 := by omega
      obtain ⟨n, rfl⟩ : ∃ n : Nat, N = (n : Int) := ⟨N.toNat, by omega⟩
      have hkl : n + k < l.length := by omega
      have hq := List.getElem?_eq_getElem hkl
      obtain ⟨e1, e2⟩ := row_vP h hq
      have hpq := hp.mul h hq (by omega)
      have hg : geti l (IntKind.wrap .i64 ((n : Int) + (k : Int))) = some l[n + k] := by
        rw [w64 (by omega) (by omega)]
        exact_mod_cast geti_nat hq
      have hw : IntKind.wrap .i64 ((k : Int) + 1) = ((k + 1 : Nat) : Int) := by rw [w64 (by omega) (by omega)]; omega
      simp only [hlt, decide_true, br_true, u64_s (n := (k : Int)) (by omega), h0, not_false_eq_true, gd_true, hg, bO_some, s_StabilizerMeasureZ_j19, i_StabilizerMeasureZ_j20, hw]
      obtain ⟨p0, p1, p2, p3⟩ := p
      have hp1 : p0 = (n : Int) := hp.1
      generalize l[n + k] = qq at e1 e2 hpq ⊢
      obtain ⟨q0, q1, q2, q3⟩ := qq
      have e1 : q0 = (n : Int) := e1
      subst hp1 e1
      have hpv := hp.2.1
      simp only [s_mul hpv e2, i_mul hpv e2, bO_some]
      cases (bits .and .i64 (Int.fdiv set (2 ^ min (Int.toNat (k : Int)) (IntKind.bits .i64))) 1 == 1) with
      | true =>
        simp only [br_true]
        exact in_z hl h x5 vs set ks ki m (k + 1) _ (by omega) (by omega) hpq
      | false =>
        simp only [br_false]
        exact in_z hl h x5 vs set ks ki m (k + 1) _ (by omega) (by omega) hp
theorem top_z {N : Int} (h : 1 ≤ N ∧ N ≤ 4) : IntKind.wrap .i64 (1 * 2 ^ min (Int.toNat N) (IntKind.bits .i64)) ≤ 16 := by
  rw [sh4 (by omega)]; exact pow_le h
/-- Both searches answer alike. -/
theorem out_z {N : Int} {l : List Q4} (hl : l.length ≤ 1048576) (h : tB N l = true) (vs : Int) :
    ∀ (m set : Nat), 17 ≤ m + set → 0 < m → ∃ r, s_StabilizerMeasureZ_l1 N l (N, 0, vs, 0) m set = some r ∧ i_StabilizerMeasureZ_l3 N l vs m set = some r
  | 0, set, _, h0 => by omega
  | m + 1, set, hm, _ => by
    obtain ⟨h1, h2, h3⟩ := tB_inv2 h
    have ht := top_z h1
    have hN0 : ¬ N < 0 := by omega
    rw [s_StabilizerMeasureZ_l1, i_StabilizerMeasureZ_l3]
    simp only [u64_s (n := N) (by omega), hN0, not_false_eq_true, decide_true, gd_true]
    by_cases hs : (set : Int) < IntKind.wrap .i64 (1 * 2 ^ min (Int.toNat N) (IntKind.bits .i64))
    · obtain ⟨p', hp', e1, e2⟩ := in_z hl h (N, 0, vs, 0) vs set (s_StabilizerMeasureZ_l1 N l (N, 0, vs, 0) m) (i_StabilizerMeasureZ_l3 N l vs m) FU 0 (N, 0, 0, 0) (by omega) (by rw [FU_eq]; omega) (InvS.one h)
      simp only [hs, decide_true, br_true]
      rw [show ((0 : Nat) : Int) = 0 from rfl] at e1 e2
      rw [e1, e2]
      have hw : IntKind.wrap .i64 ((set : Int) + 1) = ((set + 1 : Nat) : Int) := by rw [w64 (by omega) (by omega)]; omega
      simp only [s_StabilizerMeasureZ_j16, i_StabilizerMeasureZ_j17, br_and, s_StabilizerMeasureZ_j20, i_StabilizerMeasureZ_j21, s_StabilizerMeasureZ_j15, i_StabilizerMeasureZ_j16, hw]
      cases (p'.2.1 == 0 && p'.2.2.1 == vs) with
      | true => exact ⟨_, rfl, rfl⟩
      | false =>
        simp only [br_false]
        exact out_z hl h vs m (set + 1) (by omega) (by omega)
    · simp only [hs, decide_false, br_false]
      exact ⟨_, rfl, rfl⟩
/-- Where a stabilizer row does not commute with Z, no product is Z. -/
theorem none_z {N : Int} {l : List Q4} (hl : l.length ≤ 1048576) (h : tB N l = true) (vs : Int) {j : Nat} {r : Q4} (hj : N ≤ j) (hr : l[j]? = some r) (hc : cP r (N, 0, vs, 0) = false) :
    ∀ (m set : Nat), 17 ≤ m + set → 0 < m → s_StabilizerMeasureZ_l1 N l (N, 0, vs, 0) m set = some (0, false)
  | 0, set, _, h0 => by omega
  | m + 1, set, hm, _ => by
    obtain ⟨h1, h2, h3⟩ := tB_inv2 h
    have ht := top_z h1
    have hN0 : ¬ N < 0 := by omega
    rw [s_StabilizerMeasureZ_l1]
    simp only [u64_s (n := N) (by omega), hN0, not_false_eq_true, decide_true, gd_true]
    by_cases hs : (set : Int) < IntKind.wrap .i64 (1 * 2 ^ min (Int.toNat N) (IntKind.bits .i64))
    · obtain ⟨p', hp', e1, e2⟩ := in_z hl h (N, 0, vs, 0) vs set (s_StabilizerMeasureZ_l1 N l (N, 0, vs, 0) m) (i_StabilizerMeasureZ_l3 N l vs m) FU 0 (N, 0, 0, 0) (by omega) (by rw [FU_eq]; omega) (InvS.one h)
      simp only [hs, decide_true, br_true]
      rw [show ((0 : Nat) : Int) = 0 from rfl] at e1
      rw [e1]
      have hw : IntKind.wrap .i64 ((set : Int) + 1) = ((set + 1 : Nat) : Int) := by rw [w64 (by omega) (by omega)]; omega
      simp only [s_StabilizerMeasureZ_j16, br_and, s_StabilizerMeasureZ_j20, s_StabilizerMeasureZ_j15, hw]
      cases hb : (p'.2.1 == 0 && p'.2.2.1 == vs) with
      | true =>
        simp only [Bool.and_eq_true, beq_iff_eq] at hb
        have hcc := hp'.2.2 j r hj hr
        unfold cP at hc hcc
        rw [hb.1, hb.2] at hcc
        rw [hcc] at hc
        cases hc
      | false =>
        simp only [br_false]
        exact none_z hl h vs hj hr hc m (set + 1) (by omega) (by omega)
    · simp only [hs, decide_false, br_false]
      rfl
theorem zq_v {N q : Int} (h : 1 ≤ N ∧ N ≤ 4) (hq : 0 ≤ q ∧ q ≤ N - 1) : vP (N, 0, 2 ^ q.toNat, 0) = true := by
  have h2 : q = 0 ∨ q = 1 ∨ q = 2 ∨ q = 3 := by omega
  rcases four h with rfl | rfl | rfl | rfl <;> rcases h2 with rfl | rfl | rfl | rfl <;> first | rfl | omega
theorem slc_end {α : Type} {l : List α} {k : Nat} (h : k ≤ l.length) : slc l (k : Int) (l.length : Int) = some (l.drop k) := by
  unfold slc
  rw [if_pos ⟨by omega, by omega, by omega⟩]
  have : (l.drop k).length ≤ l.length - k := by simp
  simp [List.take_of_length_le this]
theorem meas_eq (N : Int) (l : List Q4) (q : Int) (hl : l.length ≤ 1048576) : ∃ r, s_StabilizerMeasureZ N l q = some r ∧ i_StabilizerMeasureZ N l q = some r := by
  unfold s_StabilizerMeasureZ i_StabilizerMeasureZ
  rw [s_tab N l hl, i_tab N l hl, bO_some, bO_some]
  cases h : tB N l with
  | false => exact ⟨(0, false), rfl, rfl⟩
  | true =>
    obtain ⟨h1, h2, h3⟩ := tB_inv2 h
    simp only [Bool.not_true, br_false, s_in_eq, i_in_eq, bO_some]
    rw [w64 (x := N - 1) (by omega) (by omega)]
    by_cases hq : 0 ≤ q ∧ q ≤ N - 1
    · have hq0 : ¬ q < 0 := by omega
      simp only [hq, and_self, decide_true, Bool.not_true, s_StabilizerMeasureZ_j1, i_StabilizerMeasureZ_j1, br_false, s_l25Single, br_true, u64_s (n := q) (by omega), hq0, not_false_eq_true, gd_true, sh4 (n := q) (by omega), bO_some]
      obtain ⟨n, rfl⟩ : ∃ n : Nat, N = (n : Int) := ⟨N.toNat, by omega⟩
      rw [slc_end (by omega), bO_some]
      obtain ⟨vs, hvs⟩ : ∃ vs, vs = (2 : Int) ^ q.toNat := ⟨_, rfl⟩
      have hz := zq_v h1 hq
      rw [← hvs] at hz ⊢
      rw [loop_allG0 (fun m k => i_StabilizerMeasureZ_l2 n l (l.drop n) m ((l.drop n).length : Int) k vs) (l.drop n).length (fun k => match (l.drop n)[k]? with | some r => cP r (n, 0, vs, 0) | none => false) (some (0, false)) (by simp; omega) (fun m k hk => ?_) (i_StabilizerMeasureZ_l3 n l vs FU 0) (fun m => ?_)]
      · cases ha : (List.range (l.drop n).length).all (fun k => match (l.drop n)[k]? with | some r => cP r (n, 0, vs, 0) | none => false) with
        | true =>
          rw [br_true]
          exact out_z hl h vs FU 0 (by rw [FU_eq]; omega) (by rw [FU_eq]; omega)
        | false =>
          rw [br_false]
          refine ⟨_, ?_, rfl⟩
          rw [List.all_eq_false] at ha
          obtain ⟨k, hk, hc⟩ := ha
          rw [List.mem_range] at hk
          have hr := List.getElem?_eq_getElem hk
          rw [hr] at hc
          simp only [Bool.not_eq_true] at hc
          exact none_z hl h vs (j := n + k) (by omega) (by rw [← hr, List.getElem?_drop]) hc FU 0 (by rw [FU_eq]; omega) (by rw [FU_eq]; omega)
      · have hr := List.getElem?_eq_getElem hk
        obtain ⟨e1, e2⟩ := row_vP h (k := n + k) (by rw [← hr, List.getElem?_drop])
        have hlt : (k : Int) < ((l.drop n).length : Int) := by omega
        have hlen : (l.drop n).length ≤ 1048576 := by simp; omega
        show i_StabilizerMeasureZ_l2 n l (l.drop n) (m + 1) ((l.drop n).length : Int) k vs = _
        rw [i_StabilizerMeasureZ_l2, geti_nat hr, hr, w64s hk (by omega)]
        simp only [hlt, decide_true, br_true, bO_some]
        rw [i_comm (by exact e2) (by exact hz), bO_some]
        show br (!(cP (l.drop n)[k] (n, 0, vs, 0))) _ _ = br (cP (l.drop n)[k] (n, 0, vs, 0)) _ _
        cases cP (l.drop n)[k] (n, 0, vs, 0) <;> rfl
      · have hlt : ¬ ((l.drop n).length : Int) < ((l.drop n).length : Int) := by omega
        show i_StabilizerMeasureZ_l2 n l (l.drop n) (m + 1) ((l.drop n).length : Int) ((l.drop n).length : Int) vs = _
        rw [i_StabilizerMeasureZ_l2]
        simp only [hlt, decide_false, br_false, i_StabilizerMeasureZ_j2]
    · simp only [hq, decide_false, Bool.not_false]
      exact ⟨(0, false), rfl, rfl⟩
end Go.Proofs.Ytplbdmigbakmlaa
