/- Plain law: StabZ. -/
import Derived.Test.YtplbdmigbakmlaaKMLsZ
import Derived.Test.YtplbdmigbakmlaaKPmz
import Derived.Test.YtplbdmigbakmlaaK12
import Derived.Test.YtplbdmigbakmlaaK1
namespace Go.Proofs.Ytplbdmigbakmlaa
open Go.RowKit
set_option maxRecDepth 100000
set_option linter.unusedVariables false
set_option linter.unusedSimpArgs false
/-- Does a qubit show a value before some basis state? -/
def fl (F : Amp) (q : Nat) (b : Bool) (k : Nat) : Bool := (List.range k).any fun r => !decide (F r = (0, 0, 0, 0)) && (r.testBit q == b)
theorem fl_succ (F : Amp) (q : Nat) (b : Bool) (k : Nat) : fl F q b (k + 1) = (fl F q b k || (!decide (F k = (0, 0, 0, 0)) && (k.testBit q == b))) := by
  unfold fl; rw [List.range_succ, List.any_append]; simp
theorem fl_iff {F : Amp} {q : Nat} {b : Bool} {k : Nat} : fl F q b k = true ↔ ∃ r, r < k ∧ F r ≠ (0, 0, 0, 0) ∧ r.testBit q = b := by
  unfold fl
  rw [List.any_eq_true]
  constructor
  · rintro ⟨r, hr, h⟩
    rw [Bool.and_eq_true, beq_iff_eq, Bool.not_eq_true'] at h
    exact ⟨r, List.mem_range.1 hr, of_decide_eq_false h.1, h.2⟩
  · rintro ⟨r, hr, h1, h2⟩
    refine ⟨r, List.mem_range.2 hr, ?_⟩
    rw [Bool.and_eq_true, beq_iff_eq, Bool.not_eq_true']
    exact ⟨decide_eq_false h1, h2⟩
theorem bitz_fin : ∀ x : Fin 16, ∀ v : Fin 4, (bits .and .i64 (Int.fdiv (x.val : Int) (2 ^ min (Int.toNat (v.val : Int)) (IntKind.bits .i64))) 1 == 1) = (x.val.testBit v.val == true) ∧ (bits .and .i64 (Int.fdiv (x.val : Int) (2 ^ min (Int.toNat (v.val : Int)) (IntKind.bits .i64))) 1 == 0) = (x.val.testBit v.val == false) := by decide +kernel
theorem z_loop {D K : Nat} (hD : D ≤ 16) {G : Amp} {N : Int} {l : List Q4} {q : Nat} (hq : q < 4) (x3 : Int × Bool) : ∀ (m k : Nat), k ≤ D → D - k < m →
    l_FnStabZ_l1 (N, l, (q : Int)) x3 (vc D K G, true) m (fl G q false k) (fl G q true k) (k : Int) = l_FnStabZ_j3 x3 (fl G q false D) (fl G q true D) := by
  intro m
  induction m with
  | zero => intro k _ h; omega
  | succ m ih =>
    intro k hk hm
    rw [l_FnStabZ_l1]
    simp only []
    rw [vc_len]
    by_cases e : k = D
    · have hlt : decide ((k : Int) < (D : Int)) = false := decide_eq_false (by omega)
      rw [hlt, br_false, e]
    · have hil : k < D := by omega
      have hlt : decide ((k : Int) < (D : Int)) = true := decide_eq_true (by omega)
      have hng : decide (¬ (q : Int) < 0) = true := decide_eq_true (by omega)
      have hih := ih (k + 1) (by omega) (by omega)
      rw [fl_succ, fl_succ] at hih
      obtain ⟨hb1, hb0⟩ := bitz_fin ⟨k, by omega⟩ ⟨q, hq⟩
      simp only at hb1 hb0
      have hzz : decide (dq K (G k) = d0) = decide (G k = (0, 0, 0, 0)) := decide_eq_decide.2 dq_z
      rw [hlt, br_true, vc_geti hil, bO_some, d0_eq, hzz]
      simp only [l_FnStabZ_j9, l_FnStabZ_j8, u64_s (n := (q : Int)) (by omega), hng, gd_true, hb0, hb1]
      rw [w64s hil (by omega)]
      generalize fl G q false k = v0 at hih ⊢
      generalize fl G q true k = v1 at hih ⊢
      generalize decide (G k = (0, 0, 0, 0)) = bz at hih ⊢
      generalize k.testBit q = bk at hih ⊢
      cases bz <;> cases bk <;> cases v0 <;> cases v1 <;> exact hih
theorem meas_out {N : Int} {l : List Q4} {q : Int} (hl : l.length ≤ 1048576) (ho : ¬ (tB N l = true ∧ 0 ≤ q ∧ q < N)) : s_StabilizerMeasureZ N l q = some (0, false) := by
  unfold s_StabilizerMeasureZ
  rw [s_tab N l hl, bO_some]
  cases ht : tB N l with
  | false => rfl
  | true =>
    have h := (tB_len ht).1
    simp only [Bool.not_true, br_false, s_in_eq, bO_some]
    rw [w64 (x := N - 1) (by omega) (by omega), decide_eq_false (fun hc => ho ⟨ht, hc.1, by omega⟩)]
    rfl
/-- The measurement agrees with the state. -/
theorem meas_st {N : Int} (h : 1 ≤ N ∧ N ≤ 4) {l : List Q4} (ht : tB N l = true) {q : Nat} (hq : q < N.toNat) {r : Int × Bool} (hr : s_StabilizerMeasureZ N l (q : Int) = some r) {i : Nat}
    (hne : ∃ r, r < 2 ^ N.toNat ∧ prs (rwB h l) N.toNat (dl i) r ≠ (0, 0, 0, 0)) :
    l_FnStabZ_j3 r (fl (prs (rwB h l) N.toNat (dl i)) q false (2 ^ N.toNat)) (fl (prs (rwB h l) N.toNat (dl i)) q true (2 ^ N.toNat)) = some true := by
  obtain ⟨L, hL, he⟩ := tab_circ h ht
  have hLg := gok_of hL
  have hS := tab_cj h hL he
  have hF : ∀ j, j < N.toNat → ∀ r, r < 2 ^ N.toNat → paQ (rwB h l j).q (prs (rwB h l) N.toNat (dl i)) r = prs (rwB h l) N.toNat (dl i) r := fun j hj r hr => f_stab h hLg hS (dl i) hj hr
  rcases meas_s h ht hq with ⟨hm, hno⟩ | ⟨z, hz, hx, hzz, hm⟩
  · have e := Option.some.inj (hr.symm.trans hm)
    subst e
    have both : ∀ b, fl (prs (rwB h l) N.toNat (dl i)) q b (2 ^ N.toNat) = true := by
      intro b
      refine Classical.byContradiction fun hc => ?_
      have hb : ∀ r, r < 2 ^ N.toNat → prs (rwB h l) N.toNat (dl i) r ≠ (0, 0, 0, 0) → r.testBit q = !b := fun r hr hn => by
        have : ¬ r.testBit q = b := fun hb => hc (fl_iff.2 ⟨r, hr, hn, hb⟩)
        cases hbb : r.testBit q <;> cases b <;> first | rfl | exact absurd hbb this
      obtain ⟨c, hline⟩ := line h hLg hS (dl i)
      obtain ⟨z, hz, hx, hzq⟩ := found h (A := rwG h l) (B := rwB h l) hLg (fun p => by have := circ_cj h hL p; rw [he] at this; exact this) (fun p => ⟨_, circ_cj h (ivL_ok hL) p⟩) hline hne hq hb
      have hzt : ((z.toNat : Nat) : Int) = z := Int.toNat_of_nonneg hz.1
      refine hno z.toNat ?_ ?_
      · have h2 := hz.2
        rw [← hzt] at h2
        exact_mod_cast h2
      · rw [hzt]; exact ⟨hx, hzq⟩
    rw [both false, both true]
    rfl
  · have e := Option.some.inj (hr.symm.trans hm)
    subst e
    have hfix := fun r hr => prB_fix h (B := rwB h l) hF (z : Int) N.toNat (Nat.le_refl _) r hr
    obtain ⟨r0, hr0, hn0⟩ := hne
    rcases sure_bit h hfix hq hx hzz hr0 hn0 with ⟨hp, hb⟩ | ⟨hp, hb⟩
    · have f0 : fl (prs (rwB h l) N.toNat (dl i)) q false (2 ^ N.toNat) = true := fl_iff.2 ⟨r0, hr0, hn0, hb⟩
      have f1 : fl (prs (rwB h l) N.toNat (dl i)) q true (2 ^ N.toNat) = false := by
        cases hc : fl (prs (rwB h l) N.toNat (dl i)) q true (2 ^ N.toNat) with
        | false => rfl
        | true =>
          obtain ⟨r, hr, hn, hb2⟩ := fl_iff.1 hc
          rcases sure_bit h hfix hq hx hzz hr hn with ⟨_, hb3⟩ | ⟨hp3, _⟩
          · rw [hb2] at hb3; cases hb3
          · omega
      rw [f0, f1, hp]
      rfl
    · have f1 : fl (prs (rwB h l) N.toNat (dl i)) q true (2 ^ N.toNat) = true := fl_iff.2 ⟨r0, hr0, hn0, hb⟩
      have f0 : fl (prs (rwB h l) N.toNat (dl i)) q false (2 ^ N.toNat) = false := by
        cases hc : fl (prs (rwB h l) N.toNat (dl i)) q false (2 ^ N.toNat) with
        | false => rfl
        | true =>
          obtain ⟨r, hr, hn, hb2⟩ := fl_iff.1 hc
          rcases sure_bit h hfix hq hx hzz hr hn with ⟨hp3, _⟩ | ⟨_, hb3⟩
          · omega
          · rw [hb2] at hb3; cases hb3
      rw [f0, f1, hp]
      rfl
theorem fl_rtn (c : Nat) (F : Amp) (q : Nat) (b : Bool) (k : Nat) : fl (fun r => rtn c (F r)) q b k = fl F q b k := by
  unfold fl
  have e : ∀ r, decide (rtn c (F r) = (0, 0, 0, 0)) = decide (F r = (0, 0, 0, 0)) := fun r => decide_eq_decide.2 rtn_z
  simp only [e]
theorem law_StabZ (code : List Int) : l_FnStabZ code = some true := by
  unfold l_FnStabZ
  rw [big_eq, bO_some]
  by_cases hb : 1048576 < (code.length : Int)
  · simp only [hb, decide_true, br_true]
  simp only [hb, decide_false, br_false]
  have hd : Ok (s_DrawStabilizerMeasureZ code) (fun r => r.2.1.length ≤ 8) := by
    unfold s_DrawStabilizerMeasureZ
    exact (new_ok (by omega)).bO fun c hc => (dbent_ok hc).bO fun t ht => (below_ok ht.2).bO fun x hx => Ok.some ht.1
  obtain ⟨x2, e2, hx2⟩ := hd
  obtain ⟨N, l, q0⟩ := x2
  simp only at hx2
  rw [e2, bO_some]
  simp only []
  obtain ⟨r, hs, hi⟩ := meas_eq N l q0 (by omega)
  rw [hi, bO_some, hs, bO_some]
  simp only [bne_self_eq_false, br_false, bO_some, l_FnStabZ_j1]
  rw [s_tab N l (by omega), bO_some]
  by_cases ho : tB N l = true ∧ 0 ≤ q0 ∧ q0 < N
  · obtain ⟨ht, h0, hN⟩ := ho
    have h := (tB_len ht).1
    rw [ht, decide_eq_false (show ¬ q0 < 0 by omega)]
    simp only [Bool.not_true, br_false, bO_some]
    rw [decide_eq_false (show ¬ N ≤ q0 by omega)]
    unfold l_FnStabZ_j2
    rw [br_false]
    obtain ⟨q, rfl⟩ : ∃ q : Nat, q0 = (q : Int) := ⟨q0.toNat, by omega⟩
    obtain ⟨i, e, hi2, he, hne, _, hst⟩ := s_stst h ht
    simp only []
    rw [hst, bO_some]
    have hl := z_loop (D := 2 ^ N.toNat) (K := 2 * N.toNat) (pw16' h) (G := fun r => rtn (N.toNat - e) (prs (rwB h l) N.toNat (dl i) r)) (N := N) (l := l) (q := q) (by omega) r FU 0 (Nat.zero_le _) (by have := pw16' h; rw [FU_eq]; omega)
    simp only [fl_rtn] at hl
    rw [meas_st h ht (by omega) hs hne] at hl
    exact hl
  · rw [meas_out (by omega) ho] at hs
    have e := Option.some.inj hs
    subst e
    cases ht : tB N l with
    | false => rfl
    | true =>
      have h := (tB_len ht).1
      by_cases h0 : q0 < 0
      · rw [decide_eq_true h0]; rfl
      · have hN : N ≤ q0 := Int.not_lt.1 fun hc => ho ⟨ht, by omega, hc⟩
        rw [decide_eq_false h0]
        simp only [Bool.not_true, br_false, bO_some]
        rw [decide_eq_true hN]; rfl
theorem law_sz (A : Option Addr) (n c : Nat) (l : List Int) (w : World) (wa : IsBytesC w A n c l) :
    Calls Try.prog 5 #[.slice A n c] w fun e w' => e = .returned (.bool true) ∧ Below w.heap.size w w' :=
  spec_calls (l_FnStabZ_ok (law_StabZ l)) rfl (args1 (.plain (pv_bytes wa)))
end Go.Proofs.Ytplbdmigbakmlaa
