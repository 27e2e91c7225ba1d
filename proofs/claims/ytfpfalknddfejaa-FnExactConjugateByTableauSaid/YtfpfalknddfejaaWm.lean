/- Contracts: IsValidTableau of the program. -/
import Derived.Test.YtfpfalknddfejaaWl
namespace Go.Proofs.Ytfpfalknddfejaa
open Go.RowKit Pop
set_option maxRecDepth 100000
set_option linter.unusedVariables false
set_option linter.unusedSimpArgs false
set_option maxHeartbeats 4000000 in
theorem isValidTableau_impl_in (N : Int) (A : Option Addr) (n c : Nat) (l : List Quad) (w : World) (ha : SlQ w A n l) (hc : n ≤ c) (h1 : 1 ≤ N) (h4 : N ≤ 4) (hn : (n : Int) = 2 * N) :
    Calls Try.prog 49 #[.agg #[.int .i64 N, .slice A n c]] w fun e w' => e = .returned (.bool ((List.range n).all (rowB N l))) ∧ Below w.heap.size w w' := by
  have hin : inB N 1 4 = true := inB_true.2 ⟨h1, h4⟩
  obtain ⟨M, rfl⟩ := Int.eq_ofNat_of_zero_le (show 0 ≤ N by omega)
  obtain rfl : n = 2 * M := by omega
  clear hn
  have hl := Lib.hid ha.1
  have hcast : ((2 * M : Nat) : Int) = 2 * (M : Int) := by omega
  go_enter Try.func49, Try.ntmps49
  go_wp2_with (go_at_call 75; refine (in_any _ _ _ _).mono ?_; rintro e w' ⟨rfl, hw'⟩; rw [hw']; clear hw' w')
  go_loopw [23] (fun i wr => ∃ k : Nat, k ≤ 2 * M ∧ i = .int .i64 k ∧ Hid ((List.range k).all (rowB M l) = true) ∧ Below w.heap.size w wr ∧ w.heap.size < wr.heap.size ∧ Hid (wr.heap[w.heap.size]? = some (.cells #[.int .i64 (M : Int), .slice A (2 * M) c] 33 (0, 0)))) (fun i _ => 2 * M - (intOf i).toNat)
  case atStart => exact ⟨0, by omega, rfl, Lib.hid (by simp), (Below.refl _ _).alloc (Nat.le_refl _) _, by simp, Lib.hid (heap_alloc_new w _)⟩
  case round =>
    obtain ⟨k, hk, rfl, Hall, hbel, hsz, La⟩ := hrel
    obtain ⟨x0, x1, xf⟩ := blk2 La.out
    by_cases hlt : k < 2 * M
    · obtain ⟨ba, oa, a0, a1, a2, a3, rfl, la, ga, ca0, ca1, ca2, ca3⟩ := (ha.below hbel).at hlt
      have hk0 : (0 : Int) ≤ (k : Int) := Int.natCast_nonneg _
      have hk1 : (k : Int) < ((2 * M : Nat) : Int) := by omega
      have hk2 : (k : Int) < 2 * (M : Int) := by omega
      by_cases hN : a0 = M
      · subst hN
        cases hh : hermB M a1 a2 a3 with
        | false =>
          go_wp2_with fail
          refine (isHermitianPauli_impl _ _ _ _ _).mono ?_
          rintro e w1 ⟨rfl, b1⟩
          go_wp2_with fail
          go_ret
          refine ⟨ret_bool (all_no hlt (rowB_no2 ga.out hh)).symm, ?_⟩
          repeat' (first | (with_reducible exact Below.refl _ _) | (with_reducible refine below_drewN ?_ _) | (with_reducible refine Below.drew ?_) | (with_reducible refine Below.alloc ?_ ?_ _) | (with_reducible refine Below.setCell ?_ ?_ _) | (with_reducible refine Below.trans ?_ (Below.mono (by with_reducible assumption) ?_)) | go_size | (with_reducible refine Nat.le_trans ?_ (Below.size (by with_reducible assumption))))
        | true =>
          have Hh := Lib.hid hh
          go_wp2_with fail
          refine (isHermitianPauli_impl _ _ _ _ _).mono ?_
          rintro e w1 ⟨rfl, b1⟩
          have B1 : Below w.heap.size w w1 := by
            repeat' (first | (with_reducible exact Below.refl _ _) | (with_reducible refine below_drewN ?_ _) | (with_reducible refine Below.drew ?_) | (with_reducible refine Below.alloc ?_ ?_ _) | (with_reducible refine Below.setCell ?_ ?_ _) | (with_reducible refine Below.trans ?_ (Below.mono (by with_reducible assumption) ?_)) | go_size | (with_reducible refine Nat.le_trans ?_ (Below.size (by with_reducible assumption))))
          have hz1 := b1.size
          simp only [World.size_alloc, World.size_setCell] at hz1
          have La1 := Lib.hid ((b1.block w.heap.size (by simp; omega)).trans (by repeat' (first | (with_reducible exact (La).out) | ((with_reducible refine heap_alloc_at ?_); focus (first | (with_reducible rfl) | (simp only [World.size_alloc]; done))) | ((with_reducible apply heap_alloc_before); focus (first | omega | (simp only [World.size_alloc]; done) | (simp only [World.size_alloc]; omega))))))
          have Lp1 := Lib.hid ((b1.block wr.heap.size (by simp)).trans (by repeat' (first | (with_reducible exact (La).out) | ((with_reducible refine heap_alloc_at ?_); focus (first | (with_reducible rfl) | (simp only [World.size_alloc]; done))) | ((with_reducible apply heap_alloc_before); focus (first | omega | (simp only [World.size_alloc]; done) | (simp only [World.size_alloc]; omega))))))
          have hkc : (k : Int) ≤ (c : Int) := by omega
          clear b1 x0 x1 xf ca0 ca1 ca2 ca3 la La hbel
          obtain ⟨wo, hwo⟩ : ∃ wo : World, wo = wr := ⟨wr, rfl⟩
          obtain ⟨x0, x1, xf⟩ := blk2 La1.out
          obtain ⟨p0, p1, p2, p3, pf⟩ := blk4 Lp1.out
          generalize hps : wr.heap.size = P at *
          go_wp2_with fail
          clear x0 x1 xf p0 p1 p2 p3 pf hh
          go_loopw [43] (fun i wr => ∃ i' : Nat, i' ≤ k ∧ i = .int .i64 i' ∧ Hid ((List.range i').all (pairOk M l k) = true) ∧ Below w.heap.size w wr ∧ P < wr.heap.size ∧ Hid (wr.heap[w.heap.size]? = some (.cells #[.int .i64 (M : Int), .slice (some ⟨ba, oa, none⟩) (2 * M) c] 33 (0, 0))) ∧ Hid (wr.heap[P]? = some (.cells #[.int .i64 (M : Int), .int .i64 a1, .int .i64 a2, .int .i64 a3] 28 (0, 0)))) (fun i _ => k - (intOf i).toNat)
          case atStart => exact ⟨0, by omega, rfl, Lib.hid (by simp), B1, by omega, La1, Lp1⟩
          case round =>
            clear B1 La1 Lp1 hz1
            obtain ⟨i, hi, rfl, Hall2, hbel, hsz2, La, Lp⟩ := hrel
            obtain ⟨x0, x1, xf⟩ := blk2 La.out
            obtain ⟨p0, p1, p2, p3, pf⟩ := blk4 Lp.out
            by_cases hlt2 : i < k
            · obtain ⟨bb, ob, b0, d1, d2, d3, hB, lb, gb, cb0, cb1, cb2, cb3⟩ := (ha.below hbel).at (show i < 2 * M by omega)
              have hB1 : ba = bb := by injection hB with hB; injection hB
              have hB2 : oa = ob := by injection hB with hB; injection hB
              subst hB1 hB2
              have hi0 : (0 : Int) ≤ (i : Int) := Int.natCast_nonneg _
              have hi1 : (i : Int) < (k : Int) := by omega
              have hw : IntKind.i64.wrap ((i : Int) + (M : Int)) = (i : Int) + M := IntWalk.i64_in _ (by omega)
              have hP := Lib.hid (pairOk_eq (N := M) gb.out ga.out)
              have hP1 : P < wr.heap.size + 1 := by omega
              have hw1 : w.heap.size < wr.heap.size + 1 := by omega
              have hw0 : w.heap.size < wr.heap.size := by omega
              have hE : (commB d1 d2 a1 a2 == ((k : Int) == (i : Int) + M)) = !pairOk M l k i := by
                rw [hP.out]; by_cases hki : (k : Int) = (i : Int) + M <;> cases commB d1 d2 a1 a2 <;> simp [hki]
              go_wp2_with fail
              refine wp_region_later (by kernel_rfl) (by kernel_rfl) ?_
              repeat (any_goals (first | go_big_quiet_step ((go_at_call 42; exact later_of (paulisCommute_impl _ _ _ _ _ _ _ _ _))) | quiet_step ((go_at_call 42; exact later_of (paulisCommute_impl _ _ _ _ _ _ _ _ _))) | (refine wpQuiet_step (fun K hK => ?_); go_simp; split <;> (refine hK _ ?_; clear hK K))))
              all_goals (refine wpQuiet_nil ?_; intro _ hw'; obtain ⟨x2, hw''⟩ := hw'; subst hw''; have b2 := later_below _ x2; generalize later _ x2 = w2 at *; clear x2)
              clear hw
              try rw [hE]
              clear hE
              have B2 : Below w.heap.size w w2 := by
                repeat' (first | (with_reducible exact Below.refl _ _) | (with_reducible refine below_drewN ?_ _) | (with_reducible refine Below.drew ?_) | (with_reducible refine Below.alloc ?_ ?_ _) | (with_reducible refine Below.setCell ?_ ?_ _) | (with_reducible refine Below.trans ?_ (Below.mono (by with_reducible assumption) ?_)) | go_size | (with_reducible refine Nat.le_trans ?_ (Below.size (by with_reducible assumption))))
              cases hP2 : pairOk M l k i with
              | true =>
                have HP2 := Lib.hid hP2; clear hP2
                have La2 := Lib.hid ((b2.block w.heap.size (by simp; omega)).trans (by repeat' (first | (with_reducible exact (La).out) | ((with_reducible refine heap_alloc_at ?_); focus (first | (with_reducible rfl) | (simp only [World.size_alloc]; done))) | ((with_reducible apply heap_alloc_before); focus (first | omega | (simp only [World.size_alloc]; done) | (simp only [World.size_alloc]; omega))))))
                have Lp2 := Lib.hid ((b2.block P (by simp; omega)).trans (by repeat' (first | (with_reducible exact (Lp).out) | ((with_reducible refine heap_alloc_at ?_); focus (first | (with_reducible rfl) | (simp only [World.size_alloc]; done))) | ((with_reducible apply heap_alloc_before); focus (first | omega | (simp only [World.size_alloc]; done) | (simp only [World.size_alloc]; omega))))))
                have hz2 := b2.size
                simp only [World.size_alloc, World.size_setCell] at hz2
                go_wp2_with fail
                go_roundw
                case rel => exact ⟨i + 1, by omega, by go_num, Lib.hid (by rw [all_succ, Hall2.out, HP2.out]; rfl), B2, by omega, La2, Lp2⟩
                case measure => simp [intOf]; omega
              | false =>
                have HP2 := Lib.hid hP2; clear hP2
                go_wp2_with fail
                go_ret
                exact ⟨ret_bool (all_no hlt (rowB_no3 hlt2 HP2.out)).symm, B2⟩
            · obtain rfl : i = k := by omega
              go_wp2_with fail
              go_roundw
              case rel => exact ⟨i + 1, by omega, by go_num, Lib.hid (by rw [all_succ, Hall.out, rowB_yes ga.out Hh.out Hall2.out]; rfl), hbel, by omega, La⟩
              case measure => simp [intOf]; omega
      · have hN2 : (a0 != (M : Int)) = true := by simpa using hN
        go_wp2_with fail
        go_ret
        refine ⟨ret_bool (all_no hlt (rowB_no1 ga.out hN)).symm, ?_⟩
        repeat' (first | (with_reducible exact Below.refl _ _) | (with_reducible refine below_drewN ?_ _) | (with_reducible refine Below.drew ?_) | (with_reducible refine Below.alloc ?_ ?_ _) | (with_reducible refine Below.setCell ?_ ?_ _) | (with_reducible refine Below.trans ?_ (Below.mono (by with_reducible assumption) ?_)) | go_size | (with_reducible refine Nat.le_trans ?_ (Below.size (by with_reducible assumption))))
    · obtain rfl : k = 2 * M := by omega
      go_wp2_with fail
      go_ret
      exact ⟨ret_bool Hall.out.symm, hbel⟩
theorem isValidTableau_impl (N : Int) (A : Option Addr) (n c : Nat) (l : List Quad) (w : World) (ha : SlQ w A n l) (hc : n ≤ c) (hn : n ≤ 1048576) :
    Calls Try.prog 49 #[.agg #[.int .i64 N, .slice A n c]] w fun e w' => e = .returned (.bool (tabB N l)) ∧ Below w.heap.size w w' := by
  cases hin : inB N 1 4 with
  | false =>
    have e : tabB N l = false := by simp [tabB, hin]
    rw [e]
    clear e
    go_enter Try.func49, Try.ntmps49
    go_wp2_with (go_at_call 75; refine (in_any _ _ _ _).mono ?_; rintro e w' ⟨rfl, hw'⟩; rw [hw']; clear hw' w')
    go_ret
    refine ⟨rfl, ?_⟩
    repeat' (first | (with_reducible exact Below.refl _ _) | (with_reducible refine below_drewN ?_ _) | (with_reducible refine Below.drew ?_) | (with_reducible refine Below.alloc ?_ ?_ _) | (with_reducible refine Below.setCell ?_ ?_ _) | (with_reducible refine Below.trans ?_ (Below.mono (by with_reducible assumption) ?_)) | go_size | (with_reducible refine Nat.le_trans ?_ (Below.size (by with_reducible assumption))))
  | true =>
    obtain ⟨h1, h4⟩ := inB_true.1 hin
    by_cases hl : (n : Int) = 2 * N
    · have e : tabB N l = (List.range n).all (rowB N l) := by simp [tabB, hin, ha.1, hl]
      rw [e]
      exact isValidTableau_impl_in N A n c l w ha hc h1 h4 hl
    · have e : tabB N l = false := by simp [tabB, hin, ha.1, hl]
      rw [e]
      clear e
      have hl2 : ((n : Int) != 2 * N) = true := by simpa using hl
      go_enter Try.func49, Try.ntmps49
      go_wp2_with (go_at_call 75; refine (in_any _ _ _ _).mono ?_; rintro e w' ⟨rfl, hw'⟩; rw [hw']; clear hw' w')
      go_ret
      refine ⟨rfl, ?_⟩
      repeat' (first | (with_reducible exact Below.refl _ _) | (with_reducible refine below_drewN ?_ _) | (with_reducible refine Below.drew ?_) | (with_reducible refine Below.alloc ?_ ?_ _) | (with_reducible refine Below.setCell ?_ ?_ _) | (with_reducible refine Below.trans ?_ (Below.mono (by with_reducible assumption) ?_)) | go_size | (with_reducible refine Nat.le_trans ?_ (Below.size (by with_reducible assumption))))
end Go.Proofs.Ytfpfalknddfejaa
