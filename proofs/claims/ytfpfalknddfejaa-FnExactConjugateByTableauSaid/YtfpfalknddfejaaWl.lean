/- Contracts: IsValidTableau. -/
import Derived.Test.YtfpfalknddfejaaWg
import Derived.Test.YtfpfalknddfejaaWb
import Derived.Test.YtfpfalknddfejaaIn
namespace Go.Proofs.Ytfpfalknddfejaa
open Go.RowKit Pop
set_option maxRecDepth 100000
set_option linter.unusedVariables false
set_option linter.unusedSimpArgs false
def qv (q : Quad) : Bool := hermB q.1 q.2.1 q.2.2.1 q.2.2.2
def pairOk (N : Int) (l : List Quad) (k i : Nat) : Bool := match l[i]?, l[k]? with
  | some r, some q => commB r.2.1 r.2.2.1 q.2.1 q.2.2.1 != decide ((k : Int) = i + N)
  | _, _ => true
def rowB (N : Int) (l : List Quad) (k : Nat) : Bool := (match l[k]? with | some q => decide (q.1 = N) && qv q | none => true) && (List.range k).all (pairOk N l k)
def tabB (N : Int) (l : List Quad) : Bool := inB N 1 4 && (decide ((l.length : Int) = 2 * N) && (List.range l.length).all (rowB N l))
theorem all_succ (p : Nat → Bool) (k : Nat) : (List.range (k + 1)).all p = ((List.range k).all p && p k) := by
  rw [List.range_succ, List.all_append]; simp
theorem all_no {p : Nat → Bool} {k n : Nat} (hk : k < n) (h : p k = false) : (List.range n).all p = false := by
  rw [List.all_eq_false]; exact ⟨k, List.mem_range.2 hk, by simp [h]⟩
theorem pairOk_eq {N : Int} {l : List Quad} {k i : Nat} {a0 a1 a2 a3 b0 b1 b2 b3 : Int} (hi : l[i]? = some (a0, a1, a2, a3)) (hk : l[k]? = some (b0, b1, b2, b3)) : pairOk N l k i = (commB a1 a2 b1 b2 != decide ((k : Int) = i + N)) := by
  simp only [pairOk, hi, hk]
theorem rowB_no1 {N : Int} {l : List Quad} {k : Nat} {a0 a1 a2 a3 : Int} (hk : l[k]? = some (a0, a1, a2, a3)) (h : ¬ a0 = N) : rowB N l k = false := by simp [rowB, hk, h]
theorem rowB_no2 {N : Int} {l : List Quad} {k : Nat} {a0 a1 a2 a3 : Int} (hk : l[k]? = some (a0, a1, a2, a3)) (h : hermB a0 a1 a2 a3 = false) : rowB N l k = false := by simp [rowB, hk, qv, h]
theorem rowB_no3 {N : Int} {l : List Quad} {k i : Nat} (hi : i < k) (h : pairOk N l k i = false) : rowB N l k = false := by simp only [rowB, all_no hi h, Bool.and_false]
theorem rowB_yes {N : Int} {l : List Quad} {k : Nat} {a1 a2 a3 : Int} (hk : l[k]? = some (N, a1, a2, a3)) (h : hermB N a1 a2 a3 = true) (h2 : (List.range k).all (pairOk N l k) = true) : rowB N l k = true := by
  simp [rowB, hk, qv, h, h2]
theorem tabB_len {N : Int} {l : List Quad} (h : tabB N l = true) : 1 ≤ N ∧ N ≤ 4 ∧ (l.length : Int) = 2 * N := by
  simp only [tabB, Bool.and_eq_true, decide_eq_true_eq] at h
  exact ⟨(inB_true.1 h.1).1, (inB_true.1 h.1).2, h.2.1⟩
theorem tabB_row {N : Int} {l : List Quad} (h : tabB N l = true) {k : Nat} {q : Quad} (hk : l[k]? = some q) : q.1 = N ∧ hermB q.1 q.2.1 q.2.2.1 q.2.2.2 = true := by
  simp only [tabB, Bool.and_eq_true, decide_eq_true_eq] at h
  have hl : k < l.length := by
    rcases Nat.lt_or_ge k l.length with h' | h'
    · exact h'
    · rw [List.getElem?_eq_none h'] at hk; cases hk
  have := List.all_eq_true.1 h.2.2 k (List.mem_range.2 hl)
  simp only [rowB, hk, qv, Bool.and_eq_true, decide_eq_true_eq] at this
  exact this.1
set_option maxHeartbeats 6000000 in
theorem isValidTableau_spec_in (N : Int) (A : Option Addr) (n c : Nat) (l : List Quad) (w : World) (ha : SlQ w A n l) (h1 : 1 ≤ N) (h4 : N ≤ 4) (hn : (n : Int) = 2 * N) :
    Calls Try.prog 68 #[.agg #[.int .i64 N, .slice A n c]] w fun e w' => e = .returned (.bool ((List.range n).all (rowB N l))) ∧ Below w.heap.size w w' := by
  have hin : inB N 1 4 = true := inB_true.2 ⟨h1, h4⟩
  obtain ⟨M, rfl⟩ := Int.eq_ofNat_of_zero_le (show 0 ≤ N by omega)
  obtain rfl : n = 2 * M := by omega
  clear hn
  have hl := Lib.hid ha.1
  have hcast : ((2 * M : Nat) : Int) = 2 * (M : Int) := by omega
  go_enter Try.func68, Try.ntmps68
  go_wp2_with (go_at_call 73; refine (l1In_any _ _ _ _).mono ?_; rintro e w' ⟨rfl, hw'⟩; rw [hw']; clear hw' w')
  go_loopw [3] (fun i wr => ∃ k : Nat, k ≤ 2 * M ∧ i = .int .i64 k ∧ Hid ((List.range k).all (rowB M l) = true) ∧ Below w.heap.size w wr ∧ w.heap.size < wr.heap.size ∧ Hid (wr.heap[w.heap.size]? = some (.cells #[.int .i64 (M : Int), .slice A (2 * M) c] 33 (0, 0)))) (fun i _ => 2 * M - (intOf i).toNat)
  case atStart => exact ⟨0, by omega, rfl, Lib.hid (by simp), (Below.refl _ _).alloc (Nat.le_refl _) _, by simp, Lib.hid (heap_alloc_new w _)⟩
  case round =>
    obtain ⟨k, hk, rfl, Hall, hbel, hsz, La⟩ := hrel
    obtain ⟨x0, x1, xf⟩ := blk2 La.out
    by_cases hlt : k < 2 * M
    · obtain ⟨ba, oa, a0, a1, a2, a3, rfl, la, ga, ca0, ca1, ca2, ca3⟩ := (ha.below hbel).at hlt
      have hk0 : (0 : Int) ≤ (k : Int) := Int.natCast_nonneg _
      have hk1 : (k : Int) < ((2 * M : Nat) : Int) := by omega
      have hk2 : (k : Int) < 2 * (M : Int) := by omega
      by_cases hN : a0 = M
      · subst hN
        cases hh : hermB M a1 a2 a3 with
        | false =>
          go_wp2_with fail
          refine wp_region_later (by kernel_rfl) (by kernel_rfl) ?_
          repeat (any_goals (first | go_big_quiet_step ((go_at_call 109; exact later_of (isHermitianPauli_spec _ _ _ _ _))) | quiet_step ((go_at_call 109; exact later_of (isHermitianPauli_spec _ _ _ _ _))) | (refine wpQuiet_step (fun K hK => ?_); go_simp; split <;> (refine hK _ ?_; clear hK K))))
          all_goals (refine wpQuiet_nil ?_; intro _ hw'; obtain ⟨x1, hw''⟩ := hw'; subst hw''; have b1 := later_below _ x1; generalize later _ x1 = w1 at *; clear x1)
          go_wp2_with fail
          go_ret
          exact ⟨ret_bool (all_no hlt (rowB_no2 ga.out hh)).symm, hbel.trans (b1.mono hbel.size)⟩
        | true =>
          have Hh := Lib.hid hh
          go_wp2_with fail
          refine wp_region_later (by kernel_rfl) (by kernel_rfl) ?_
          repeat (any_goals (first | go_big_quiet_step ((go_at_call 109; exact later_of (isHermitianPauli_spec _ _ _ _ _))) | quiet_step ((go_at_call 109; exact later_of (isHermitianPauli_spec _ _ _ _ _))) | (refine wpQuiet_step (fun K hK => ?_); go_simp; split <;> (refine hK _ ?_; clear hK K))))
          all_goals (refine wpQuiet_nil ?_; intro _ hw'; obtain ⟨x1, hw''⟩ := hw'; subst hw''; have b1 := later_below _ x1; generalize later _ x1 = w1 at *; clear x1)
          clear hh
          have La1 := Lib.hid ((b1.block w.heap.size hsz).trans La.out)
          have hbel1 := hbel.trans (b1.mono hbel.size)
          have hsz1 : w.heap.size < w1.heap.size := Nat.lt_of_lt_of_le hsz b1.size
          clear x0 x1 xf ca0 ca1 ca2 ca3 la b1 La hbel hsz
          go_wp2_with fail
          go_loopw [4] (fun i wr => ∃ i' : Nat, i' ≤ k ∧ i = .int .i64 i' ∧ Hid ((List.range i').all (pairOk M l k) = true) ∧ Below w.heap.size w wr ∧ w.heap.size < wr.heap.size ∧ Hid (wr.heap[w.heap.size]? = some (.cells #[.int .i64 (M : Int), .slice (some ⟨ba, oa, none⟩) (2 * M) c] 33 (0, 0)))) (fun i _ => k - (intOf i).toNat)
          case atStart => exact ⟨0, by omega, rfl, Lib.hid (by simp), hbel1, hsz1, La1⟩
          case round =>
            clear hbel1 hsz1 La1
            obtain ⟨i, hi, rfl, Hall2, hbel, hsz, La⟩ := hrel
            obtain ⟨x0, x1, xf⟩ := blk2 La.out
            by_cases hlt2 : i < k
            · obtain ⟨bb, ob, b0, b1, b2, b3, hB, lb, gb, cb0, cb1, cb2, cb3⟩ := (ha.below hbel).at (show i < 2 * M by omega)
              obtain ⟨bc, oc, d0, d1, d2, d3, hC, lc, gc, cc0, cc1, cc2, cc3⟩ := (ha.below hbel).at hlt
              have hB1 : ba = bb := by injection hB with hB; injection hB
              have hB2 : oa = ob := by injection hB with hB; injection hB
              have hC1 : ba = bc := by injection hC with hC; injection hC
              have hC2 : oa = oc := by injection hC with hC; injection hC
              subst hB1 hB2 hC1 hC2
              have hd := Option.some.inj (ga.out.symm.trans gc.out)
              simp only [Prod.mk.injEq] at hd
              obtain ⟨rfl, rfl, rfl, rfl⟩ := hd
              clear gc hB hC lc
              have hi0 : (0 : Int) ≤ (i : Int) := Int.natCast_nonneg _
              have hi1 : (i : Int) < ((2 * M : Nat) : Int) := by omega
              have hi2 : (i : Int) < 2 * (M : Int) := by omega
              have hw : IntKind.i64.wrap ((i : Int) + (M : Int)) = (i : Int) + M := IntWalk.i64_in _ (by omega)
              have hP := Lib.hid (pairOk_eq (N := M) gb.out ga.out)
              have hE : (commB b1 b2 a1 a2 == ((k : Int) == (i : Int) + M)) = !pairOk M l k i := by
                rw [hP.out]; by_cases hki : (k : Int) = (i : Int) + M <;> cases commB b1 b2 a1 a2 <;> simp [hki]
              go_wp2_with fail
              refine wp_region_later (by kernel_rfl) (by kernel_rfl) ?_
              repeat (any_goals (first | go_big_quiet_step ((go_at_call 110; exact later_of (paulisCommute_spec _ _ _ _ _ _ _ _ _))) | quiet_step ((go_at_call 110; exact later_of (paulisCommute_spec _ _ _ _ _ _ _ _ _))) | (refine wpQuiet_step (fun K hK => ?_); go_simp; split <;> (refine hK _ ?_; clear hK K))))
              all_goals (refine wpQuiet_nil ?_; intro _ hw'; obtain ⟨x2, hw''⟩ := hw'; subst hw''; have b2 := later_below _ x2; generalize later _ x2 = w2 at *; clear x2)
              clear hw
              try rw [hE]
              clear hE
              cases hP2 : pairOk M l k i with
              | true =>
                have HP2 := Lib.hid hP2; clear hP2
                go_wp2_with fail
                go_roundw
                case rel => exact ⟨i + 1, by omega, by go_num, Lib.hid (by rw [all_succ, Hall2.out, HP2.out]; rfl), hbel.trans (b2.mono hbel.size), Nat.lt_of_lt_of_le hsz b2.size, Lib.hid ((b2.block _ hsz).trans La.out)⟩
                case measure => simp [intOf]; omega
              | false =>
                have HP2 := Lib.hid hP2; clear hP2
                go_wp2_with fail
                go_ret
                exact ⟨ret_bool (all_no hlt (rowB_no3 hlt2 HP2.out)).symm, hbel.trans (b2.mono hbel.size)⟩
            · obtain rfl : i = k := by omega
              go_wp2_with fail
              go_roundw
              case rel => exact ⟨i + 1, by omega, by go_num, Lib.hid (by rw [all_succ, Hall.out, rowB_yes ga.out Hh.out Hall2.out]; rfl), hbel, hsz, La⟩
              case measure => simp [intOf]; omega
      · have hN2 : (a0 != (M : Int)) = true := by simpa using hN
        go_wp2_with fail
        refine wp_region_later (by kernel_rfl) (by kernel_rfl) ?_
        repeat (any_goals (first | go_big_quiet_step ((go_at_call 109; exact later_of (isHermitianPauli_spec _ _ _ _ _))) | quiet_step ((go_at_call 109; exact later_of (isHermitianPauli_spec _ _ _ _ _))) | (refine wpQuiet_step (fun K hK => ?_); go_simp; split <;> (refine hK _ ?_; clear hK K))))
        all_goals (refine wpQuiet_nil ?_; intro _ hw'; obtain ⟨x1, hw''⟩ := hw'; subst hw''; have b1 := later_below _ x1; generalize later _ x1 = w1 at *; clear x1)
        go_wp2_with fail
        go_ret
        exact ⟨ret_bool (all_no hlt (rowB_no1 ga.out hN)).symm, hbel.trans (b1.mono hbel.size)⟩
    · obtain rfl : k = 2 * M := by omega
      go_wp2_with fail
      go_ret
      exact ⟨ret_bool Hall.out.symm, hbel⟩
theorem isValidTableau_spec (N : Int) (A : Option Addr) (n c : Nat) (l : List Quad) (w : World) (ha : SlQ w A n l) (hn : n ≤ 1048576) :
    Calls Try.prog 68 #[.agg #[.int .i64 N, .slice A n c]] w fun e w' => e = .returned (.bool (tabB N l)) ∧ Below w.heap.size w w' := by
  cases hin : inB N 1 4 with
  | false =>
    have e : tabB N l = false := by simp [tabB, hin]
    rw [e]
    clear e
    go_enter Try.func68, Try.ntmps68
    go_wp2_with (go_at_call 73; refine (l1In_any _ _ _ _).mono ?_; rintro e w' ⟨rfl, hw'⟩; rw [hw']; clear hw' w')
    go_ret
    refine ⟨rfl, ?_⟩
    repeat' (first | (with_reducible exact Below.refl _ _) | (with_reducible refine below_drewN ?_ _) | (with_reducible refine Below.drew ?_) | (with_reducible refine Below.alloc ?_ ?_ _) | (with_reducible refine Below.setCell ?_ ?_ _) | (with_reducible refine Below.trans ?_ (Below.mono (by with_reducible assumption) ?_)) | go_size | (with_reducible refine Nat.le_trans ?_ (Below.size (by with_reducible assumption))))
  | true =>
    obtain ⟨h1, h4⟩ := inB_true.1 hin
    by_cases hl : (n : Int) = 2 * N
    · have e : tabB N l = (List.range n).all (rowB N l) := by simp [tabB, hin, ha.1, hl]
      rw [e]
      exact isValidTableau_spec_in N A n c l w ha h1 h4 hl
    · have e : tabB N l = false := by simp [tabB, hin, ha.1, hl]
      rw [e]
      clear e
      have hl2 : ((n : Int) != 2 * N) = true := by simpa using hl
      go_enter Try.func68, Try.ntmps68
      go_wp2_with (go_at_call 73; refine (l1In_any _ _ _ _).mono ?_; rintro e w' ⟨rfl, hw'⟩; rw [hw']; clear hw' w')
      go_ret
      refine ⟨rfl, ?_⟩
      repeat' (first | (with_reducible exact Below.refl _ _) | (with_reducible refine below_drewN ?_ _) | (with_reducible refine Below.drew ?_) | (with_reducible refine Below.alloc ?_ ?_ _) | (with_reducible refine Below.setCell ?_ ?_ _) | (with_reducible refine Below.trans ?_ (Below.mono (by with_reducible assumption) ?_)) | go_size | (with_reducible refine Nat.le_trans ?_ (Below.size (by with_reducible assumption))))
end Go.Proofs.Ytfpfalknddfejaa
