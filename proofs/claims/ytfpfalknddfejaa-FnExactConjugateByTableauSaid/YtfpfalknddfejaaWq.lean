/- Contracts of the helpers of the exact laws on gates, Paulis and slices of them. -/
import Derived.Test.YtfpfalknddfejaaWa
import Derived.Test.YtfpfalknddfejaaQd
namespace Go.Proofs.Ytfpfalknddfejaa
open Go.RowKit Pop
set_option maxRecDepth 100000
set_option linter.unusedVariables false
set_option linter.unusedSimpArgs false
/-- Nothing that was there has changed but the slice's own block. -/
def But (A : Option Addr) (w w' : World) : Prop := ∀ k, k < w.heap.size → (∀ a, A = some a → a.block ≠ k) → w'.heap[k]? = w.heap[k]?
theorem But.refl (A : Option Addr) (w : World) : But A w w := fun _ _ _ => rfl
theorem But.set {g o : Nat} {w w' : World} (h : But (some ⟨g, o, none⟩) w w') (i : Nat) (u : Value) : But (some ⟨g, o, none⟩) w (w'.setCell ⟨g, i, none⟩ u) :=
  fun k hk hne => (Below.heap_setCell w' _ u k (fun e => hne _ rfl (by simpa using e.symm))).trans (h k hk hne)
theorem But.trans {A : Option Addr} {w w1 w2 : World} (h : But A w w1) (h2 : But A w1 w2) (hs : w.heap.size ≤ w1.heap.size) : But A w w2 :=
  fun k hk hne => (h2 k (Nat.lt_of_lt_of_le hk hs) hne).trans (h k hk hne)
theorem But.cell {A : Option Addr} {w w' : World} (h : But A w w') {b : Nat} (hb : b < w.heap.size) (hne : ∀ a, A = some a → a.block ≠ b) (o : Nat) : w'.cell? ⟨b, o, none⟩ = w.cell? ⟨b, o, none⟩ :=
  World.cell?_of_block (h b hb hne)
theorem But.frozen {A : Option Addr} {w w' : World} (h : But A w w') {b : Nat} (hb : b < w.heap.size) (hne : ∀ a, A = some a → a.block ≠ b) (o : Nat) : w'.frozen? ⟨b, o, none⟩ = w.frozen? ⟨b, o, none⟩ :=
  World.frozen?_of_block (h b hb hne)
theorem OwnQ.ne {w : World} {base : Nat} {E : TypeId} {A : Option Addr} {n c : Nat} {l : List Quad} (h : OwnQ w base E (.slice A n c) l) {b : Nat} (hb : b < base ∨ w.heap.size ≤ b) : ∀ a, A = some a → a.block ≠ b := by
  rintro a rfl
  have := World.ownsRow.lt (h := h) a.block rfl
  omega

theorem eqGate_any (a0 a1 a2 a3 b0 b1 b2 b3 : Int) (w : World) :
    Calls Try.prog 105 #[.agg #[.int .i64 a0, .int .i64 a1, .int .i64 a2, .int .i64 a3], .agg #[.int .i64 b0, .int .i64 b1, .int .i64 b2, .int .i64 b3]] w fun e w' => e = .returned (.bool (qeq (a0, a1, a2, a3) (b0, b1, b2, b3))) ∧ Below w.heap.size w w' := by
  by_cases h0 : a0 = b0
  · by_cases h1 : a1 = b1
    · by_cases h2 : a2 = b2
      · by_cases h3 : a3 = b3
        · subst h0 h1 h2 h3
          go_enter Try.func105, Try.ntmps105
          go_wp2
          go_ret
          refine ⟨ret_bool (by simp [qeq_mk]), ?_⟩
          repeat' (first | (with_reducible exact Below.refl _ _) | (with_reducible refine below_drewN ?_ _) | (with_reducible refine Below.drew ?_) | (with_reducible refine Below.alloc ?_ ?_ _) | (with_reducible refine Below.setCell ?_ ?_ _) | (with_reducible refine Below.trans ?_ (Below.mono (by with_reducible assumption) ?_)) | go_size | (with_reducible refine Nat.le_trans ?_ (Below.size (by with_reducible assumption))))
        · subst h0 h1 h2
          go_enter Try.func105, Try.ntmps105
          go_wp2
          go_ret
          refine ⟨ret_bool (by simp [qeq_mk, h3]), ?_⟩
          repeat' (first | (with_reducible exact Below.refl _ _) | (with_reducible refine below_drewN ?_ _) | (with_reducible refine Below.drew ?_) | (with_reducible refine Below.alloc ?_ ?_ _) | (with_reducible refine Below.setCell ?_ ?_ _) | (with_reducible refine Below.trans ?_ (Below.mono (by with_reducible assumption) ?_)) | go_size | (with_reducible refine Nat.le_trans ?_ (Below.size (by with_reducible assumption))))
      · subst h0 h1
        go_enter Try.func105, Try.ntmps105
        go_wp2
        go_ret
        refine ⟨ret_bool (by simp [qeq_mk, h2]), ?_⟩
        repeat' (first | (with_reducible exact Below.refl _ _) | (with_reducible refine below_drewN ?_ _) | (with_reducible refine Below.drew ?_) | (with_reducible refine Below.alloc ?_ ?_ _) | (with_reducible refine Below.setCell ?_ ?_ _) | (with_reducible refine Below.trans ?_ (Below.mono (by with_reducible assumption) ?_)) | go_size | (with_reducible refine Nat.le_trans ?_ (Below.size (by with_reducible assumption))))
    · subst h0
      go_enter Try.func105, Try.ntmps105
      go_wp2
      go_ret
      refine ⟨ret_bool (by simp [qeq_mk, h1]), ?_⟩
      repeat' (first | (with_reducible exact Below.refl _ _) | (with_reducible refine below_drewN ?_ _) | (with_reducible refine Below.drew ?_) | (with_reducible refine Below.alloc ?_ ?_ _) | (with_reducible refine Below.setCell ?_ ?_ _) | (with_reducible refine Below.trans ?_ (Below.mono (by with_reducible assumption) ?_)) | go_size | (with_reducible refine Nat.le_trans ?_ (Below.size (by with_reducible assumption))))
  · go_enter Try.func105, Try.ntmps105
    go_wp2
    go_ret
    refine ⟨ret_bool (by simp [qeq_mk, h0]), ?_⟩
    repeat' (first | (with_reducible exact Below.refl _ _) | (with_reducible refine below_drewN ?_ _) | (with_reducible refine Below.drew ?_) | (with_reducible refine Below.alloc ?_ ?_ _) | (with_reducible refine Below.setCell ?_ ?_ _) | (with_reducible refine Below.trans ?_ (Below.mono (by with_reducible assumption) ?_)) | go_size | (with_reducible refine Nat.le_trans ?_ (Below.size (by with_reducible assumption))))
theorem eqPauli_any (a0 a1 a2 a3 b0 b1 b2 b3 : Int) (w : World) :
    Calls Try.prog 20 #[.agg #[.int .i64 a0, .int .i64 a1, .int .i64 a2, .int .i64 a3], .agg #[.int .i64 b0, .int .i64 b1, .int .i64 b2, .int .i64 b3]] w fun e w' => e = .returned (.bool (qeq (a0, a1, a2, a3) (b0, b1, b2, b3))) ∧ Below w.heap.size w w' := by
  by_cases h0 : a0 = b0
  · by_cases h1 : a1 = b1
    · by_cases h2 : a2 = b2
      · by_cases h3 : a3 = b3
        · subst h0 h1 h2 h3
          go_enter Try.func20, Try.ntmps20
          go_wp2
          go_ret
          refine ⟨ret_bool (by simp [qeq_mk]), ?_⟩
          repeat' (first | (with_reducible exact Below.refl _ _) | (with_reducible refine below_drewN ?_ _) | (with_reducible refine Below.drew ?_) | (with_reducible refine Below.alloc ?_ ?_ _) | (with_reducible refine Below.setCell ?_ ?_ _) | (with_reducible refine Below.trans ?_ (Below.mono (by with_reducible assumption) ?_)) | go_size | (with_reducible refine Nat.le_trans ?_ (Below.size (by with_reducible assumption))))
        · subst h0 h1 h2
          go_enter Try.func20, Try.ntmps20
          go_wp2
          go_ret
          refine ⟨ret_bool (by simp [qeq_mk, h3]), ?_⟩
          repeat' (first | (with_reducible exact Below.refl _ _) | (with_reducible refine below_drewN ?_ _) | (with_reducible refine Below.drew ?_) | (with_reducible refine Below.alloc ?_ ?_ _) | (with_reducible refine Below.setCell ?_ ?_ _) | (with_reducible refine Below.trans ?_ (Below.mono (by with_reducible assumption) ?_)) | go_size | (with_reducible refine Nat.le_trans ?_ (Below.size (by with_reducible assumption))))
      · subst h0 h1
        go_enter Try.func20, Try.ntmps20
        go_wp2
        go_ret
        refine ⟨ret_bool (by simp [qeq_mk, h2]), ?_⟩
        repeat' (first | (with_reducible exact Below.refl _ _) | (with_reducible refine below_drewN ?_ _) | (with_reducible refine Below.drew ?_) | (with_reducible refine Below.alloc ?_ ?_ _) | (with_reducible refine Below.setCell ?_ ?_ _) | (with_reducible refine Below.trans ?_ (Below.mono (by with_reducible assumption) ?_)) | go_size | (with_reducible refine Nat.le_trans ?_ (Below.size (by with_reducible assumption))))
    · subst h0
      go_enter Try.func20, Try.ntmps20
      go_wp2
      go_ret
      refine ⟨ret_bool (by simp [qeq_mk, h1]), ?_⟩
      repeat' (first | (with_reducible exact Below.refl _ _) | (with_reducible refine below_drewN ?_ _) | (with_reducible refine Below.drew ?_) | (with_reducible refine Below.alloc ?_ ?_ _) | (with_reducible refine Below.setCell ?_ ?_ _) | (with_reducible refine Below.trans ?_ (Below.mono (by with_reducible assumption) ?_)) | go_size | (with_reducible refine Nat.le_trans ?_ (Below.size (by with_reducible assumption))))
  · go_enter Try.func20, Try.ntmps20
    go_wp2
    go_ret
    refine ⟨ret_bool (by simp [qeq_mk, h0]), ?_⟩
    repeat' (first | (with_reducible exact Below.refl _ _) | (with_reducible refine below_drewN ?_ _) | (with_reducible refine Below.drew ?_) | (with_reducible refine Below.alloc ?_ ?_ _) | (with_reducible refine Below.setCell ?_ ?_ _) | (with_reducible refine Below.trans ?_ (Below.mono (by with_reducible assumption) ?_)) | go_size | (with_reducible refine Nat.le_trans ?_ (Below.size (by with_reducible assumption))))
theorem toGate_any (n x z p : Int) (w : World) :
    Calls Try.prog 32 #[.agg #[.int .i64 n, .int .i64 x, .int .i64 z, .int .i64 p]] w fun e w' => e = .returned (.agg #[.int .i64 n, .int .i64 x, .int .i64 z, .int .i64 p]) ∧ Below w.heap.size w w' := by
  go_enter Try.func32, Try.ntmps32
  go_wp2
  refine bodyPost_ret (v := .agg #[.int .i64 n, .int .i64 x, .int .i64 z, .int .i64 p]) (by simp [results, Try.results32, go_sem]) rfl ⟨rfl, ?_⟩
  repeat' (first | (with_reducible exact Below.refl _ _) | (with_reducible refine below_drewN ?_ _) | (with_reducible refine Below.drew ?_) | (with_reducible refine Below.alloc ?_ ?_ _) | (with_reducible refine Below.setCell ?_ ?_ _) | (with_reducible refine Below.trans ?_ (Below.mono (by with_reducible assumption) ?_)) | go_size | (with_reducible refine Nat.le_trans ?_ (Below.size (by with_reducible assumption))))
theorem eqGateS_any (A B : Option Addr) (n m c d : Nat) (l r : List Quad) (w : World) (ha : SlQ w A n l) (hb : SlQ w B m r) (hn : n ≤ 1048576) :
    Calls Try.prog 59 #[.slice A n c, .slice B m d] w fun e w' => e = .returned (.bool (lqeq l r)) ∧ Below w.heap.size w w' := by
  have hl := Lib.hid ha.1
  have hr := Lib.hid hb.1
  by_cases hnm : n = m
  · subst hnm
    go_enter Try.func59, Try.ntmps59
    go_wp2
    go_loopw [5] (fun i wr => ∃ k : Nat, k ≤ n ∧ i = .int .i64 k ∧ l.take k = r.take k ∧ Below w.heap.size w wr) (fun i _ => n - (intOf i).toNat)
    case atStart => exact ⟨0, by omega, rfl, by simp, Below.refl _ _⟩
    case round =>
      obtain ⟨k, hk, rfl, heq, hbel⟩ := hrel
      have Heq := Lib.hid heq; clear heq
      by_cases hlt : k < n
      · obtain ⟨ba, oa, a0, a1, a2, a3, rfl, la, ga, ca0, ca1, ca2, ca3⟩ := (ha.below hbel).at hlt
        obtain ⟨bb, ob, b0, b1, b2, b3, rfl, lb, gb, cb0, cb1, cb2, cb3⟩ := (hb.below hbel).at hlt
        have hk0 : (0 : Int) ≤ (k : Int) := Int.natCast_nonneg _
        have hk1 : (k : Int) < (n : Int) := by omega
        cases hq : qeq (a0, a1, a2, a3) (b0, b1, b2, b3) with
        | true =>
          have Hq := Lib.hid (qeq_true.1 hq)
          go_wp2_with fail
          refine wp_region_later (by kernel_rfl) (by kernel_rfl) ?_
          repeat (any_goals (first | go_big_quiet_step ((go_at_call 105; exact later_of (eqGate_any _ _ _ _ _ _ _ _ _))) | quiet_step ((go_at_call 105; exact later_of (eqGate_any _ _ _ _ _ _ _ _ _))) | (refine wpQuiet_step (fun K hK => ?_); go_simp; split <;> (refine hK _ ?_; clear hK K))))
          all_goals (refine wpQuiet_nil ?_; intro _ hw'; obtain ⟨x1, hw''⟩ := hw'; subst hw''; have b1 := later_below _ x1; generalize later _ x1 = w1 at *; clear x1)
          go_wp2
          go_roundw
          case rel => exact ⟨k + 1, by omega, by go_num, by rw [take_snoc_of ga.out, take_snoc_of gb.out, Heq.out, Hq.out], hbel.trans (b1.mono hbel.size)⟩
          case measure => simp [intOf]; omega
        | false =>
          have Hq := Lib.hid (qeq_false.1 hq)
          go_wp2_with fail
          refine wp_region_later (by kernel_rfl) (by kernel_rfl) ?_
          repeat (any_goals (first | go_big_quiet_step ((go_at_call 105; exact later_of (eqGate_any _ _ _ _ _ _ _ _ _))) | quiet_step ((go_at_call 105; exact later_of (eqGate_any _ _ _ _ _ _ _ _ _))) | (refine wpQuiet_step (fun K hK => ?_); go_simp; split <;> (refine hK _ ?_; clear hK K))))
          all_goals (refine wpQuiet_nil ?_; intro _ hw'; obtain ⟨x1, hw''⟩ := hw'; subst hw''; have b1 := later_below _ x1; generalize later _ x1 = w1 at *; clear x1)
          go_wp2
          go_ret
          refine ⟨ret_bool ?_, hbel.trans (b1.mono hbel.size)⟩
          symm; rw [lqeq_false]
          rintro rfl
          exact Hq.out (Option.some.inj (ga.out.symm.trans gb.out))
      · go_wp2
        go_ret
        refine ⟨ret_bool ?_, hbel⟩
        symm; rw [lqeq_true]
        have := Heq.out
        have e1 := hl.out
        have e2 := hr.out
        rwa [List.take_of_length_le (by omega), List.take_of_length_le (by omega)] at this
  · have hd : ((n : Int) == (m : Int)) = false := by simp; omega
    have hd2 : ((n : Int) != (m : Int)) = true := by simp; omega
    go_enter Try.func59, Try.ntmps59
    go_wp2
    go_ret
    refine ⟨ret_bool ?_, Below.refl _ _⟩
    symm; rw [lqeq_false]
    rintro rfl
    exact hnm (hl.out.symm.trans hr.out)
theorem eqPauliS_any (A B : Option Addr) (n m c d : Nat) (l r : List Quad) (w : World) (ha : SlQ w A n l) (hb : SlQ w B m r) (hn : n ≤ 1048576) :
    Calls Try.prog 72 #[.slice A n c, .slice B m d] w fun e w' => e = .returned (.bool (lqeq l r)) ∧ Below w.heap.size w w' := by
  have hl := Lib.hid ha.1
  have hr := Lib.hid hb.1
  by_cases hnm : n = m
  · subst hnm
    go_enter Try.func72, Try.ntmps72
    go_wp2
    go_loopw [5] (fun i wr => ∃ k : Nat, k ≤ n ∧ i = .int .i64 k ∧ l.take k = r.take k ∧ Below w.heap.size w wr) (fun i _ => n - (intOf i).toNat)
    case atStart => exact ⟨0, by omega, rfl, by simp, Below.refl _ _⟩
    case round =>
      obtain ⟨k, hk, rfl, heq, hbel⟩ := hrel
      have Heq := Lib.hid heq; clear heq
      by_cases hlt : k < n
      · obtain ⟨ba, oa, a0, a1, a2, a3, rfl, la, ga, ca0, ca1, ca2, ca3⟩ := (ha.below hbel).at hlt
        obtain ⟨bb, ob, b0, b1, b2, b3, rfl, lb, gb, cb0, cb1, cb2, cb3⟩ := (hb.below hbel).at hlt
        have hk0 : (0 : Int) ≤ (k : Int) := Int.natCast_nonneg _
        have hk1 : (k : Int) < (n : Int) := by omega
        cases hq : qeq (a0, a1, a2, a3) (b0, b1, b2, b3) with
        | true =>
          have Hq := Lib.hid (qeq_true.1 hq)
          go_wp2_with fail
          refine wp_region_later (by kernel_rfl) (by kernel_rfl) ?_
          repeat (any_goals (first | go_big_quiet_step ((go_at_call 20; exact later_of (eqPauli_any _ _ _ _ _ _ _ _ _))) | quiet_step ((go_at_call 20; exact later_of (eqPauli_any _ _ _ _ _ _ _ _ _))) | (refine wpQuiet_step (fun K hK => ?_); go_simp; split <;> (refine hK _ ?_; clear hK K))))
          all_goals (refine wpQuiet_nil ?_; intro _ hw'; obtain ⟨x1, hw''⟩ := hw'; subst hw''; have b1 := later_below _ x1; generalize later _ x1 = w1 at *; clear x1)
          go_wp2
          go_roundw
          case rel => exact ⟨k + 1, by omega, by go_num, by rw [take_snoc_of ga.out, take_snoc_of gb.out, Heq.out, Hq.out], hbel.trans (b1.mono hbel.size)⟩
          case measure => simp [intOf]; omega
        | false =>
          have Hq := Lib.hid (qeq_false.1 hq)
          go_wp2_with fail
          refine wp_region_later (by kernel_rfl) (by kernel_rfl) ?_
          repeat (any_goals (first | go_big_quiet_step ((go_at_call 20; exact later_of (eqPauli_any _ _ _ _ _ _ _ _ _))) | quiet_step ((go_at_call 20; exact later_of (eqPauli_any _ _ _ _ _ _ _ _ _))) | (refine wpQuiet_step (fun K hK => ?_); go_simp; split <;> (refine hK _ ?_; clear hK K))))
          all_goals (refine wpQuiet_nil ?_; intro _ hw'; obtain ⟨x1, hw''⟩ := hw'; subst hw''; have b1 := later_below _ x1; generalize later _ x1 = w1 at *; clear x1)
          go_wp2
          go_ret
          refine ⟨ret_bool ?_, hbel.trans (b1.mono hbel.size)⟩
          symm; rw [lqeq_false]
          rintro rfl
          exact Hq.out (Option.some.inj (ga.out.symm.trans gb.out))
      · go_wp2
        go_ret
        refine ⟨ret_bool ?_, hbel⟩
        symm; rw [lqeq_true]
        have := Heq.out
        have e1 := hl.out
        have e2 := hr.out
        rwa [List.take_of_length_le (by omega), List.take_of_length_le (by omega)] at this
  · have hd : ((n : Int) == (m : Int)) = false := by simp; omega
    have hd2 : ((n : Int) != (m : Int)) = true := by simp; omega
    go_enter Try.func72, Try.ntmps72
    go_wp2
    go_ret
    refine ⟨ret_bool ?_, Below.refl _ _⟩
    symm; rw [lqeq_false]
    rintro rfl
    exact hnm (hl.out.symm.trans hr.out)
theorem info_gate : (Try.prog.info? 57).map (fun i => (i.zero, i.size, i.bytes)) = some (some (.agg #[.int .i64 0, .int .i64 0, .int .i64 0, .int .i64 0]), 4, 32) := by kernel_rfl
theorem info_pauli : (Try.prog.info? 28).map (fun i => (i.zero, i.size, i.bytes)) = some (some (.agg #[.int .i64 0, .int .i64 0, .int .i64 0, .int .i64 0]), 4, 32) := by kernel_rfl
theorem toGateS_any (A : Option Addr) (n c : Nat) (l : List Quad) (w : World) (ha : SlQ w A n l) (hn : n ≤ 1048576) :
    Calls Try.prog 57 #[.slice A n c] w (RetQ 57 l w) := by
  obtain ⟨i0, hi, hz0, hz1, hz2⟩ := info_parts info_gate
  have hl := Lib.hid ha.1
  have hmk := fun W => run_make4 (P := Try.prog) 85 57 i0 Try.underlying85 hi hz0 hz1 hz2 n hn W
  clear hi hz0 hz1 hz2
  go_enter Try.func57, Try.ntmps57
  go_wp2
  go_loopw [4] (fun i wr => ∃ k : Nat, k ≤ n ∧ i = .int .i64 k ∧ OwnQ wr w.heap.size 57 (.slice (some ⟨w.heap.size, 0, none⟩) n n) (l.take k ++ zeros4 (n - k)) ∧ Below w.heap.size w wr) (fun i _ => n - (intOf i).toNat)
  case atStart => exact ⟨0, by omega, rfl, by simpa using OwnQ.made w _ _ n (Nat.le_refl _) hn, (Below.refl _ _).alloc (Nat.le_refl _) _⟩
  case round =>
    obtain ⟨k, hk, rfl, hown, hbel⟩ := hrel
    by_cases hlt : k < n
    · obtain ⟨ba, oa, a0, a1, a2, a3, rfl, la, ga, ca0, ca1, ca2, ca3⟩ := (ha.below hbel).at hlt
      have hk0 : (0 : Int) ≤ (k : Int) := Int.natCast_nonneg _
      have hk1 : (k : Int) < (n : Int) := by omega
      go_wp2_with fail
      refine (toGate_any _ _ _ _ _).mono ?_
      rintro e w1 ⟨rfl, b1⟩
      have hown1 := hown.below b1
      obtain ⟨b, off, q0, q1, q2, q3, hA, lb, gq, cq0, cq1, cq2, cq3⟩ := hown1.reads.at hlt
      injection hA with hA; injection hA with hA1 hA2; subst hA1 hA2
      simp only [Nat.zero_add] at cq0 cq1 cq2 cq3
      have fz := hown1.frozen
      have hlt1 := hown1.lt.2
      go_wp2_with fail
      go_roundw
      case rel =>
        refine ⟨k + 1, by omega, by go_num, ?_, ?_⟩
        · have := hown1.store k hlt (a0, a1, a2, a3)
          rwa [set_take_zeros ga.out hlt] at this
        · exact ((((hbel.trans (b1.mono hbel.size)).setCell (by simp) _).setCell (by simp) _).setCell (by simp) _).setCell (by simp) _
      case measure => simp [intOf]; omega
    · go_wp2
      go_ret
      obtain rfl : k = n := by omega
      have e1 := hl.out
      rw [Nat.sub_self, List.take_of_length_le (by omega)] at hown
      simp only [zeros4, List.replicate_zero, List.append_nil] at hown
      exact RetQ.mk hown hbel
theorem toPauliS_any (A : Option Addr) (n c : Nat) (l : List Quad) (w : World) (ha : SlQ w A n l) (hn : n ≤ 1048576) :
    Calls Try.prog 70 #[.slice A n c] w (RetQ 28 l w) := by
  obtain ⟨i0, hi, hz0, hz1, hz2⟩ := info_parts info_pauli
  have hl := Lib.hid ha.1
  have hmk := fun W => run_make4 (P := Try.prog) 31 28 i0 Try.underlying31 hi hz0 hz1 hz2 n hn W
  clear hi hz0 hz1 hz2
  go_enter Try.func70, Try.ntmps70
  go_wp2
  go_loopw [4] (fun i wr => ∃ k : Nat, k ≤ n ∧ i = .int .i64 k ∧ OwnQ wr w.heap.size 28 (.slice (some ⟨w.heap.size, 0, none⟩) n n) (l.take k ++ zeros4 (n - k)) ∧ Below w.heap.size w wr) (fun i _ => n - (intOf i).toNat)
  case atStart => exact ⟨0, by omega, rfl, by simpa using OwnQ.made w _ _ n (Nat.le_refl _) hn, (Below.refl _ _).alloc (Nat.le_refl _) _⟩
  case round =>
    obtain ⟨k, hk, rfl, hown, hbel⟩ := hrel
    by_cases hlt : k < n
    · obtain ⟨ba, oa, a0, a1, a2, a3, rfl, la, ga, ca0, ca1, ca2, ca3⟩ := (ha.below hbel).at hlt
      have hk0 : (0 : Int) ≤ (k : Int) := Int.natCast_nonneg _
      have hk1 : (k : Int) < (n : Int) := by omega
      go_wp2_with fail
      refine (toPauli_any _ _ _ _ _).mono ?_
      rintro e w1 ⟨rfl, b1⟩
      have hown1 := hown.below b1
      obtain ⟨b, off, q0, q1, q2, q3, hA, lb, gq, cq0, cq1, cq2, cq3⟩ := hown1.reads.at hlt
      injection hA with hA; injection hA with hA1 hA2; subst hA1 hA2
      simp only [Nat.zero_add] at cq0 cq1 cq2 cq3
      have fz := hown1.frozen
      have hlt1 := hown1.lt.2
      go_wp2_with fail
      go_roundw
      case rel =>
        refine ⟨k + 1, by omega, by go_num, ?_, ?_⟩
        · have := hown1.store k hlt (a0, a1, a2, a3)
          rwa [set_take_zeros ga.out hlt] at this
        · exact ((((hbel.trans (b1.mono hbel.size)).setCell (by simp) _).setCell (by simp) _).setCell (by simp) _).setCell (by simp) _
      case measure => simp [intOf]; omega
    · go_wp2
      go_ret
      obtain rfl : k = n := by omega
      have e1 := hl.out
      rw [Nat.sub_self, List.take_of_length_le (by omega)] at hown
      simp only [zeros4, List.replicate_zero, List.append_nil] at hown
      exact RetQ.mk hown hbel
theorem markGateS_but (A : Option Addr) (n c base : Nat) (k : Int) (l : List Quad) (w : World) (ho : OwnQ w base 57 (.slice A n c) l) (hk : 0 ≤ k) (hkn : k + 4 * n ≤ 1000000000000) :
    Calls Try.prog 60 #[.slice A n c, .int .i64 k] w fun e w' => e = .returned (.int .i64 (k + 4 * n)) ∧ OwnQ w' base 57 (.slice A n c) (marks k n) ∧ Below base w w' ∧ But A w w' := by
  have hl := Lib.hid ho.len
  go_enter Try.func60, Try.ntmps60
  go_wp2
  go_loopw [1, 5] (fun kk i wr => ∃ j : Nat, j ≤ n ∧ i = .int .i64 j ∧ kk = .int .i64 (k + 4 * (j : Int)) ∧ OwnQ wr base 57 (.slice A n c) (marks k j ++ l.drop j) ∧ Below base w wr ∧ But A w wr) (fun _ i _ => n - (intOf i).toNat)
  case atStart => exact ⟨0, by omega, rfl, by simp, by simpa [marks] using ho, Below.refl _ _, But.refl _ _⟩
  case round =>
    obtain ⟨j, hj, rfl, rfl, hown, hbel, hbut⟩ := hrel
    by_cases hlt : j < n
    · obtain ⟨g, rfl⟩ := hown.head (by omega)
      obtain ⟨q0, q1, q2, q3, gq, c0, c1, c2, c3⟩ := hown.at hlt
      have fz := hown.frozen
      have hg := hown.lt
      have hk0 : (0 : Int) ≤ (j : Int) := Int.natCast_nonneg _
      have hk1 : (j : Int) < (n : Int) := by omega
      go_wp2
      go_roundw
      case rel =>
        refine ⟨j + 1, by omega, by go_num, by go_num, ?_, ?_, ?_⟩
        · have := hown.store j hlt (k + 4 * (j : Int), k + 4 * (j : Int) + 1, k + 4 * (j : Int) + 1 + 1, k + 4 * (j : Int) + 1 + 1 + 1)
          rw [set_marks (by have := hl.out; omega)] at this
          exact this
        · exact (((hbel.setCell hg.1 _).setCell hg.1 _).setCell hg.1 _).setCell hg.1 _
        · exact (((hbut.set _ _).set _ _).set _ _).set _ _
      case measure => simp [intOf]; omega
    · go_wp2
      go_ret
      obtain rfl : j = n := by omega
      have e1 := hl.out
      rw [List.drop_eq_nil_of_le (by omega), List.append_nil] at hown
      exact ⟨rfl, hown, hbel, hbut⟩
theorem markGateS_any (A : Option Addr) (n c base : Nat) (k : Int) (l : List Quad) (w : World) (ho : OwnQ w base 57 (.slice A n c) l) (hk : 0 ≤ k) (hkn : k + 4 * n ≤ 1000000000000) :
    Calls Try.prog 60 #[.slice A n c, .int .i64 k] w fun e w' => e = .returned (.int .i64 (k + 4 * n)) ∧ OwnQ w' base 57 (.slice A n c) (marks k n) ∧ Below base w w' :=
  (markGateS_but A n c base k l w ho hk hkn).mono fun _ _ h => ⟨h.1, h.2.1, h.2.2.1⟩
theorem markPauliS_but (A : Option Addr) (n c base : Nat) (k : Int) (l : List Quad) (w : World) (ho : OwnQ w base 28 (.slice A n c) l) (hk : 0 ≤ k) (hkn : k + 4 * n ≤ 1000000000000) :
    Calls Try.prog 85 #[.slice A n c, .int .i64 k] w fun e w' => e = .returned (.int .i64 (k + 4 * n)) ∧ OwnQ w' base 28 (.slice A n c) (marks k n) ∧ Below base w w' ∧ But A w w' := by
  have hl := Lib.hid ho.len
  go_enter Try.func85, Try.ntmps85
  go_wp2
  go_loopw [1, 5] (fun kk i wr => ∃ j : Nat, j ≤ n ∧ i = .int .i64 j ∧ kk = .int .i64 (k + 4 * (j : Int)) ∧ OwnQ wr base 28 (.slice A n c) (marks k j ++ l.drop j) ∧ Below base w wr ∧ But A w wr) (fun _ i _ => n - (intOf i).toNat)
  case atStart => exact ⟨0, by omega, rfl, by simp, by simpa [marks] using ho, Below.refl _ _, But.refl _ _⟩
  case round =>
    obtain ⟨j, hj, rfl, rfl, hown, hbel, hbut⟩ := hrel
    by_cases hlt : j < n
    · obtain ⟨g, rfl⟩ := hown.head (by omega)
      obtain ⟨q0, q1, q2, q3, gq, c0, c1, c2, c3⟩ := hown.at hlt
      have fz := hown.frozen
      have hg := hown.lt
      have hk0 : (0 : Int) ≤ (j : Int) := Int.natCast_nonneg _
      have hk1 : (j : Int) < (n : Int) := by omega
      go_wp2
      go_roundw
      case rel =>
        refine ⟨j + 1, by omega, by go_num, by go_num, ?_, ?_, ?_⟩
        · have := hown.store j hlt (k + 4 * (j : Int), k + 4 * (j : Int) + 1, k + 4 * (j : Int) + 1 + 1, k + 4 * (j : Int) + 1 + 1 + 1)
          rw [set_marks (by have := hl.out; omega)] at this
          exact this
        · exact (((hbel.setCell hg.1 _).setCell hg.1 _).setCell hg.1 _).setCell hg.1 _
        · exact (((hbut.set _ _).set _ _).set _ _).set _ _
      case measure => simp [intOf]; omega
    · go_wp2
      go_ret
      obtain rfl : j = n := by omega
      have e1 := hl.out
      rw [List.drop_eq_nil_of_le (by omega), List.append_nil] at hown
      exact ⟨rfl, hown, hbel, hbut⟩
theorem markPauliS_any (A : Option Addr) (n c base : Nat) (k : Int) (l : List Quad) (w : World) (ho : OwnQ w base 28 (.slice A n c) l) (hk : 0 ≤ k) (hkn : k + 4 * n ≤ 1000000000000) :
    Calls Try.prog 85 #[.slice A n c, .int .i64 k] w fun e w' => e = .returned (.int .i64 (k + 4 * n)) ∧ OwnQ w' base 28 (.slice A n c) (marks k n) ∧ Below base w w' :=
  (markPauliS_but A n c base k l w ho hk hkn).mono fun _ _ h => ⟨h.1, h.2.1, h.2.2.1⟩
theorem heldGateS_any (A : Option Addr) (n c : Nat) (k : Int) (w : World) (ha : SlQ w A n (marks k n)) (hk : 0 ≤ k) (hkn : k + 4 * n ≤ 1000000000000) :
    Calls Try.prog 104 #[.slice A n c, .int .i64 k] w fun e w' => e = .returned (.int .i64 (k + 4 * n)) ∧ w' = w := by
  go_enter Try.func104, Try.ntmps104
  go_wp2
  go_loop [1, 5] (fun kk i => ∃ j : Nat, j ≤ n ∧ i = .int .i64 j ∧ kk = .int .i64 (k + 4 * (j : Int))) (fun _ i => n - (intOf i).toNat)
  case atStart => exact ⟨0, by omega, rfl, by simp⟩
  case round =>
    obtain ⟨j, hj, rfl, rfl⟩ := hrel
    by_cases hlt : j < n
    · obtain ⟨ba, oa, a0, a1, a2, a3, rfl, la, ga, ca0, ca1, ca2, ca3⟩ := ha.at hlt
      have ge := ga.out
      rw [marks_get k n j hlt] at ge
      injection ge with ge
      simp only [Prod.mk.injEq] at ge
      obtain ⟨rfl, rfl, rfl, rfl⟩ := ge
      have hk0 : (0 : Int) ≤ (j : Int) := Int.natCast_nonneg _
      have hk1 : (j : Int) < (n : Int) := by omega
      go_wp2
      go_round
      case rel => exact ⟨j + 1, by omega, by go_num, by go_num⟩
      case measure => simp [intOf]; omega
    · go_wp2
      go_ret
      obtain rfl : j = n := by omega
      exact ⟨rfl, rfl⟩
theorem heldPauliS_any (A : Option Addr) (n c : Nat) (k : Int) (w : World) (ha : SlQ w A n (marks k n)) (hk : 0 ≤ k) (hkn : k + 4 * n ≤ 1000000000000) :
    Calls Try.prog 86 #[.slice A n c, .int .i64 k] w fun e w' => e = .returned (.int .i64 (k + 4 * n)) ∧ w' = w := by
  go_enter Try.func86, Try.ntmps86
  go_wp2
  go_loop [1, 5] (fun kk i => ∃ j : Nat, j ≤ n ∧ i = .int .i64 j ∧ kk = .int .i64 (k + 4 * (j : Int))) (fun _ i => n - (intOf i).toNat)
  case atStart => exact ⟨0, by omega, rfl, by simp⟩
  case round =>
    obtain ⟨j, hj, rfl, rfl⟩ := hrel
    by_cases hlt : j < n
    · obtain ⟨ba, oa, a0, a1, a2, a3, rfl, la, ga, ca0, ca1, ca2, ca3⟩ := ha.at hlt
      have ge := ga.out
      rw [marks_get k n j hlt] at ge
      injection ge with ge
      simp only [Prod.mk.injEq] at ge
      obtain ⟨rfl, rfl, rfl, rfl⟩ := ge
      have hk0 : (0 : Int) ≤ (j : Int) := Int.natCast_nonneg _
      have hk1 : (j : Int) < (n : Int) := by omega
      go_wp2
      go_round
      case rel => exact ⟨j + 1, by omega, by go_num, by go_num⟩
      case measure => simp [intOf]; omega
    · go_wp2
      go_ret
      obtain rfl : j = n := by omega
      exact ⟨rfl, rfl⟩
theorem szGateS_ok (A : Option Addr) (n c : Nat) (left : Int) (w : World) (h : (n : Int) ≤ left) (hl : left ≤ 1048576) :
    Calls Try.prog 55 #[.slice A n c, .int .i64 left] w fun e w' => e = .returned (.int .i64 (left - n)) ∧ w' = w := by
  go_enter Try.func55, Try.ntmps55
  go_wp2
  go_ret
  exact ⟨rfl, rfl⟩
theorem szGateS_big (A : Option Addr) (n c : Nat) (left : Int) (w : World) (h : left < (n : Int)) (h0 : 0 ≤ left) (hn : n ≤ maxLen) :
    Calls Try.prog 55 #[.slice A n c, .int .i64 left] w fun e w' => e = .returned (.int .i64 (-1)) ∧ w' = w := by
  unfold maxLen at hn
  go_enter Try.func55, Try.ntmps55
  go_wp2
  go_ret
  exact ⟨rfl, rfl⟩
theorem szPauliS_ok (A : Option Addr) (n c : Nat) (left : Int) (w : World) (h : (n : Int) ≤ left) (hl : left ≤ 1048576) :
    Calls Try.prog 67 #[.slice A n c, .int .i64 left] w fun e w' => e = .returned (.int .i64 (left - n)) ∧ w' = w := by
  go_enter Try.func67, Try.ntmps67
  go_wp2
  go_ret
  exact ⟨rfl, rfl⟩
theorem szPauliS_big (A : Option Addr) (n c : Nat) (left : Int) (w : World) (h : left < (n : Int)) (h0 : 0 ≤ left) (hn : n ≤ maxLen) :
    Calls Try.prog 67 #[.slice A n c, .int .i64 left] w fun e w' => e = .returned (.int .i64 (-1)) ∧ w' = w := by
  unfold maxLen at hn
  go_enter Try.func67, Try.ntmps67
  go_wp2
  go_ret
  exact ⟨rfl, rfl⟩
end Go.Proofs.Ytfpfalknddfejaa
