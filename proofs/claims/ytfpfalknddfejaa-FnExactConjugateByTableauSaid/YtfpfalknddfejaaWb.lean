/- Contracts: RotationUnits, PaulisCommute, IsHermitianPauli, MulPauli. -/
import Derived.Test.YtfpfalknddfejaaWa
import Derived.Test.YtfpfalknddfejaaQd
import Derived.Test.YtfpfalknddfejaaTail
namespace Go.Proofs.Ytfpfalknddfejaa
open Go.RowKit Pop
set_option maxRecDepth 100000
set_option linter.unusedVariables false
set_option linter.unusedSimpArgs false


/-- a & b of two ints, and how many bits it has. -/
def andPop (a b : Int) : Int := popI (bits .and .i64 a b)
theorem andPop_bd (a b : Int) : 0 ≤ andPop a b ∧ andPop a b ≤ 64 := popI_bd _
theorem andPop_comm (a b : Int) : andPop a b = andPop b a := by unfold andPop; rw [and_comm_i64]
def commB (ax az bx bz : Int) : Bool := (andPop ax bz + andPop az bx) % 2 == 0
def hermB (n x z p : Int) : Bool := validB n x z p && ((p + andPop x z) % 2 == 0)

theorem ones_and (a b : Int) (w : World) :
    Calls Try.prog 94 #[.int .i64 (bits .and .i64 a b)] w fun e w' => e = .returned (.int .i64 (andPop a b)) ∧ w' = w := ones_any _ w
theorem l25Ones_and (a b : Int) (w : World) :
    Calls Try.prog 96 #[.int .i64 (bits .and .i64 a b)] w fun e w' => e = .returned (.int .i64 (andPop a b)) ∧ w' = w := l25Ones_any _ w

theorem paulisCommute_impl (an ax az ap bn bx bz bp : Int) (w : World) :
    Calls Try.prog 42 #[.agg #[.int .i64 an, .int .i64 ax, .int .i64 az, .int .i64 ap], .agg #[.int .i64 bn, .int .i64 bx, .int .i64 bz, .int .i64 bp]] w fun e w' => e = .returned (.bool (commB ax az bx bz)) ∧ Below w.heap.size w w' := by
  have h1 := andPop_bd ax bz
  have h2 := andPop_bd az bx
  have e1 : IntKind.i64.wrap (andPop ax bz + andPop az bx) = andPop ax bz + andPop az bx := IntWalk.i64_in _ (by omega)
  have h3 : 0 ≤ andPop ax bz + andPop az bx := by omega
  go_enter Try.func42, Try.ntmps42
  go_wp2_with fail
  refine wp_region_quiet_lit (by kernel_rfl) (by kernel_rfl) ?_
  repeat (any_goals (first | go_big_quiet_step ((go_at_call 94; exact Calls.quiet_of_same (ones_and _ _ _))) | quiet_step ((go_at_call 94; exact Calls.quiet_of_same (ones_and _ _ _))) | (refine wpQuiet_step (fun K hK => ?_); go_simp; split <;> (refine hK _ ?_; clear hK K))))
  all_goals (refine wpQuiet_nil ?_; intro _ hw'; obtain ⟨nq, hw''⟩ := hw'; subst hw'')
  go_wp2
  go_ret
  refine ⟨ret_bool ?_, ?_⟩
  · simp only [commB]
  · repeat' (first | (with_reducible exact Below.refl _ _) | (with_reducible refine below_drewN ?_ _) | (with_reducible refine Below.drew ?_) | (with_reducible refine Below.alloc ?_ ?_ _) | (with_reducible refine Below.setCell ?_ ?_ _) | (with_reducible refine Below.trans ?_ (Below.mono (by with_reducible assumption) ?_)) | go_size | (with_reducible refine Nat.le_trans ?_ (Below.size (by with_reducible assumption))))
theorem paulisCommute_spec (an ax az ap bn bx bz bp : Int) (w : World) :
    Calls Try.prog 110 #[.agg #[.int .i64 an, .int .i64 ax, .int .i64 az, .int .i64 ap], .agg #[.int .i64 bn, .int .i64 bx, .int .i64 bz, .int .i64 bp]] w fun e w' => e = .returned (.bool (commB ax az bx bz)) ∧ Below w.heap.size w w' := by
  have h1 := andPop_bd ax bz
  have h2 := andPop_bd az bx
  have e1 : IntKind.i64.wrap (andPop ax bz + andPop az bx) = andPop ax bz + andPop az bx := IntWalk.i64_in _ (by omega)
  have h3 : 0 ≤ andPop ax bz + andPop az bx := by omega
  go_enter Try.func110, Try.ntmps110
  go_wp2_with fail
  refine wp_region_quiet_lit (by kernel_rfl) (by kernel_rfl) ?_
  repeat (any_goals (first | go_big_quiet_step ((go_at_call 96; exact Calls.quiet_of_same (l25Ones_and _ _ _))) | quiet_step ((go_at_call 96; exact Calls.quiet_of_same (l25Ones_and _ _ _))) | (refine wpQuiet_step (fun K hK => ?_); go_simp; split <;> (refine hK _ ?_; clear hK K))))
  all_goals (refine wpQuiet_nil ?_; intro _ hw'; obtain ⟨nq, hw''⟩ := hw'; subst hw'')
  go_wp2
  go_ret
  refine ⟨ret_bool ?_, ?_⟩
  · simp only [commB]
  · repeat' (first | (with_reducible exact Below.refl _ _) | (with_reducible refine below_drewN ?_ _) | (with_reducible refine Below.drew ?_) | (with_reducible refine Below.alloc ?_ ?_ _) | (with_reducible refine Below.setCell ?_ ?_ _) | (with_reducible refine Below.trans ?_ (Below.mono (by with_reducible assumption) ?_)) | go_size | (with_reducible refine Nat.le_trans ?_ (Below.size (by with_reducible assumption))))
theorem isHermitianPauli_impl (n x z p : Int) (w : World) :
    Calls Try.prog 43 #[.agg #[.int .i64 n, .int .i64 x, .int .i64 z, .int .i64 p]] w fun e w' => e = .returned (.bool (hermB n x z p)) ∧ Below w.heap.size w w' := by
  cases hv : validB n x z p with
  | true =>
    have hp : 0 ≤ p ∧ p ≤ 3 := by simp only [validB, Bool.and_eq_true] at hv; exact inB_true.1 hv.2.2.2
    have h1 := andPop_bd x z
    have hp0 := hp.1
    have h10 := h1.1
    go_enter Try.func43, Try.ntmps43
    go_wp2_with fail
    refine wp_region_later (by kernel_rfl) (by kernel_rfl) ?_
    repeat (any_goals (first | go_big_quiet_step ((first | (go_at_call 71; exact later_of (isValidPauli_impl _ _ _ _ _)) | (go_at_call 94; exact later_of_same (ones_and _ _ _)))) | quiet_step ((first | (go_at_call 71; exact later_of (isValidPauli_impl _ _ _ _ _)) | (go_at_call 94; exact later_of_same (ones_and _ _ _)))) | (refine wpQuiet_step (fun K hK => ?_); go_simp; split <;> (refine hK _ ?_; clear hK K))))
    all_goals (refine wpQuiet_nil ?_; intro _ hw'; obtain ⟨x1, hw''⟩ := hw'; subst hw''; have b1 := later_below _ x1; generalize later _ x1 = w1 at *; clear x1)
    go_wp2
    go_ret
    refine ⟨ret_bool ?_, ?_⟩
    · simp only [hermB, hv, Bool.true_and]
      rw [Bool.eq_iff_iff]; simp; omega
    · repeat' (first | (with_reducible exact Below.refl _ _) | (with_reducible refine below_drewN ?_ _) | (with_reducible refine Below.drew ?_) | (with_reducible refine Below.alloc ?_ ?_ _) | (with_reducible refine Below.setCell ?_ ?_ _) | (with_reducible refine Below.trans ?_ (Below.mono (by with_reducible assumption) ?_)) | go_size | (with_reducible refine Nat.le_trans ?_ (Below.size (by with_reducible assumption))))
  | false =>
    go_enter Try.func43, Try.ntmps43
    go_wp2_with fail
    refine wp_region_later (by kernel_rfl) (by kernel_rfl) ?_
    repeat (any_goals (first | go_big_quiet_step ((first | (go_at_call 71; exact later_of (isValidPauli_impl _ _ _ _ _)) | (go_at_call 94; exact later_of_same (ones_and _ _ _)))) | quiet_step ((first | (go_at_call 71; exact later_of (isValidPauli_impl _ _ _ _ _)) | (go_at_call 94; exact later_of_same (ones_and _ _ _)))) | (refine wpQuiet_step (fun K hK => ?_); go_simp; split <;> (refine hK _ ?_; clear hK K))))
    all_goals (refine wpQuiet_nil ?_; intro _ hw'; obtain ⟨x1, hw''⟩ := hw'; subst hw''; have b1 := later_below _ x1; generalize later _ x1 = w1 at *; clear x1)
    go_wp2
    go_ret
    refine ⟨ret_bool ?_, ?_⟩
    · simp only [hermB, hv, Bool.false_and]
    · repeat' (first | (with_reducible exact Below.refl _ _) | (with_reducible refine below_drewN ?_ _) | (with_reducible refine Below.drew ?_) | (with_reducible refine Below.alloc ?_ ?_ _) | (with_reducible refine Below.setCell ?_ ?_ _) | (with_reducible refine Below.trans ?_ (Below.mono (by with_reducible assumption) ?_)) | go_size | (with_reducible refine Nat.le_trans ?_ (Below.size (by with_reducible assumption))))
theorem isHermitianPauli_spec (n x z p : Int) (w : World) :
    Calls Try.prog 109 #[.agg #[.int .i64 n, .int .i64 x, .int .i64 z, .int .i64 p]] w fun e w' => e = .returned (.bool (hermB n x z p)) ∧ Below w.heap.size w w' := by
  cases hv : validB n x z p with
  | true =>
    have hp : 0 ≤ p ∧ p ≤ 3 := by simp only [validB, Bool.and_eq_true] at hv; exact inB_true.1 hv.2.2.2
    have h1 := andPop_bd x z
    have e1 : IntKind.i64.wrap (p + andPop x z) = p + andPop x z := IntWalk.i64_in _ (by omega)
    have h3 : 0 ≤ p + andPop x z := by omega
    go_enter Try.func109, Try.ntmps109
    go_wp2_with fail
    refine wp_region_later (by kernel_rfl) (by kernel_rfl) ?_
    repeat (any_goals (first | go_big_quiet_step ((first | (go_at_call 69; exact later_of (isValidPauli_spec _ _ _ _ _)) | (go_at_call 96; exact later_of_same (l25Ones_and _ _ _)))) | quiet_step ((first | (go_at_call 69; exact later_of (isValidPauli_spec _ _ _ _ _)) | (go_at_call 96; exact later_of_same (l25Ones_and _ _ _)))) | (refine wpQuiet_step (fun K hK => ?_); go_simp; split <;> (refine hK _ ?_; clear hK K))))
    all_goals (refine wpQuiet_nil ?_; intro _ hw'; obtain ⟨x1, hw''⟩ := hw'; subst hw''; have b1 := later_below _ x1; generalize later _ x1 = w1 at *; clear x1)
    go_wp2
    go_ret
    refine ⟨ret_bool ?_, ?_⟩
    · simp only [hermB, hv, Bool.true_and]
    · repeat' (first | (with_reducible exact Below.refl _ _) | (with_reducible refine below_drewN ?_ _) | (with_reducible refine Below.drew ?_) | (with_reducible refine Below.alloc ?_ ?_ _) | (with_reducible refine Below.setCell ?_ ?_ _) | (with_reducible refine Below.trans ?_ (Below.mono (by with_reducible assumption) ?_)) | go_size | (with_reducible refine Nat.le_trans ?_ (Below.size (by with_reducible assumption))))
  | false =>
    go_enter Try.func109, Try.ntmps109
    go_wp2_with fail
    refine wp_region_later (by kernel_rfl) (by kernel_rfl) ?_
    repeat (any_goals (first | go_big_quiet_step ((first | (go_at_call 69; exact later_of (isValidPauli_spec _ _ _ _ _)) | (go_at_call 96; exact later_of_same (l25Ones_and _ _ _)))) | quiet_step ((first | (go_at_call 69; exact later_of (isValidPauli_spec _ _ _ _ _)) | (go_at_call 96; exact later_of_same (l25Ones_and _ _ _)))) | (refine wpQuiet_step (fun K hK => ?_); go_simp; split <;> (refine hK _ ?_; clear hK K))))
    all_goals (refine wpQuiet_nil ?_; intro _ hw'; obtain ⟨x1, hw''⟩ := hw'; subst hw''; have b1 := later_below _ x1; generalize later _ x1 = w1 at *; clear x1)
    go_wp2
    go_ret
    refine ⟨ret_bool ?_, ?_⟩
    · simp only [hermB, hv, Bool.false_and]
    · repeat' (first | (with_reducible exact Below.refl _ _) | (with_reducible refine below_drewN ?_ _) | (with_reducible refine Below.drew ?_) | (with_reducible refine Below.alloc ?_ ?_ _) | (with_reducible refine Below.setCell ?_ ?_ _) | (with_reducible refine Below.trans ?_ (Below.mono (by with_reducible assumption) ?_)) | go_size | (with_reducible refine Nat.le_trans ?_ (Below.size (by with_reducible assumption))))

def xorI (a b : Int) : Int := bits .xor .i64 a b
def mulPh (ap bp az bx : Int) : Int := (ap + bp + 2 * andPop az bx) % 4
def mulOk (an ax az ap bn bx bz bp : Int) : Bool := validB an ax az ap && (validB bn bx bz bp && (an == bn))
theorem valid_ph {n x z p : Int} (h : validB n x z p = true) : 0 ≤ p ∧ p ≤ 3 := by simp only [validB, Bool.and_eq_true] at h; exact inB_true.1 h.2.2.2
set_option maxHeartbeats 1000000 in
theorem mulPauli_impl_ok (n ax az ap bx bz bp : Int) (w : World) (ha : validB n ax az ap = true) (hb : validB n bx bz bp = true) :
    Calls Try.prog 41 #[.agg #[.int .i64 n, .int .i64 ax, .int .i64 az, .int .i64 ap], .agg #[.int .i64 n, .int .i64 bx, .int .i64 bz, .int .i64 bp]] w fun e w' =>
      e = .returned (.tuple #[.agg #[.int .i64 n, .int .i64 (xorI ax bx), .int .i64 (xorI az bz), .int .i64 (mulPh ap bp az bx)], .bool true]) ∧ Below w.heap.size w w' := by
  have hp := valid_ph ha
  have hq := valid_ph hb
  have h1 := andPop_bd az bx
  have e0 : IntKind.i64.wrap (ap + bp) = ap + bp := IntWalk.i64_in _ (by omega)
  have e1 : IntKind.i64.wrap (2 * andPop az bx) = 2 * andPop az bx := IntWalk.i64_in _ (by omega)
  have e2 : IntKind.i64.wrap (ap + bp + 2 * andPop az bx) = ap + bp + 2 * andPop az bx := IntWalk.i64_in _ (by omega)
  have e3 : (ap + bp + 2 * andPop az bx).tmod 4 = mulPh ap bp az bx := by unfold mulPh; rw [Int.tmod_eq_emod_of_nonneg (by omega)]
  have e4 : bits .xor .i64 ax bx = xorI ax bx := rfl
  have e5 : bits .xor .i64 az bz = xorI az bz := rfl
  clear h1
  go_enter Try.func41, Try.ntmps41
  go_wp2_with fail
  refine (isValidPauli_impl _ _ _ _ _).mono ?_
  rintro e w1 ⟨rfl, b1⟩
  obtain ⟨hc1, hf1⟩ := bcell b1
  have hz1 := b1.size
  try simp only [World.size_alloc, World.size_setCell, World.size_drew, World.heap_drewN] at hz1
  have hl1a : w.heap.size < w1.heap.size := by omega
  have hl1b : w.heap.size + 1 < w1.heap.size := by omega
  have hl1c : w.heap.size + 1 + 1 < w1.heap.size := by omega
  go_wp2_with fail
  refine (isValidPauli_impl _ _ _ _ _).mono ?_
  rintro e w2 ⟨rfl, b2⟩
  obtain ⟨hc2, hf2⟩ := bcell b2
  have hz2 := b2.size
  try simp only [World.size_alloc, World.size_setCell, World.size_drew, World.heap_drewN] at hz2
  have hl2a : w.heap.size < w2.heap.size := by omega
  have hl2b : w.heap.size + 1 < w2.heap.size := by omega
  have hl2c : w.heap.size + 1 + 1 < w2.heap.size := by omega
  go_wp2_with fail
  refine wp_region_later_tail 27 (by kernel_rfl) (by kernel_rfl) ?_
  simp only [List.take_succ_cons, List.take_zero, List.drop_succ_cons, List.drop_zero]
  repeat (any_goals (first | go_big_quiet_step ((go_at_call 94; exact later_of_same (ones_and _ _ _))) | quiet_step ((go_at_call 94; exact later_of_same (ones_and _ _ _))) | (refine wpQuiet_step (fun K hK => ?_); go_simp; split <;> (refine hK _ ?_; clear hK K))))
  all_goals (refine wpQuiet_nil ?_; intro _ hw'; obtain ⟨x3, hw''⟩ := hw'; subst hw''; have b3 := later_below _ x3; generalize later _ x3 = w3 at *; clear x3)
  obtain ⟨hc3, hf3⟩ := bcell b3
  have hz3 := b3.size
  try simp only [World.size_alloc, World.size_setCell, World.size_drew, World.heap_drewN] at hz3
  have hl3a : w.heap.size < w3.heap.size := by omega
  have hl3b : w.heap.size + 1 < w3.heap.size := by omega
  have hl3c : w.heap.size + 1 + 1 < w3.heap.size := by omega
  go_wp2
  refine bodyPost_ret (v := .tuple #[.agg #[.int .i64 n, .int .i64 (xorI ax bx), .int .i64 (xorI az bz), .int .i64 (mulPh ap bp az bx)], .bool true]) (by simp [results, Try.results41, go_sem, *]) rfl ⟨rfl, ?_⟩
  repeat' (first | (with_reducible exact Below.refl _ _) | (with_reducible refine below_drewN ?_ _) | (with_reducible refine Below.drew ?_) | (with_reducible refine Below.alloc ?_ ?_ _) | (with_reducible refine Below.setCell ?_ ?_ _) | (with_reducible refine Below.trans ?_ (Below.mono (by with_reducible assumption) ?_)) | go_size | (with_reducible refine Nat.le_trans ?_ (Below.size (by with_reducible assumption))))
set_option maxHeartbeats 1000000 in
theorem mulPauli_impl_no (an ax az ap bn bx bz bp : Int) (w : World) (h : mulOk an ax az ap bn bx bz bp = false) :
    Calls Try.prog 41 #[.agg #[.int .i64 an, .int .i64 ax, .int .i64 az, .int .i64 ap], .agg #[.int .i64 bn, .int .i64 bx, .int .i64 bz, .int .i64 bp]] w fun e w' =>
      e = .returned (.tuple #[.agg #[.int .i64 0, .int .i64 0, .int .i64 0, .int .i64 0], .bool false]) ∧ Below w.heap.size w w' := by
  cases ha : validB an ax az ap with
  | false =>
    clear h
    go_enter Try.func41, Try.ntmps41
    go_wp2_with fail
    refine (isValidPauli_impl _ _ _ _ _).mono ?_
    rintro e w1 ⟨rfl, b1⟩
    obtain ⟨hc1, hf1⟩ := bcell b1
    have hz1 := b1.size
    try simp only [World.size_alloc, World.size_setCell, World.size_drew, World.heap_drewN] at hz1
    have hl1a : w.heap.size < w1.heap.size := by omega
    have hl1b : w.heap.size + 1 < w1.heap.size := by omega
    have hl1c : w.heap.size + 1 + 1 < w1.heap.size := by omega
    go_wp2_with fail
    refine bodyPost_ret (v := .tuple #[.agg #[.int .i64 0, .int .i64 0, .int .i64 0, .int .i64 0], .bool false]) (by simp [results, Try.results41, go_sem, *]) rfl ⟨rfl, ?_⟩
    repeat' (first | (with_reducible exact Below.refl _ _) | (with_reducible refine below_drewN ?_ _) | (with_reducible refine Below.drew ?_) | (with_reducible refine Below.alloc ?_ ?_ _) | (with_reducible refine Below.setCell ?_ ?_ _) | (with_reducible refine Below.trans ?_ (Below.mono (by with_reducible assumption) ?_)) | go_size | (with_reducible refine Nat.le_trans ?_ (Below.size (by with_reducible assumption))))
  | true =>
    cases hb : validB bn bx bz bp with
    | false =>
      clear h
      go_enter Try.func41, Try.ntmps41
      go_wp2_with fail
      refine (isValidPauli_impl _ _ _ _ _).mono ?_
      rintro e w1 ⟨rfl, b1⟩
      obtain ⟨hc1, hf1⟩ := bcell b1
      have hz1 := b1.size
      try simp only [World.size_alloc, World.size_setCell, World.size_drew, World.heap_drewN] at hz1
      have hl1a : w.heap.size < w1.heap.size := by omega
      have hl1b : w.heap.size + 1 < w1.heap.size := by omega
      have hl1c : w.heap.size + 1 + 1 < w1.heap.size := by omega
      go_wp2_with fail
      refine (isValidPauli_impl _ _ _ _ _).mono ?_
      rintro e w2 ⟨rfl, b2⟩
      obtain ⟨hc2, hf2⟩ := bcell b2
      have hz2 := b2.size
      try simp only [World.size_alloc, World.size_setCell, World.size_drew, World.heap_drewN] at hz2
      have hl2a : w.heap.size < w2.heap.size := by omega
      have hl2b : w.heap.size + 1 < w2.heap.size := by omega
      have hl2c : w.heap.size + 1 + 1 < w2.heap.size := by omega
      go_wp2_with fail
      refine bodyPost_ret (v := .tuple #[.agg #[.int .i64 0, .int .i64 0, .int .i64 0, .int .i64 0], .bool false]) (by simp [results, Try.results41, go_sem, *]) rfl ⟨rfl, ?_⟩
      repeat' (first | (with_reducible exact Below.refl _ _) | (with_reducible refine below_drewN ?_ _) | (with_reducible refine Below.drew ?_) | (with_reducible refine Below.alloc ?_ ?_ _) | (with_reducible refine Below.setCell ?_ ?_ _) | (with_reducible refine Below.trans ?_ (Below.mono (by with_reducible assumption) ?_)) | go_size | (with_reducible refine Nat.le_trans ?_ (Below.size (by with_reducible assumption))))
    | true =>
      have hne : (an == bn) = false := by simpa [mulOk, ha, hb] using h
      have hne2 : (an != bn) = true := by simpa [bne] using hne
      clear h
      go_enter Try.func41, Try.ntmps41
      go_wp2_with fail
      refine (isValidPauli_impl _ _ _ _ _).mono ?_
      rintro e w1 ⟨rfl, b1⟩
      obtain ⟨hc1, hf1⟩ := bcell b1
      have hz1 := b1.size
      try simp only [World.size_alloc, World.size_setCell, World.size_drew, World.heap_drewN] at hz1
      have hl1a : w.heap.size < w1.heap.size := by omega
      have hl1b : w.heap.size + 1 < w1.heap.size := by omega
      have hl1c : w.heap.size + 1 + 1 < w1.heap.size := by omega
      go_wp2_with fail
      refine (isValidPauli_impl _ _ _ _ _).mono ?_
      rintro e w2 ⟨rfl, b2⟩
      obtain ⟨hc2, hf2⟩ := bcell b2
      have hz2 := b2.size
      try simp only [World.size_alloc, World.size_setCell, World.size_drew, World.heap_drewN] at hz2
      have hl2a : w.heap.size < w2.heap.size := by omega
      have hl2b : w.heap.size + 1 < w2.heap.size := by omega
      have hl2c : w.heap.size + 1 + 1 < w2.heap.size := by omega
      go_wp2_with fail
      refine bodyPost_ret (v := .tuple #[.agg #[.int .i64 0, .int .i64 0, .int .i64 0, .int .i64 0], .bool false]) (by simp [results, Try.results41, go_sem, *]) rfl ⟨rfl, ?_⟩
      repeat' (first | (with_reducible exact Below.refl _ _) | (with_reducible refine below_drewN ?_ _) | (with_reducible refine Below.drew ?_) | (with_reducible refine Below.alloc ?_ ?_ _) | (with_reducible refine Below.setCell ?_ ?_ _) | (with_reducible refine Below.trans ?_ (Below.mono (by with_reducible assumption) ?_)) | go_size | (with_reducible refine Nat.le_trans ?_ (Below.size (by with_reducible assumption))))
set_option maxHeartbeats 1000000 in
theorem mulPauli_spec_ok (n ax az ap bx bz bp : Int) (w : World) (ha : validB n ax az ap = true) (hb : validB n bx bz bp = true) :
    Calls Try.prog 45 #[.agg #[.int .i64 n, .int .i64 ax, .int .i64 az, .int .i64 ap], .agg #[.int .i64 n, .int .i64 bx, .int .i64 bz, .int .i64 bp]] w fun e w' =>
      e = .returned (.tuple #[.agg #[.int .i64 n, .int .i64 (xorI ax bx), .int .i64 (xorI az bz), .int .i64 (mulPh ap bp az bx)], .bool true]) ∧ Below w.heap.size w w' := by
  have hp := valid_ph ha
  have hq := valid_ph hb
  have h1 := andPop_bd az bx
  have e0 : IntKind.i64.wrap (ap + bp) = ap + bp := IntWalk.i64_in _ (by omega)
  have e1 : IntKind.i64.wrap (2 * andPop az bx) = 2 * andPop az bx := IntWalk.i64_in _ (by omega)
  have e2 : IntKind.i64.wrap (ap + bp + 2 * andPop az bx) = ap + bp + 2 * andPop az bx := IntWalk.i64_in _ (by omega)
  have e3 : (ap + bp + 2 * andPop az bx).tmod 4 = mulPh ap bp az bx := by unfold mulPh; rw [Int.tmod_eq_emod_of_nonneg (by omega)]
  have e4 : bits .xor .i64 ax bx = xorI ax bx := rfl
  have e5 : bits .xor .i64 az bz = xorI az bz := rfl
  clear h1
  go_enter Try.func45, Try.ntmps45
  go_wp2_with fail
  refine (isValidPauli_spec _ _ _ _ _).mono ?_
  rintro e w1 ⟨rfl, b1⟩
  obtain ⟨hc1, hf1⟩ := bcell b1
  have hz1 := b1.size
  try simp only [World.size_alloc, World.size_setCell, World.size_drew, World.heap_drewN] at hz1
  have hl1a : w.heap.size < w1.heap.size := by omega
  have hl1b : w.heap.size + 1 < w1.heap.size := by omega
  have hl1c : w.heap.size + 1 + 1 < w1.heap.size := by omega
  go_wp2_with fail
  refine (isValidPauli_spec _ _ _ _ _).mono ?_
  rintro e w2 ⟨rfl, b2⟩
  obtain ⟨hc2, hf2⟩ := bcell b2
  have hz2 := b2.size
  try simp only [World.size_alloc, World.size_setCell, World.size_drew, World.heap_drewN] at hz2
  have hl2a : w.heap.size < w2.heap.size := by omega
  have hl2b : w.heap.size + 1 < w2.heap.size := by omega
  have hl2c : w.heap.size + 1 + 1 < w2.heap.size := by omega
  go_wp2_with fail
  refine wp_region_later_tail 27 (by kernel_rfl) (by kernel_rfl) ?_
  simp only [List.take_succ_cons, List.take_zero, List.drop_succ_cons, List.drop_zero]
  repeat (any_goals (first | go_big_quiet_step ((go_at_call 96; exact later_of_same (l25Ones_and _ _ _))) | quiet_step ((go_at_call 96; exact later_of_same (l25Ones_and _ _ _))) | (refine wpQuiet_step (fun K hK => ?_); go_simp; split <;> (refine hK _ ?_; clear hK K))))
  all_goals (refine wpQuiet_nil ?_; intro _ hw'; obtain ⟨x3, hw''⟩ := hw'; subst hw''; have b3 := later_below _ x3; generalize later _ x3 = w3 at *; clear x3)
  obtain ⟨hc3, hf3⟩ := bcell b3
  have hz3 := b3.size
  try simp only [World.size_alloc, World.size_setCell, World.size_drew, World.heap_drewN] at hz3
  have hl3a : w.heap.size < w3.heap.size := by omega
  have hl3b : w.heap.size + 1 < w3.heap.size := by omega
  have hl3c : w.heap.size + 1 + 1 < w3.heap.size := by omega
  go_wp2
  refine bodyPost_ret (v := .tuple #[.agg #[.int .i64 n, .int .i64 (xorI ax bx), .int .i64 (xorI az bz), .int .i64 (mulPh ap bp az bx)], .bool true]) (by simp [results, Try.results45, go_sem, *]) rfl ⟨rfl, ?_⟩
  repeat' (first | (with_reducible exact Below.refl _ _) | (with_reducible refine below_drewN ?_ _) | (with_reducible refine Below.drew ?_) | (with_reducible refine Below.alloc ?_ ?_ _) | (with_reducible refine Below.setCell ?_ ?_ _) | (with_reducible refine Below.trans ?_ (Below.mono (by with_reducible assumption) ?_)) | go_size | (with_reducible refine Nat.le_trans ?_ (Below.size (by with_reducible assumption))))
set_option maxHeartbeats 1000000 in
theorem mulPauli_spec_no (an ax az ap bn bx bz bp : Int) (w : World) (h : mulOk an ax az ap bn bx bz bp = false) :
    Calls Try.prog 45 #[.agg #[.int .i64 an, .int .i64 ax, .int .i64 az, .int .i64 ap], .agg #[.int .i64 bn, .int .i64 bx, .int .i64 bz, .int .i64 bp]] w fun e w' =>
      e = .returned (.tuple #[.agg #[.int .i64 0, .int .i64 0, .int .i64 0, .int .i64 0], .bool false]) ∧ Below w.heap.size w w' := by
  cases ha : validB an ax az ap with
  | false =>
    clear h
    go_enter Try.func45, Try.ntmps45
    go_wp2_with fail
    refine (isValidPauli_spec _ _ _ _ _).mono ?_
    rintro e w1 ⟨rfl, b1⟩
    obtain ⟨hc1, hf1⟩ := bcell b1
    have hz1 := b1.size
    try simp only [World.size_alloc, World.size_setCell, World.size_drew, World.heap_drewN] at hz1
    have hl1a : w.heap.size < w1.heap.size := by omega
    have hl1b : w.heap.size + 1 < w1.heap.size := by omega
    have hl1c : w.heap.size + 1 + 1 < w1.heap.size := by omega
    go_wp2_with fail
    refine bodyPost_ret (v := .tuple #[.agg #[.int .i64 0, .int .i64 0, .int .i64 0, .int .i64 0], .bool false]) (by simp [results, Try.results45, go_sem, *]) rfl ⟨rfl, ?_⟩
    repeat' (first | (with_reducible exact Below.refl _ _) | (with_reducible refine below_drewN ?_ _) | (with_reducible refine Below.drew ?_) | (with_reducible refine Below.alloc ?_ ?_ _) | (with_reducible refine Below.setCell ?_ ?_ _) | (with_reducible refine Below.trans ?_ (Below.mono (by with_reducible assumption) ?_)) | go_size | (with_reducible refine Nat.le_trans ?_ (Below.size (by with_reducible assumption))))
  | true =>
    cases hb : validB bn bx bz bp with
    | false =>
      clear h
      go_enter Try.func45, Try.ntmps45
      go_wp2_with fail
      refine (isValidPauli_spec _ _ _ _ _).mono ?_
      rintro e w1 ⟨rfl, b1⟩
      obtain ⟨hc1, hf1⟩ := bcell b1
      have hz1 := b1.size
      try simp only [World.size_alloc, World.size_setCell, World.size_drew, World.heap_drewN] at hz1
      have hl1a : w.heap.size < w1.heap.size := by omega
      have hl1b : w.heap.size + 1 < w1.heap.size := by omega
      have hl1c : w.heap.size + 1 + 1 < w1.heap.size := by omega
      go_wp2_with fail
      refine (isValidPauli_spec _ _ _ _ _).mono ?_
      rintro e w2 ⟨rfl, b2⟩
      obtain ⟨hc2, hf2⟩ := bcell b2
      have hz2 := b2.size
      try simp only [World.size_alloc, World.size_setCell, World.size_drew, World.heap_drewN] at hz2
      have hl2a : w.heap.size < w2.heap.size := by omega
      have hl2b : w.heap.size + 1 < w2.heap.size := by omega
      have hl2c : w.heap.size + 1 + 1 < w2.heap.size := by omega
      go_wp2_with fail
      refine bodyPost_ret (v := .tuple #[.agg #[.int .i64 0, .int .i64 0, .int .i64 0, .int .i64 0], .bool false]) (by simp [results, Try.results45, go_sem, *]) rfl ⟨rfl, ?_⟩
      repeat' (first | (with_reducible exact Below.refl _ _) | (with_reducible refine below_drewN ?_ _) | (with_reducible refine Below.drew ?_) | (with_reducible refine Below.alloc ?_ ?_ _) | (with_reducible refine Below.setCell ?_ ?_ _) | (with_reducible refine Below.trans ?_ (Below.mono (by with_reducible assumption) ?_)) | go_size | (with_reducible refine Nat.le_trans ?_ (Below.size (by with_reducible assumption))))
    | true =>
      have hne : (an == bn) = false := by simpa [mulOk, ha, hb] using h
      have hne2 : (an != bn) = true := by simpa [bne] using hne
      clear h
      go_enter Try.func45, Try.ntmps45
      go_wp2_with fail
      refine (isValidPauli_spec _ _ _ _ _).mono ?_
      rintro e w1 ⟨rfl, b1⟩
      obtain ⟨hc1, hf1⟩ := bcell b1
      have hz1 := b1.size
      try simp only [World.size_alloc, World.size_setCell, World.size_drew, World.heap_drewN] at hz1
      have hl1a : w.heap.size < w1.heap.size := by omega
      have hl1b : w.heap.size + 1 < w1.heap.size := by omega
      have hl1c : w.heap.size + 1 + 1 < w1.heap.size := by omega
      go_wp2_with fail
      refine (isValidPauli_spec _ _ _ _ _).mono ?_
      rintro e w2 ⟨rfl, b2⟩
      obtain ⟨hc2, hf2⟩ := bcell b2
      have hz2 := b2.size
      try simp only [World.size_alloc, World.size_setCell, World.size_drew, World.heap_drewN] at hz2
      have hl2a : w.heap.size < w2.heap.size := by omega
      have hl2b : w.heap.size + 1 < w2.heap.size := by omega
      have hl2c : w.heap.size + 1 + 1 < w2.heap.size := by omega
      go_wp2_with fail
      refine bodyPost_ret (v := .tuple #[.agg #[.int .i64 0, .int .i64 0, .int .i64 0, .int .i64 0], .bool false]) (by simp [results, Try.results45, go_sem, *]) rfl ⟨rfl, ?_⟩
      repeat' (first | (with_reducible exact Below.refl _ _) | (with_reducible refine below_drewN ?_ _) | (with_reducible refine Below.drew ?_) | (with_reducible refine Below.alloc ?_ ?_ _) | (with_reducible refine Below.setCell ?_ ?_ _) | (with_reducible refine Below.trans ?_ (Below.mono (by with_reducible assumption) ?_)) | go_size | (with_reducible refine Nat.le_trans ?_ (Below.size (by with_reducible assumption))))
end Go.Proofs.Ytfpfalknddfejaa
