/- Contracts on slices of ints and on normal forms: helpers of the exact laws, EqualNormalForm, IdentityNormalForm. -/
import Derived.Test.YtpahkbajeniajaaWg
import Derived.Test.YtpahkbajeniajaaIn
import Derived.Test.YtpahkbajeniajaaAp
namespace Go.Proofs.Ytpahkbajeniajaa
open Go.RowKit Pop
set_option maxRecDepth 100000
set_option linter.unusedVariables false
set_option linter.unusedSimpArgs false
theorem info_int : (Try.prog.info? 3).map (fun i => (i.zero, i.size, i.bytes)) = some (some (.int .i64 0), 1, 8) := by kernel_rfl
theorem eqIntS_any (A B : Option Addr) (n m c d : Nat) (l r : List Int) (w : World) (ha : SlI w A n l) (hb : SlI w B m r) (hn : n ≤ 1048577) :
    Calls Try.prog 70 #[.slice A n c, .slice B m d] w fun e w' => e = .returned (.bool (lieq l r)) ∧ Below w.heap.size w w' := by
  have hl := Lib.hid ha.1
  have hr := Lib.hid hb.1
  by_cases hnm : n = m
  · subst hnm
    go_enter Try.func70, Try.ntmps70
    go_wp2
    go_loopw [5] (fun i wr => ∃ k : Nat, k ≤ n ∧ i = .int .i64 k ∧ l.take k = r.take k ∧ Below w.heap.size w wr) (fun i _ => n - (intOf i).toNat)
    case atStart => exact ⟨0, by omega, rfl, by simp, Below.refl _ _⟩
    case round =>
      obtain ⟨k, hk, rfl, heq, hbel⟩ := hrel
      have Heq := Lib.hid heq; clear heq
      by_cases hlt : k < n
      · obtain ⟨ba, oa, a0, rfl, la, ga, ca0⟩ := (ha.below hbel).at hlt
        obtain ⟨bb, ob, b0, rfl, lb, gb, cb0⟩ := (hb.below hbel).at hlt
        have hk0 : (0 : Int) ≤ (k : Int) := Int.natCast_nonneg _
        have hk1 : (k : Int) < (n : Int) := by omega
        by_cases hq : a0 = b0
        · subst hq
          go_wp2_with fail
          refine wp_region_later (by kernel_rfl) (by kernel_rfl) ?_
          repeat (any_goals (first | go_big_quiet_step ((fail)) | quiet_step ((fail)) | (refine wpQuiet_step (fun K hK => ?_); go_simp; split <;> (refine hK _ ?_; clear hK K))))
          all_goals (refine wpQuiet_nil ?_; intro _ hw'; obtain ⟨x1, hw''⟩ := hw'; subst hw''; have b1 := later_below _ x1; generalize later _ x1 = w1 at *; clear x1)
          go_wp2
          go_roundw
          case rel => exact ⟨k + 1, by omega, by go_num, by rw [take_snocI ga.out, take_snocI gb.out, Heq.out], hbel.trans (b1.mono hbel.size)⟩
          case measure => simp [intOf]; omega
        · have hq1 : (a0 != b0) = true := by simpa using hq
          go_wp2_with fail
          refine wp_region_later (by kernel_rfl) (by kernel_rfl) ?_
          repeat (any_goals (first | go_big_quiet_step ((fail)) | quiet_step ((fail)) | (refine wpQuiet_step (fun K hK => ?_); go_simp; split <;> (refine hK _ ?_; clear hK K))))
          all_goals (refine wpQuiet_nil ?_; intro _ hw'; obtain ⟨x1, hw''⟩ := hw'; subst hw''; have b1 := later_below _ x1; generalize later _ x1 = w1 at *; clear x1)
          go_wp2
          go_ret
          refine ⟨ret_bool ?_, hbel.trans (b1.mono hbel.size)⟩
          symm; rw [lieq_false]
          rintro rfl
          exact hq (Option.some.inj (ga.out.symm.trans gb.out))
      · go_wp2
        go_ret
        refine ⟨ret_bool ?_, hbel⟩
        symm; rw [lieq_true]
        have := Heq.out
        have e1 := hl.out
        have e2 := hr.out
        rwa [List.take_of_length_le (by omega), List.take_of_length_le (by omega)] at this
  · have hd : ((n : Int) == (m : Int)) = false := by simp; omega
    have hd2 : ((n : Int) != (m : Int)) = true := by simp; omega
    go_enter Try.func70, Try.ntmps70
    go_wp2
    go_ret
    refine ⟨ret_bool ?_, Below.refl _ _⟩
    symm; rw [lieq_false]
    rintro rfl
    exact hnm (hl.out.symm.trans hr.out)
theorem l1Ints_any (A B : Option Addr) (n m c d : Nat) (l r : List Int) (w : World) (ha : SlI w A n l) (hb : SlI w B m r) (hn : n ≤ 1048577) :
    Calls Try.prog 65 #[.slice A n c, .slice B m d] w fun e w' => e = .returned (.bool (lieq l r)) ∧ Below w.heap.size w w' := by
  have hl := Lib.hid ha.1
  have hr := Lib.hid hb.1
  by_cases hnm : n = m
  · subst hnm
    go_enter Try.func65, Try.ntmps65
    go_wp2
    go_loopw [5] (fun i wr => ∃ k : Nat, k ≤ n ∧ i = .int .i64 k ∧ l.take k = r.take k ∧ Below w.heap.size w wr) (fun i _ => n - (intOf i).toNat)
    case atStart => exact ⟨0, by omega, rfl, by simp, Below.refl _ _⟩
    case round =>
      obtain ⟨k, hk, rfl, heq, hbel⟩ := hrel
      have Heq := Lib.hid heq; clear heq
      by_cases hlt : k < n
      · obtain ⟨ba, oa, a0, rfl, la, ga, ca0⟩ := (ha.below hbel).at hlt
        obtain ⟨bb, ob, b0, rfl, lb, gb, cb0⟩ := (hb.below hbel).at hlt
        have hk0 : (0 : Int) ≤ (k : Int) := Int.natCast_nonneg _
        have hk1 : (k : Int) < (n : Int) := by omega
        by_cases hq : a0 = b0
        · subst hq
          go_wp2_with fail
          refine wp_region_later (by kernel_rfl) (by kernel_rfl) ?_
          repeat (any_goals (first | go_big_quiet_step ((fail)) | quiet_step ((fail)) | (refine wpQuiet_step (fun K hK => ?_); go_simp; split <;> (refine hK _ ?_; clear hK K))))
          all_goals (refine wpQuiet_nil ?_; intro _ hw'; obtain ⟨x1, hw''⟩ := hw'; subst hw''; have b1 := later_below _ x1; generalize later _ x1 = w1 at *; clear x1)
          go_wp2
          go_roundw
          case rel => exact ⟨k + 1, by omega, by go_num, by rw [take_snocI ga.out, take_snocI gb.out, Heq.out], hbel.trans (b1.mono hbel.size)⟩
          case measure => simp [intOf]; omega
        · have hq1 : (a0 != b0) = true := by simpa using hq
          go_wp2_with fail
          refine wp_region_later (by kernel_rfl) (by kernel_rfl) ?_
          repeat (any_goals (first | go_big_quiet_step ((fail)) | quiet_step ((fail)) | (refine wpQuiet_step (fun K hK => ?_); go_simp; split <;> (refine hK _ ?_; clear hK K))))
          all_goals (refine wpQuiet_nil ?_; intro _ hw'; obtain ⟨x1, hw''⟩ := hw'; subst hw''; have b1 := later_below _ x1; generalize later _ x1 = w1 at *; clear x1)
          go_wp2
          go_ret
          refine ⟨ret_bool ?_, hbel.trans (b1.mono hbel.size)⟩
          symm; rw [lieq_false]
          rintro rfl
          exact hq (Option.some.inj (ga.out.symm.trans gb.out))
      · go_wp2
        go_ret
        refine ⟨ret_bool ?_, hbel⟩
        symm; rw [lieq_true]
        have := Heq.out
        have e1 := hl.out
        have e2 := hr.out
        rwa [List.take_of_length_le (by omega), List.take_of_length_le (by omega)] at this
  · have hd : ((n : Int) == (m : Int)) = false := by simp; omega
    have hd2 : ((n : Int) != (m : Int)) = true := by simp; omega
    go_enter Try.func65, Try.ntmps65
    go_wp2
    go_ret
    refine ⟨ret_bool ?_, Below.refl _ _⟩
    symm; rw [lieq_false]
    rintro rfl
    exact hnm (hl.out.symm.trans hr.out)
theorem sameInt_any (A B : Option Addr) (n m c d : Nat) (l r : List Int) (w : World) (ha : SlI w A n l) (hb : SlI w B m r) (hn : n ≤ 1048577) :
    Calls Try.prog 68 #[.slice A n c, .slice B m d] w fun e w' => e = .returned (.bool (lieq l r)) ∧ Below w.heap.size w w' := by
  have hl := Lib.hid ha.1
  have hr := Lib.hid hb.1
  by_cases hnm : n = m
  · subst hnm
    go_enter Try.func68, Try.ntmps68
    go_wp2
    go_loopw [13] (fun i wr => ∃ k : Nat, k ≤ n ∧ i = .int .i64 k ∧ l.take k = r.take k ∧ Below w.heap.size w wr) (fun i _ => n - (intOf i).toNat)
    case atStart => exact ⟨0, by omega, rfl, by simp, Below.refl _ _⟩
    case round =>
      obtain ⟨k, hk, rfl, heq, hbel⟩ := hrel
      have Heq := Lib.hid heq; clear heq
      by_cases hlt : k < n
      · obtain ⟨ba, oa, a0, rfl, la, ga, ca0⟩ := (ha.below hbel).at hlt
        obtain ⟨bb, ob, b0, rfl, lb, gb, cb0⟩ := (hb.below hbel).at hlt
        have hk0 : (0 : Int) ≤ (k : Int) := Int.natCast_nonneg _
        have hk1 : (k : Int) < (n : Int) := by omega
        by_cases hq : a0 = b0
        · subst hq
          go_wp2_with fail
          refine wp_region_later (by kernel_rfl) (by kernel_rfl) ?_
          repeat (any_goals (first | go_big_quiet_step ((fail)) | quiet_step ((fail)) | (refine wpQuiet_step (fun K hK => ?_); go_simp; split <;> (refine hK _ ?_; clear hK K))))
          all_goals (refine wpQuiet_nil ?_; intro _ hw'; obtain ⟨x1, hw''⟩ := hw'; subst hw''; have b1 := later_below _ x1; generalize later _ x1 = w1 at *; clear x1)
          go_wp2
          go_roundw
          case rel => exact ⟨k + 1, by omega, by go_num, by rw [take_snocI ga.out, take_snocI gb.out, Heq.out], hbel.trans (b1.mono hbel.size)⟩
          case measure => simp [intOf]; omega
        · have hq1 : (a0 != b0) = true := by simpa using hq
          go_wp2_with fail
          refine wp_region_later (by kernel_rfl) (by kernel_rfl) ?_
          repeat (any_goals (first | go_big_quiet_step ((fail)) | quiet_step ((fail)) | (refine wpQuiet_step (fun K hK => ?_); go_simp; split <;> (refine hK _ ?_; clear hK K))))
          all_goals (refine wpQuiet_nil ?_; intro _ hw'; obtain ⟨x1, hw''⟩ := hw'; subst hw''; have b1 := later_below _ x1; generalize later _ x1 = w1 at *; clear x1)
          go_wp2
          go_ret
          refine ⟨ret_bool ?_, hbel.trans (b1.mono hbel.size)⟩
          symm; rw [lieq_false]
          rintro rfl
          exact hq (Option.some.inj (ga.out.symm.trans gb.out))
      · go_wp2
        go_ret
        refine ⟨ret_bool ?_, hbel⟩
        symm; rw [lieq_true]
        have := Heq.out
        have e1 := hl.out
        have e2 := hr.out
        rwa [List.take_of_length_le (by omega), List.take_of_length_le (by omega)] at this
  · have hd : ((n : Int) == (m : Int)) = false := by simp; omega
    have hd2 : ((n : Int) != (m : Int)) = true := by simp; omega
    go_enter Try.func68, Try.ntmps68
    go_wp2
    go_ret
    refine ⟨ret_bool ?_, Below.refl _ _⟩
    symm; rw [lieq_false]
    rintro rfl
    exact hnm (hl.out.symm.trans hr.out)
theorem szIntS_ok (A : Option Addr) (n c : Nat) (left : Int) (w : World) (h : (n : Int) ≤ left) (hl : left ≤ 1048576) :
    Calls Try.prog 64 #[.slice A n c, .int .i64 left] w fun e w' => e = .returned (.int .i64 (left - n)) ∧ w' = w := by
  go_enter Try.func64, Try.ntmps64
  go_wp2
  go_ret
  exact ⟨rfl, rfl⟩
theorem szIntS_big (A : Option Addr) (n c : Nat) (left : Int) (w : World) (h : left < (n : Int)) (h0 : 0 ≤ left) (hn : n ≤ maxLen) :
    Calls Try.prog 64 #[.slice A n c, .int .i64 left] w fun e w' => e = .returned (.int .i64 (-1)) ∧ w' = w := by
  unfold maxLen at hn
  go_enter Try.func64, Try.ntmps64
  go_wp2
  go_ret
  exact ⟨rfl, rfl⟩
theorem toIntS_any (A : Option Addr) (n c : Nat) (l : List Int) (w : World) (ha : SlI w A n l) (hn : n ≤ 1048576) :
    Calls Try.prog 67 #[.slice A n c] w (RetI 3 l w) := by
  obtain ⟨i0, hi, hz0, hz1, hz2⟩ := info_parts info_int
  have hl := Lib.hid ha.1
  have hmk := fun W => run_make1 (P := Try.prog) 37 3 i0 Try.underlying37 hi hz0 hz1 hz2 n hn W
  clear hi hz0 hz1 hz2
  go_enter Try.func67, Try.ntmps67
  go_wp2
  go_loopw [4] (fun i wr => ∃ k : Nat, k ≤ n ∧ i = .int .i64 k ∧ OwnI wr w.heap.size 3 (.slice (some ⟨w.heap.size, 0, none⟩) n n) (l.take k ++ zerosI (n - k)) ∧ Below w.heap.size w wr) (fun i _ => n - (intOf i).toNat)
  case atStart => exact ⟨0, by omega, rfl, by simpa using OwnI.made w _ _ n (Nat.le_refl _) hn, (Below.refl _ _).alloc (Nat.le_refl _) _⟩
  case round =>
    obtain ⟨k, hk, rfl, hown, hbel⟩ := hrel
    by_cases hlt : k < n
    · obtain ⟨ba, oa, a0, rfl, la, ga, ca0⟩ := (ha.below hbel).at hlt
      have hk0 : (0 : Int) ≤ (k : Int) := Int.natCast_nonneg _
      have hk1 : (k : Int) < (n : Int) := by omega
      obtain ⟨q0, gq, cq0⟩ := hown.at hlt
      have fz := hown.frozen
      have hlt1 := hown.lt.2
      go_wp2_with fail
      go_roundw
      case rel =>
        refine ⟨k + 1, by omega, by go_num, ?_, ?_⟩
        · have := hown.store k a0
          rwa [set_take_zerosI ga.out hlt] at this
        · exact hbel.setCell (by simp) _
      case measure => simp [intOf]; omega
    · go_wp2
      go_ret
      obtain rfl : k = n := by omega
      have e1 := hl.out
      rw [Nat.sub_self, List.take_of_length_le (by omega)] at hown
      simp only [zerosI, List.replicate_zero, List.append_nil] at hown
      exact RetI.mk hown hbel
theorem markIntS_but (A : Option Addr) (n c base : Nat) (k : Int) (l : List Int) (w : World) (ho : OwnI w base 3 (.slice A n c) l) (hk : 0 ≤ k) (hkn : k + n ≤ 1000000000000) :
    Calls Try.prog 73 #[.slice A n c, .int .i64 k] w fun e w' => e = .returned (.int .i64 (k + n)) ∧ OwnI w' base 3 (.slice A n c) (marksI k n) ∧ Below base w w' ∧ But A w w' := by
  have hl := Lib.hid ho.len
  go_enter Try.func73, Try.ntmps73
  go_wp2
  go_loopw [1, 5] (fun kk i wr => ∃ j : Nat, j ≤ n ∧ i = .int .i64 j ∧ kk = .int .i64 (k + (j : Int)) ∧ OwnI wr base 3 (.slice A n c) (marksI k j ++ l.drop j) ∧ Below base w wr ∧ But A w wr) (fun _ i _ => n - (intOf i).toNat)
  case atStart => exact ⟨0, by omega, rfl, by simp, by simpa [marksI] using ho, Below.refl _ _, But.refl _ _⟩
  case round =>
    obtain ⟨j, hj, rfl, rfl, hown, hbel, hbut⟩ := hrel
    by_cases hlt : j < n
    · obtain ⟨g, rfl⟩ := hown.head (by omega)
      obtain ⟨q0, gq, c0⟩ := hown.at hlt
      have fz := hown.frozen
      have hg := hown.lt
      have hk0 : (0 : Int) ≤ (j : Int) := Int.natCast_nonneg _
      have hk1 : (j : Int) < (n : Int) := by omega
      go_wp2
      go_roundw
      case rel =>
        refine ⟨j + 1, by omega, by go_num, by go_num, ?_, ?_, ?_⟩
        · have := hown.store j (k + (j : Int))
          rw [set_marksI (by have := hl.out; omega)] at this
          exact this
        · exact hbel.setCell hg.1 _
        · exact hbut.set _ _
      case measure => simp [intOf]; omega
    · go_wp2
      go_ret
      obtain rfl : j = n := by omega
      have e1 := hl.out
      rw [List.drop_eq_nil_of_le (by omega), List.append_nil] at hown
      exact ⟨rfl, hown, hbel, hbut⟩
theorem heldIntS_any (A : Option Addr) (n c : Nat) (k : Int) (w : World) (ha : SlI w A n (marksI k n)) (hk : 0 ≤ k) (hkn : k + n ≤ 1000000000000) :
    Calls Try.prog 74 #[.slice A n c, .int .i64 k] w fun e w' => e = .returned (.int .i64 (k + n)) ∧ w' = w := by
  go_enter Try.func74, Try.ntmps74
  go_wp2
  go_loop [1, 5] (fun kk i => ∃ j : Nat, j ≤ n ∧ i = .int .i64 j ∧ kk = .int .i64 (k + (j : Int))) (fun _ i => n - (intOf i).toNat)
  case atStart => exact ⟨0, by omega, rfl, by simp⟩
  case round =>
    obtain ⟨j, hj, rfl, rfl⟩ := hrel
    by_cases hlt : j < n
    · obtain ⟨ba, oa, a0, rfl, la, ga, ca0⟩ := ha.at hlt
      have ge := ga.out
      rw [marksI_get k n j hlt] at ge
      injection ge with ge
      subst ge
      have hk0 : (0 : Int) ≤ (j : Int) := Int.natCast_nonneg _
      have hk1 : (j : Int) < (n : Int) := by omega
      go_wp2
      go_round
      case rel => exact ⟨j + 1, by omega, by go_num, by go_num⟩
      case measure => simp [intOf]; omega
    · go_wp2
      go_ret
      obtain rfl : j = n := by omega
      exact ⟨rfl, rfl⟩
theorem OwnQ.but {A : Option Addr} {w w' : World} {base B : Nat} {E : TypeId} {v : Value} {l : List Quad} (h : OwnQ w base E v l) (hb : Below B w w') (hu : But A w w') (hne : ∀ a g, A = some a → v.ownBlock = some g → a.block ≠ g) : OwnQ w' base E v l := by
  refine World.ownsRow.kept h (row := A.map Addr.block) ⟨hb.os, hb.tape, hb.output, hb.size, fun k hk hr => hu k hk fun a ha => ?_⟩ ?_
  · rintro rfl; rw [ha] at hr; exact hr rfl
  · cases hv : v.ownBlock with
    | none => exact .inl rfl
    | some g =>
      refine .inr fun e => ?_
      cases A with
      | none => cases e
      | some a => simp only [Option.map_some, Option.some.injEq] at e; exact hne a g rfl hv e.symm
theorem OwnI.but {A : Option Addr} {w w' : World} {base B : Nat} {E : TypeId} {v : Value} {l : List Int} (h : OwnI w base E v l) (hb : Below B w w') (hu : But A w w') (hne : ∀ a g, A = some a → v.ownBlock = some g → a.block ≠ g) : OwnI w' base E v l := by
  refine World.ownsRow.kept h (row := A.map Addr.block) ⟨hb.os, hb.tape, hb.output, hb.size, fun k hk hr => hu k hk fun a ha => ?_⟩ ?_
  · rintro rfl; rw [ha] at hr; exact hr rfl
  · cases hv : v.ownBlock with
    | none => exact .inl rfl
    | some g =>
      refine .inr fun e => ?_
      cases A with
      | none => cases e
      | some a => simp only [Option.map_some, Option.some.injEq] at e; exact hne a g rfl hv e.symm
/-- Slices of different element types lie in different blocks. -/
theorem own_apart {w : World} {b1 b2 : Nat} {E F : TypeId} {A B : Option Addr} {n m c d : Nat} {l : List Int} {r : List Quad} (h : OwnI w b1 E (.slice A n c) l) (k : OwnQ w b2 F (.slice B m d) r) (hEF : E ≠ F) :
    ∀ a b, A = some a → B = some b → a.block ≠ b.block := by
  rintro a b rfl rfl e
  rcases h.2 with ⟨hv, _⟩ | ⟨g, cap, cur, hv, _, hg, _⟩
  · cases hv
  · rcases k.2 with ⟨hv2, _⟩ | ⟨g2, cap2, cur2, hv2, _, hg2, _⟩
    · cases hv2
    · injection hv with hv _ _; injection hv with hv; injection hv2 with hv2 _ _; injection hv2 with hv2
      subst hv hv2
      simp only at e
      subst e
      rw [hg] at hg2
      injection hg2 with hg2
      injection hg2 with _ h2 _
      exact hEF h2
end Go.Proofs.Ytpahkbajeniajaa
