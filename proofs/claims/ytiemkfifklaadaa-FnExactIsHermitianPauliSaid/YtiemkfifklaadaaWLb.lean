/- The walks of exact laws on Paulis. -/
import Derived.Test.YtiemkfifklaadaaWb
import Derived.Test.YtiemkfifklaadaaWq
namespace Go.Proofs.Ytiemkfifklaadaa
open Go.RowKit Pop
set_option linter.unusedVariables false
set_option linter.unusedSimpArgs false

theorem law_rotationUnits (k : Int) (w : World) (hk : (Lit.int .i64 k).wf = true) : Calls Try.prog 4 #[.int .i64 k] w fun e w' => e = .returned (.bool true) ∧ Below w.heap.size w w' := by
  clear hk
  go_enter Try.func4, Try.ntmps4
  go_wp2_with (first | (go_at_call 18; refine (rotationUnits_spec _ _).mono ?_; rintro e w' ⟨rfl, rfl⟩) | (go_at_call 19; refine (rotationUnits_impl _ _).mono ?_; rintro e w' ⟨rfl, rfl⟩))
  go_ret
  exact ⟨rfl, Below.refl _ _⟩
theorem law_paulisCommute (n1 x1 z1 p1 n2 x2 z2 p2 : Int) (w : World) (hn1 : (Lit.int .i64 n1).wf = true) (hx1 : (Lit.int .i64 x1).wf = true) (hz1 : (Lit.int .i64 z1).wf = true) (hp1 : (Lit.int .i64 p1).wf = true) (hn2 : (Lit.int .i64 n2).wf = true) (hx2 : (Lit.int .i64 x2).wf = true) (hz2 : (Lit.int .i64 z2).wf = true) (hp2 : (Lit.int .i64 p2).wf = true) : Calls Try.prog 5 #[.agg #[.int .i64 n1, .int .i64 x1, .int .i64 z1, .int .i64 p1], .agg #[.int .i64 n2, .int .i64 x2, .int .i64 z2, .int .i64 p2]] w fun e w' => e = .returned (.bool true) ∧ Below w.heap.size w w' := by
  clear hn1 hx1 hz1 hp1 hn2 hx2 hz2 hp2
  go_enter Try.func5, Try.ntmps5
  go_wp2_with fail
  refine wp_region_later (by kernel_rfl) (by kernel_rfl) ?_
  repeat (any_goals (first | go_big_quiet_step ((first | (go_at_call 16; exact later_of (toPauli_any _ _ _ _ _)) | (go_at_call 20; exact later_of (paulisCommute_spec _ _ _ _ _ _ _ _ _)))) | quiet_step ((first | (go_at_call 16; exact later_of (toPauli_any _ _ _ _ _)) | (go_at_call 20; exact later_of (paulisCommute_spec _ _ _ _ _ _ _ _ _)))) | (refine wpQuiet_step (fun K hK => ?_); go_simp; split <;> (refine hK _ ?_; clear hK K))))
  all_goals (refine wpQuiet_nil ?_; intro _ hw'; obtain ⟨x1, hw''⟩ := hw'; subst hw''; have b1 := later_below _ x1; generalize later _ x1 = w1 at *; clear x1)
  obtain ⟨hc1, hf1⟩ := bcell b1
  have hz1 := b1.size
  try simp only [World.size_alloc, World.size_setCell, World.size_drew, World.heap_drewN] at hz1
  have hl1a : w.heap.size < w1.heap.size := by omega
  have hl1b : w.heap.size + 1 < w1.heap.size := by omega
  go_wp2_with fail
  refine wp_region_later (by kernel_rfl) (by kernel_rfl) ?_
  repeat (any_goals (first | go_big_quiet_step ((first | (go_at_call 16; exact later_of (toPauli_any _ _ _ _ _)) | (go_at_call 21; exact later_of (paulisCommute_impl _ _ _ _ _ _ _ _ _)))) | quiet_step ((first | (go_at_call 16; exact later_of (toPauli_any _ _ _ _ _)) | (go_at_call 21; exact later_of (paulisCommute_impl _ _ _ _ _ _ _ _ _)))) | (refine wpQuiet_step (fun K hK => ?_); go_simp; split <;> (refine hK _ ?_; clear hK K))))
  all_goals (refine wpQuiet_nil ?_; intro _ hw'; obtain ⟨x2, hw''⟩ := hw'; subst hw''; have b2 := later_below _ x2; generalize later _ x2 = w2 at *; clear x2)
  go_wp2_with fail
  go_ret
  refine ⟨rfl, ?_⟩
  repeat' (first | (with_reducible exact Below.refl _ _) | (with_reducible refine below_drewN ?_ _) | (with_reducible refine Below.drew ?_) | (with_reducible refine Below.alloc ?_ ?_ _) | (with_reducible refine Below.setCell ?_ ?_ _) | (with_reducible refine Below.trans ?_ (Below.mono (by with_reducible assumption) ?_)) | go_size)
theorem law_isHermitianPauli (n1 x1 z1 p1 : Int) (w : World) (hn1 : (Lit.int .i64 n1).wf = true) (hx1 : (Lit.int .i64 x1).wf = true) (hz1 : (Lit.int .i64 z1).wf = true) (hp1 : (Lit.int .i64 p1).wf = true) : Calls Try.prog 7 #[.agg #[.int .i64 n1, .int .i64 x1, .int .i64 z1, .int .i64 p1]] w fun e w' => e = .returned (.bool true) ∧ Below w.heap.size w w' := by
  clear hn1 hx1 hz1 hp1
  go_enter Try.func7, Try.ntmps7
  go_wp2_with fail
  refine (toPauli_any _ _ _ _ _).mono ?_
  rintro e w1 ⟨rfl, b1⟩
  obtain ⟨hc1, hf1⟩ := bcell b1
  have hz1 := b1.size
  try simp only [World.size_alloc, World.size_setCell, World.size_drew, World.heap_drewN] at hz1
  have hl1a : w.heap.size < w1.heap.size := by omega
  go_wp2_with fail
  refine (isHermitianPauli_spec _ _ _ _ _).mono ?_
  rintro e w2 ⟨rfl, b2⟩
  obtain ⟨hc2, hf2⟩ := bcell b2
  have hz2 := b2.size
  try simp only [World.size_alloc, World.size_setCell, World.size_drew, World.heap_drewN] at hz2
  have hl2a : w.heap.size < w2.heap.size := by omega
  go_wp2_with fail
  refine (toPauli_any _ _ _ _ _).mono ?_
  rintro e w3 ⟨rfl, b3⟩
  obtain ⟨hc3, hf3⟩ := bcell b3
  have hz3 := b3.size
  try simp only [World.size_alloc, World.size_setCell, World.size_drew, World.heap_drewN] at hz3
  have hl3a : w.heap.size < w3.heap.size := by omega
  go_wp2_with fail
  refine (isHermitianPauli_impl _ _ _ _ _).mono ?_
  rintro e w4 ⟨rfl, b4⟩
  obtain ⟨hc4, hf4⟩ := bcell b4
  have hz4 := b4.size
  try simp only [World.size_alloc, World.size_setCell, World.size_drew, World.heap_drewN] at hz4
  have hl4a : w.heap.size < w4.heap.size := by omega
  go_wp2_with fail
  go_ret
  refine ⟨rfl, ?_⟩
  repeat' (first | (with_reducible exact Below.refl _ _) | (with_reducible refine below_drewN ?_ _) | (with_reducible refine Below.drew ?_) | (with_reducible refine Below.alloc ?_ ?_ _) | (with_reducible refine Below.setCell ?_ ?_ _) | (with_reducible refine Below.trans ?_ (Below.mono (by with_reducible assumption) ?_)) | go_size)
end Go.Proofs.Ytiemkfifklaadaa
