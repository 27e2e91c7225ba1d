/- The walk of FnExactIdentityTableau. -/
import Derived.Test.YtiemkfifklaadaaWg
import Derived.Test.YtiemkfifklaadaaFr
namespace Go.Proofs.Ytiemkfifklaadaa
open Go.RowKit Pop
set_option linter.unusedVariables false
set_option linter.unusedSimpArgs false
set_option maxHeartbeats 1000000 in
theorem law_identityTableau (n : Int) (w : World) (hn : (Lit.int .i64 n).wf = true) : Calls Try.prog 13 #[.int .i64 n] w fun e w' => e = .returned (.bool true) ∧ Below w.heap.size w w' := by
  clear hn
  have hln := idTab_len n
  obtain ⟨⟨N, L⟩, hL⟩ : ∃ p, p = idTab n := ⟨_, rfl⟩
  rw [← hL] at hln
  simp only at hln
  have HL := Lib.hid hL
  clear hL
  have cs : ∀ W, Calls Try.prog 45 #[.int .i64 n] W (RetT 25 N L W) := fun W => by have := identityTableau_spec n W; rwa [← HL.out] at this
  have ci : ∀ W, Calls Try.prog 46 #[.int .i64 n] W (RetT 25 N L W) := fun W => by have := identityTableau_impl n W; rwa [← HL.out] at this
  have Cs := Lib.hid cs; clear cs
  have Ci := Lib.hid ci; clear ci
  go_enter Try.func13, Try.ntmps13
  go_wp2_with fail
  refine (Cs.out _).mono ?_
  rintro e w1 ⟨A1, c1, rfl, o1, b1⟩
  go_wp2_with fail
  refine (Ci.out _).mono ?_
  rintro e w2 ⟨A2, c2, rfl, o2, b2⟩
  obtain ⟨hc2, hf2⟩ := bcell b2
  have hz2 := b2.size
  try simp only [World.size_alloc, World.size_setCell, World.size_drew, World.heap_drewN] at hz2
  have hl2a : w1.heap.size < w2.heap.size := by omega
  have o12 := (o1.below ((Below.refl _ _).alloc (Nat.le_refl _) (.cells #[.int .i64 N, .slice A1 L.length c1] 49))).below b2
  go_wp2_with fail
  refine (eqTableau_any N N A2 A1 _ _ c2 c1 L L _ (o2.below ((Below.refl _ _).alloc (Nat.le_refl _) _)).reads (o12.below ((Below.refl _ _).alloc (Nat.le_refl _) _)).reads (by omega)).mono ?_
  rintro e w3 ⟨rfl, b3⟩
  obtain ⟨hc3, hf3⟩ := bcell b3
  have hz3 := b3.size
  try simp only [World.size_alloc, World.size_setCell, World.size_drew, World.heap_drewN] at hz3
  have hl3a : w1.heap.size < w3.heap.size := by omega
  have hl3b : w2.heap.size < w3.heap.size := by omega
  go_wp2_with fail
  have o23 : OwnQ w3 (w1.heap.size + 1) 25 (.slice A2 L.length c2) L := by have := (o2.below ((Below.refl _ _).alloc (Nat.le_refl _) (.cells #[.int .i64 N, .slice A2 L.length c2] 49))).below b3; simpa using this
  have o13 := (o12.below ((Below.refl _ _).alloc (Nat.le_refl _) (.cells #[.int .i64 N, .slice A2 L.length c2] 49))).below b3
  have n2 : ∀ a, A2 = some a → a.block ≠ w2.heap.size := o2.ne (.inr (Nat.le_refl _))
  have n1 : ∀ a, A2 = some a → a.block ≠ w1.heap.size := o2.ne (.inl (by simp))
  refine (markTableau_but N A2 _ c2 _ 1 L _ o23 (by omega) (by omega) (by omega)).mono ?_
  rintro e w4 ⟨rfl, o4, b4, u4⟩
  have k4a := fun o => u4.cell hl3a n1 o
  have k4b := fun o => u4.cell hl3b n2 o
  have f4a := fun o => u4.frozen hl3a n1 o
  have f4b := fun o => u4.frozen hl3b n2 o
  have hz4 := b4.size
  have hl4a : w1.heap.size < w4.heap.size := by omega
  have hl4b : w2.heap.size < w4.heap.size := by omega
  have r14 : SlQ w4 A1 L.length L := by
    refine (o1.reads.keep ?_ fun p hp => ?_)
    · omega
    · have h1 : p.block < (w1.alloc (.cells #[.int .i64 N, .slice A1 L.length c1] 49)).heap.size := by simp; omega
      have h2 : p.block < (w2.alloc (.cells #[.int .i64 N, .slice A2 L.length c2] 49)).heap.size := by simp; omega
      exact (b4.cell (by omega)).trans ((b3.cell h2).trans ((((Below.refl w2.heap.size w2).alloc (Nat.le_refl _) _).cell (by omega)).trans ((b2.cell h1).trans (((Below.refl w1.heap.size w1).alloc (Nat.le_refl _) _).cell hp))))
  go_wp2_with fail
  refine (heldTableau_any N A2 _ c2 1 _ o4.reads (by omega) (by omega)).mono ?_
  rintro e w5 ⟨rfl, b5⟩
  obtain ⟨hc5, hf5⟩ := bcell b5
  have hz5 := b5.size
  try simp only [World.size_alloc, World.size_setCell, World.size_drew, World.heap_drewN] at hz5
  have hl5a : w1.heap.size < w5.heap.size := by omega
  have hl5b : w2.heap.size < w5.heap.size := by omega
  go_wp2_with fail
  refine (Ci.out _).mono ?_
  rintro e w6 ⟨A6, c6, rfl, o6, b6⟩
  obtain ⟨hc6, hf6⟩ := bcell b6
  have hz6 := b6.size
  try simp only [World.size_alloc, World.size_setCell, World.size_drew, World.heap_drewN] at hz6
  have hl6a : w1.heap.size < w6.heap.size := by omega
  have hl6b : w2.heap.size < w6.heap.size := by omega
  go_wp2_with fail
  have r16 := ((r14.below b5).below b6)
  refine (eqTableau_any N N A6 A1 _ _ c6 c1 L L _ (o6.below ((Below.refl _ _).alloc (Nat.le_refl _) _)).reads (r16.alloc _) (by omega)).mono ?_
  rintro e w7 ⟨rfl, b7⟩
  obtain ⟨hc7, hf7⟩ := bcell b7
  have hz7 := b7.size
  try simp only [World.size_alloc, World.size_setCell, World.size_drew, World.heap_drewN] at hz7
  have hl7a : w1.heap.size < w7.heap.size := by omega
  have hl7b : w2.heap.size < w7.heap.size := by omega
  have hl7c : w6.heap.size < w7.heap.size := by omega
  go_wp2_with fail
  refine (heldTableau_any N A2 _ c2 1 _ ((((o4.below b5).below b6).below ((Below.refl _ _).alloc (Nat.le_refl _) _)).below b7).reads (by omega) (by omega)).mono ?_
  rintro e w8 ⟨rfl, b8⟩
  go_wp2_with fail
  go_ret
  refine ⟨rfl, ?_⟩
  have hz1 := b1.size
  repeat' (first | (with_reducible exact Below.refl _ _) | (with_reducible refine below_drewN ?_ _) | (with_reducible refine Below.drew ?_) | (with_reducible refine Below.alloc ?_ ?_ _) | (with_reducible refine Below.setCell ?_ ?_ _) | (with_reducible refine Below.trans ?_ (Below.mono (by with_reducible assumption) ?_)) | go_size | (with_reducible refine Nat.le_trans ?_ (Below.size (by with_reducible assumption))))
  all_goals (try simp only [World.size_alloc]); omega
end Go.Proofs.Ytiemkfifklaadaa
