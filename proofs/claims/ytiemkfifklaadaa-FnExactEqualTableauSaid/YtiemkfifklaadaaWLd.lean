/- The walks of exact laws on tableaux: EqualTableau. -/
import Derived.Test.YtiemkfifklaadaaWd
import Derived.Test.YtiemkfifklaadaaFr
namespace Go.Proofs.Ytiemkfifklaadaa
open Go.RowKit Pop
set_option linter.unusedVariables false
set_option linter.unusedSimpArgs false

set_option maxHeartbeats 1000000 in
theorem law_equalTableau (N : Int) (A : Option Addr) (n c : Nat) (l : List Quad) (M : Int) (B : Option Addr) (m d : Nat) (r : List Quad) (w : World) (hN : (Lit.int .i64 N).wf = true) (hq : IsQuads w A n c l) (hM : (Lit.int .i64 M).wf = true) (hq2 : IsQuads w B m d r) :
    Calls Try.prog 10 #[.agg #[.int .i64 N, .slice A n c], .agg #[.int .i64 M, .slice B m d]] w fun e w' => e = .returned (.bool true) ∧ Below w.heap.size w w' := by
  clear hN hM
  obtain ⟨hm1, ha⟩ := hq
  obtain ⟨hm2, hb⟩ := hq2
  have hl := Lib.hid ha.1
  have hr := Lib.hid hb.1
  have Hm1 := Lib.hid hm1; clear hm1
  have Hm2 := Lib.hid hm2; clear hm2
  by_cases hn : n ≤ 1048576
  · have hn' : (n : Int) ≤ 1048576 := by omega
    by_cases hs : (m : Int) ≤ 1048576 - (n : Int)
    · have hln : l.length ≤ 1048576 := by have := hl.out; omega
      have hrn : r.length ≤ 1048576 := by have := hr.out; omega
      have hm' : m ≤ 1048576 := by omega
      go_enter Try.func10, Try.ntmps10
      go_wp2_with fail
      refine (szTableau_ok _ _ _ _ _ _ hn' (by omega)).mono ?_
      rintro e w1 ⟨rfl, b1⟩
      obtain ⟨hc1, hf1⟩ := bcell b1
      have hz1 := b1.size
      try simp only [World.size_alloc, World.size_setCell, World.size_drew, World.heap_drewN] at hz1
      have hl1a : w.heap.size < w1.heap.size := by omega
      have hl1b : w.heap.size + 1 < w1.heap.size := by omega
      go_wp2_with fail
      refine (szTableau_ok _ _ _ _ _ _ hs (by omega)).mono ?_
      rintro e w2 ⟨rfl, b2⟩
      obtain ⟨hc2, hf2⟩ := bcell b2
      have hz2 := b2.size
      try simp only [World.size_alloc, World.size_setCell, World.size_drew, World.heap_drewN] at hz2
      have hl2a : w.heap.size < w2.heap.size := by omega
      have hl2b : w.heap.size + 1 < w2.heap.size := by omega
      go_wp2_with fail
      have ha2 := (((ha.alloc (.cells #[.int .i64 N, .slice A n c] 44)).alloc (.cells #[.int .i64 M, .slice B m d] 44)).below b1).below b2
      have hb2 := (((hb.alloc (.cells #[.int .i64 N, .slice A n c] 44)).alloc (.cells #[.int .i64 M, .slice B m d] 44)).below b1).below b2
      apply wp_region_makes [0, 2] [1, 3] [4, 5] [] (fun j => if j = 1 then TabΨ 25 N l else TabΨ 25 M r) (by kernel_rfl) (by kernel_rfl) (fun _ _ d _ _ h => by cases d <;> exact h)
      case hst =>
        intro j b t u w w' h1 h2 h3
        by_cases hj1 : j = 1
        · simp only [hj1, if_true] at h1 ⊢; exact h1.stable h2 h3
        simp only [hj1, if_false] at h1 ⊢
        exact h1.stable h2 h3
      case hq =>
        intro Φ hΦ hn
        simp only [pickOps, List.filterMap_cons, List.filterMap_nil, List.getElem?_toArray, List.getElem?_cons_zero, List.getElem?_cons_succ]
        repeat (first | go_big_quiet_step ((fail)) | quiet_step ((fail)))
        exact wpQuiet_nil rfl
      case hmk =>
        intro j hj o ho w' hb'
        simp only [List.mem_cons, List.not_mem_nil, or_false] at hj
        rcases hj with rfl | rfl
        · simp only [List.getElem?_toArray, List.getElem?_cons_zero, List.getElem?_cons_succ, Option.some.injEq] at ho
          subst ho
          simp only [if_true, if_false]
          refine MakesP.call (f := 37) (args := #[.agg #[.int .i64 N, .slice A n c]]) (by go_simp) ?_
          exact RetT.made (toTableau_any N A n c l w' (ha2.below hb') hn)
        · simp only [List.getElem?_toArray, List.getElem?_cons_zero, List.getElem?_cons_succ, Option.some.injEq] at ho
          subst ho
          simp only [if_true, if_false, show ¬ ((3 : Nat) = 1) from by omega]
          refine MakesP.call (f := 37) (args := #[.agg #[.int .i64 M, .slice B m d]]) (by go_simp) ?_
          exact RetT.made (toTableau_any M B m d r w' (hb2.below hb') hm')
      intro U Bs Ts w3 b3 hmade3 hdiff3
      have m3_1 := hmade3 1 (by simp)
      have m3_3 := hmade3 3 (by simp)
      have d3_1_3 := hdiff3 1 (by simp) 3 (by simp) (by omega)
      clear hmade3 hdiff3
      simp only [if_true, if_false] at m3_1
      obtain ⟨hBl3_1, hBT3_1, hTu3_1, hp3_1⟩ := m3_1
      obtain ⟨A3_1, c3_1, hu3_1, o3_1⟩ := hp3_1
      simp only [if_true, if_false, show ¬ ((3 : Nat) = 1) from by omega] at m3_3
      obtain ⟨hBl3_3, hBT3_3, hTu3_3, hp3_3⟩ := m3_3
      obtain ⟨A3_3, c3_3, hu3_3, o3_3⟩ := hp3_3
      simp only [putMk, dstOf, List.getElem?_toArray, List.getElem?_cons_zero, List.getElem?_cons_succ, Option.bind_some, hu3_1, hu3_3]
      clear hu3_1
      clear hu3_3
      clear U
      generalize Bs 1 = g3_1 at *
      generalize Ts 1 = t3_1 at *
      generalize Bs 3 = g3_3 at *
      generalize Ts 3 = t3_3 at *
      clear Bs Ts
      simp only [pickOps, List.filterMap_cons, List.filterMap_nil, List.getElem?_toArray, List.getElem?_cons_zero, List.getElem?_cons_succ]
      obtain ⟨hc3, hf3⟩ := bcell b3
      have hz3 := b3.size
      try simp only [World.size_alloc, World.size_setCell, World.size_drew, World.heap_drewN] at hz3
      have hl3a : w.heap.size < w3.heap.size := by omega
      have hl3b : w.heap.size + 1 < w3.heap.size := by omega
      have ha3 := ha2.below b3
      have hb3 := hb2.below b3
      go_wp2_with fail
      refine (equalTableau_spec N M A3_1 A3_3 _ _ c3_1 c3_3 l r _ o3_1.reads o3_3.reads hln).mono ?_
      rintro e w4 ⟨rfl, b4⟩
      obtain ⟨hc4, hf4⟩ := bcell b4
      have hz4 := b4.size
      try simp only [World.size_alloc, World.size_setCell, World.size_drew, World.heap_drewN] at hz4
      have hl4a : w.heap.size < w4.heap.size := by omega
      have hl4b : w.heap.size + 1 < w4.heap.size := by omega
      go_wp2_with fail
      refine (toTableau_any N A n c l _ (ha3.below b4) hn).mono ?_
      rintro e w5 ⟨A5, c5, rfl, o5, b5⟩
      obtain ⟨hc5, hf5⟩ := bcell b5
      have hz5 := b5.size
      try simp only [World.size_alloc, World.size_setCell, World.size_drew, World.heap_drewN] at hz5
      have hl5a : w.heap.size < w5.heap.size := by omega
      have hl5b : w.heap.size + 1 < w5.heap.size := by omega
      go_wp2_with fail
      refine (toTableau_any M B m d r _ (((hb3.below b4).below b5).alloc _) hm').mono ?_
      rintro e w6 ⟨A6, c6, rfl, o6, b6⟩
      obtain ⟨hc6, hf6⟩ := bcell b6
      have hz6 := b6.size
      try simp only [World.size_alloc, World.size_setCell, World.size_drew, World.heap_drewN] at hz6
      have hl6a : w.heap.size < w6.heap.size := by omega
      have hl6b : w.heap.size + 1 < w6.heap.size := by omega
      have hl6c : w5.heap.size < w6.heap.size := by omega
      have o5' : OwnQ w6 w4.heap.size 25 (.slice A5 l.length c5) l := (o5.below ((Below.refl _ _).alloc (Nat.le_refl _) _)).below b6
      go_wp2_with fail
      refine (equalTableau_impl N M A5 A6 _ _ c5 c6 l r _ (o5'.reads.alloc _) (o6.reads.alloc _) hln).mono ?_
      rintro e w7 ⟨rfl, b7⟩
      obtain ⟨hc7, hf7⟩ := bcell b7
      have hz7 := b7.size
      try simp only [World.size_alloc, World.size_setCell, World.size_drew, World.heap_drewN] at hz7
      have hl7a : w.heap.size < w7.heap.size := by omega
      have hl7b : w.heap.size + 1 < w7.heap.size := by omega
      have hl7c : w5.heap.size < w7.heap.size := by omega
      have hl7d : w6.heap.size < w7.heap.size := by omega
      go_wp2_with fail
      have ha7 : SlQ w7 A n l := (((((ha3.below b4).below b5).alloc _).below b6).alloc _).below b7
      have hb7 : SlQ w7 B m r := (((((hb3.below b4).below b5).alloc _).below b6).alloc _).below b7
      have o57 : OwnQ w7 w4.heap.size 25 (.slice A5 l.length c5) l := (o5'.below ((Below.refl _ _).alloc (Nat.le_refl _) _)).below b7
      have o67 := (o6.below ((Below.refl _ _).alloc (Nat.le_refl _) (.cells #[.int .i64 M, .slice A6 r.length c6] 49))).below b7
      apply wp_region_makes [0, 1] [2] [3, 4] [] (fun j => TabΨ 25 N l) (by kernel_rfl) (by kernel_rfl) (fun _ _ d _ _ h => by cases d <;> exact h)
      case hst =>
        intro j b t u w w' h1 h2 h3
        exact h1.stable h2 h3
      case hq =>
        intro Φ hΦ hn
        simp only [pickOps, List.filterMap_cons, List.filterMap_nil, List.getElem?_toArray, List.getElem?_cons_zero, List.getElem?_cons_succ]
        repeat (first | go_big_quiet_step ((fail)) | quiet_step ((fail)))
        exact wpQuiet_nil rfl
      case hmk =>
        intro j hj o ho w' hb'
        simp only [List.mem_cons, List.not_mem_nil, or_false] at hj
        rcases hj with rfl
        · simp only [List.getElem?_toArray, List.getElem?_cons_zero, List.getElem?_cons_succ, Option.some.injEq] at ho
          subst ho
          refine MakesP.call (f := 37) (args := #[.agg #[.int .i64 N, .slice A n c]]) (by go_simp) ?_
          exact RetT.made (toTableau_any N A n c l w' (ha7.below hb') hn)
      intro U Bs Ts w8 b8 hmade8 hdiff8
      have m8_2 := hmade8 2 (by simp)
      clear hmade8 hdiff8
      obtain ⟨hBl8_2, hBT8_2, hTu8_2, hp8_2⟩ := m8_2
      obtain ⟨A8_2, c8_2, hu8_2, o8_2⟩ := hp8_2
      simp only [putMk, dstOf, List.getElem?_toArray, List.getElem?_cons_zero, List.getElem?_cons_succ, Option.bind_some, hu8_2]
      clear hu8_2
      clear U
      generalize Bs 2 = g8_2 at *
      generalize Ts 2 = t8_2 at *
      clear Bs Ts
      simp only [pickOps, List.filterMap_cons, List.filterMap_nil, List.getElem?_toArray, List.getElem?_cons_zero, List.getElem?_cons_succ]
      obtain ⟨hc8, hf8⟩ := bcell b8
      have hz8 := b8.size
      try simp only [World.size_alloc, World.size_setCell, World.size_drew, World.heap_drewN] at hz8
      have hl8a : w.heap.size < w8.heap.size := by omega
      have hl8b : w.heap.size + 1 < w8.heap.size := by omega
      have hl8c : w5.heap.size < w8.heap.size := by omega
      have hl8d : w6.heap.size < w8.heap.size := by omega
      go_wp2_with fail
      refine (eqTableau_any N N A5 A8_2 _ _ c5 c8_2 l l _ (o57.below b8).reads o8_2.reads hln).mono ?_
      rintro e w9 ⟨rfl, b9⟩
      obtain ⟨hc9, hf9⟩ := bcell b9
      have hz9 := b9.size
      try simp only [World.size_alloc, World.size_setCell, World.size_drew, World.heap_drewN] at hz9
      have hl9a : w.heap.size < w9.heap.size := by omega
      have hl9b : w.heap.size + 1 < w9.heap.size := by omega
      have hl9c : w5.heap.size < w9.heap.size := by omega
      have hl9d : w6.heap.size < w9.heap.size := by omega
      go_wp2_with fail
      apply wp_region_makes [0, 1] [2] [3, 4] [] (fun j => TabΨ 25 M r) (by kernel_rfl) (by kernel_rfl) (fun _ _ d _ _ h => by cases d <;> exact h)
      case hst =>
        intro j b t u w w' h1 h2 h3
        exact h1.stable h2 h3
      case hq =>
        intro Φ hΦ hn
        simp only [pickOps, List.filterMap_cons, List.filterMap_nil, List.getElem?_toArray, List.getElem?_cons_zero, List.getElem?_cons_succ]
        repeat (first | go_big_quiet_step ((fail)) | quiet_step ((fail)))
        exact wpQuiet_nil rfl
      case hmk =>
        intro j hj o ho w' hb'
        simp only [List.mem_cons, List.not_mem_nil, or_false] at hj
        rcases hj with rfl
        · simp only [List.getElem?_toArray, List.getElem?_cons_zero, List.getElem?_cons_succ, Option.some.injEq] at ho
          subst ho
          refine MakesP.call (f := 37) (args := #[.agg #[.int .i64 M, .slice B m d]]) (by go_simp) ?_
          exact RetT.made (toTableau_any M B m d r w' (((hb7.below b8).below b9).below hb') hm')
      intro U Bs Ts w10 b10 hmade10 hdiff10
      have m10_2 := hmade10 2 (by simp)
      clear hmade10 hdiff10
      obtain ⟨hBl10_2, hBT10_2, hTu10_2, hp10_2⟩ := m10_2
      obtain ⟨A10_2, c10_2, hu10_2, o10_2⟩ := hp10_2
      simp only [putMk, dstOf, List.getElem?_toArray, List.getElem?_cons_zero, List.getElem?_cons_succ, Option.bind_some, hu10_2]
      clear hu10_2
      clear U
      generalize Bs 2 = g10_2 at *
      generalize Ts 2 = t10_2 at *
      clear Bs Ts
      simp only [pickOps, List.filterMap_cons, List.filterMap_nil, List.getElem?_toArray, List.getElem?_cons_zero, List.getElem?_cons_succ]
      go_wp2_with fail
      refine (eqTableau_any M M A6 A10_2 _ _ c6 c10_2 r r _ (((o67.below b8).below b9).below b10).reads o10_2.reads hrn).mono ?_
      rintro e w11 ⟨rfl, b11⟩
      go_wp2_with fail
      go_ret
      refine ⟨rfl, ?_⟩
      repeat' (first | (with_reducible exact Below.refl _ _) | (with_reducible refine below_drewN ?_ _) | (with_reducible refine Below.drew ?_) | (with_reducible refine Below.alloc ?_ ?_ _) | (with_reducible refine Below.setCell ?_ ?_ _) | (with_reducible refine Below.trans ?_ (Below.mono (by with_reducible assumption) ?_)) | go_size | (with_reducible refine Nat.le_trans ?_ (Below.size (by with_reducible assumption))))
    · have hs' : 1048576 - (n : Int) < (m : Int) := by omega
      go_enter Try.func10, Try.ntmps10
      go_wp2_with fail
      refine (szTableau_ok _ _ _ _ _ _ hn' (by omega)).mono ?_
      rintro e w1 ⟨rfl, b1⟩
      obtain ⟨hc1, hf1⟩ := bcell b1
      have hz1 := b1.size
      try simp only [World.size_alloc, World.size_setCell, World.size_drew, World.heap_drewN] at hz1
      have hl1a : w.heap.size < w1.heap.size := by omega
      have hl1b : w.heap.size + 1 < w1.heap.size := by omega
      go_wp2_with fail
      refine (szTableau_big _ _ _ _ _ _ hs' (by omega) Hm2.out).mono ?_
      rintro e w2 ⟨rfl, b2⟩
      obtain ⟨hc2, hf2⟩ := bcell b2
      have hz2 := b2.size
      try simp only [World.size_alloc, World.size_setCell, World.size_drew, World.heap_drewN] at hz2
      have hl2a : w.heap.size < w2.heap.size := by omega
      have hl2b : w.heap.size + 1 < w2.heap.size := by omega
      go_wp2_with fail
      go_ret
      refine ⟨rfl, ?_⟩
      repeat' (first | (with_reducible exact Below.refl _ _) | (with_reducible refine below_drewN ?_ _) | (with_reducible refine Below.drew ?_) | (with_reducible refine Below.alloc ?_ ?_ _) | (with_reducible refine Below.setCell ?_ ?_ _) | (with_reducible refine Below.trans ?_ (Below.mono (by with_reducible assumption) ?_)) | go_size | (with_reducible refine Nat.le_trans ?_ (Below.size (by with_reducible assumption))))
  · have hn' : (1048576 : Int) < (n : Int) := by omega
    go_enter Try.func10, Try.ntmps10
    go_wp2_with fail
    refine (szTableau_big _ _ _ _ _ _ hn' (by omega) Hm1.out).mono ?_
    rintro e w1 ⟨rfl, b1⟩
    obtain ⟨hc1, hf1⟩ := bcell b1
    have hz1 := b1.size
    try simp only [World.size_alloc, World.size_setCell, World.size_drew, World.heap_drewN] at hz1
    have hl1a : w.heap.size < w1.heap.size := by omega
    have hl1b : w.heap.size + 1 < w1.heap.size := by omega
    go_wp2_with fail
    go_ret
    refine ⟨rfl, ?_⟩
    repeat' (first | (with_reducible exact Below.refl _ _) | (with_reducible refine below_drewN ?_ _) | (with_reducible refine Below.drew ?_) | (with_reducible refine Below.alloc ?_ ?_ _) | (with_reducible refine Below.setCell ?_ ?_ _) | (with_reducible refine Below.trans ?_ (Below.mono (by with_reducible assumption) ?_)) | go_size | (with_reducible refine Nat.le_trans ?_ (Below.size (by with_reducible assumption))))
end Go.Proofs.Ytiemkfifklaadaa
