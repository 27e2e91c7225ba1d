/- The walks of exact laws on Paulis. -/
import Derived.Test.YtiemkfifklaadaaWb
import Derived.Test.YtiemkfifklaadaaWq
import Derived.Test.YtiemkfifklaadaaMake
namespace Go.Proofs.Ytiemkfifklaadaa
open Go.RowKit Pop
set_option linter.unusedVariables false
set_option linter.unusedSimpArgs false

theorem law_rotationUnits (k : Int) (w : World) (hk : (Lit.int .i64 k).wf = true) : Calls Try.prog 4 #[.int .i64 k] w fun e w' => e = .returned (.bool true) ∧ Below w.heap.size w w' := by
  clear hk
  go_enter Try.func4, Try.ntmps4
  go_wp2_with (first | (go_at_call 18; refine (rotationUnits_spec _ _).mono ?_; rintro e w' ⟨rfl, rfl⟩) | (go_at_call 19; refine (rotationUnits_impl _ _).mono ?_; rintro e w' ⟨rfl, rfl⟩))
  go_ret
  exact ⟨rfl, Below.refl _ _⟩
theorem law_paulisCommute (n1 x1 z1 p1 n2 x2 z2 p2 : Int) (w : World) (hn1 : (Lit.int .i64 n1).wf = true) (hx1 : (Lit.int .i64 x1).wf = true) (hz1 : (Lit.int .i64 z1).wf = true) (hp1 : (Lit.int .i64 p1).wf = true) (hn2 : (Lit.int .i64 n2).wf = true) (hx2 : (Lit.int .i64 x2).wf = true) (hz2 : (Lit.int .i64 z2).wf = true) (hp2 : (Lit.int .i64 p2).wf = true) : Calls Try.prog 5 #[.agg #[.int .i64 n1, .int .i64 x1, .int .i64 z1, .int .i64 p1], .agg #[.int .i64 n2, .int .i64 x2, .int .i64 z2, .int .i64 p2]] w fun e w' => e = .returned (.bool true) ∧ Below w.heap.size w w' := by
  clear hn1 hx1 hz1 hp1 hn2 hx2 hz2 hp2
  go_enter Try.func5, Try.ntmps5
  go_wp2_with fail
  refine wp_region_later (by kernel_rfl) (by kernel_rfl) ?_
  repeat (any_goals (first | go_big_quiet_step ((first | (go_at_call 16; exact later_of (toPauli_any _ _ _ _ _)) | (go_at_call 20; exact later_of (paulisCommute_spec _ _ _ _ _ _ _ _ _)))) | quiet_step ((first | (go_at_call 16; exact later_of (toPauli_any _ _ _ _ _)) | (go_at_call 20; exact later_of (paulisCommute_spec _ _ _ _ _ _ _ _ _)))) | (refine wpQuiet_step (fun K hK => ?_); go_simp; split <;> (refine hK _ ?_; clear hK K))))
  all_goals (refine wpQuiet_nil ?_; intro _ hw'; obtain ⟨x1, hw''⟩ := hw'; subst hw''; have b1 := later_below _ x1; generalize later _ x1 = w1 at *; clear x1)
  obtain ⟨hc1, hf1⟩ := bcell b1
  have hz1 := b1.size
  try simp only [World.size_alloc, World.size_setCell, World.size_drew, World.heap_drewN] at hz1
  have hl1a : w.heap.size < w1.heap.size := by omega
  have hl1b : w.heap.size + 1 < w1.heap.size := by omega
  go_wp2_with fail
  refine wp_region_later (by kernel_rfl) (by kernel_rfl) ?_
  repeat (any_goals (first | go_big_quiet_step ((first | (go_at_call 16; exact later_of (toPauli_any _ _ _ _ _)) | (go_at_call 21; exact later_of (paulisCommute_impl _ _ _ _ _ _ _ _ _)))) | quiet_step ((first | (go_at_call 16; exact later_of (toPauli_any _ _ _ _ _)) | (go_at_call 21; exact later_of (paulisCommute_impl _ _ _ _ _ _ _ _ _)))) | (refine wpQuiet_step (fun K hK => ?_); go_simp; split <;> (refine hK _ ?_; clear hK K))))
  all_goals (refine wpQuiet_nil ?_; intro _ hw'; obtain ⟨x2, hw''⟩ := hw'; subst hw''; have b2 := later_below _ x2; generalize later _ x2 = w2 at *; clear x2)
  go_wp2_with fail
  go_ret
  refine ⟨rfl, ?_⟩
  repeat' (first | (with_reducible exact Below.refl _ _) | (with_reducible refine below_drewN ?_ _) | (with_reducible refine Below.drew ?_) | (with_reducible refine Below.alloc ?_ ?_ _) | (with_reducible refine Below.setCell ?_ ?_ _) | (with_reducible refine Below.trans ?_ (Below.mono (by with_reducible assumption) ?_)) | go_size)
theorem law_isHermitianPauli (n1 x1 z1 p1 : Int) (w : World) (hn1 : (Lit.int .i64 n1).wf = true) (hx1 : (Lit.int .i64 x1).wf = true) (hz1 : (Lit.int .i64 z1).wf = true) (hp1 : (Lit.int .i64 p1).wf = true) : Calls Try.prog 7 #[.agg #[.int .i64 n1, .int .i64 x1, .int .i64 z1, .int .i64 p1]] w fun e w' => e = .returned (.bool true) ∧ Below w.heap.size w w' := by
  clear hn1 hx1 hz1 hp1
  go_enter Try.func7, Try.ntmps7
  go_wp2_with fail
  refine (toPauli_any _ _ _ _ _).mono ?_
  rintro e w1 ⟨rfl, b1⟩
  obtain ⟨hc1, hf1⟩ := bcell b1
  have hz1 := b1.size
  try simp only [World.size_alloc, World.size_setCell, World.size_drew, World.heap_drewN] at hz1
  have hl1a : w.heap.size < w1.heap.size := by omega
  go_wp2_with fail
  refine (isHermitianPauli_spec _ _ _ _ _).mono ?_
  rintro e w2 ⟨rfl, b2⟩
  obtain ⟨hc2, hf2⟩ := bcell b2
  have hz2 := b2.size
  try simp only [World.size_alloc, World.size_setCell, World.size_drew, World.heap_drewN] at hz2
  have hl2a : w.heap.size < w2.heap.size := by omega
  go_wp2_with fail
  refine (toPauli_any _ _ _ _ _).mono ?_
  rintro e w3 ⟨rfl, b3⟩
  obtain ⟨hc3, hf3⟩ := bcell b3
  have hz3 := b3.size
  try simp only [World.size_alloc, World.size_setCell, World.size_drew, World.heap_drewN] at hz3
  have hl3a : w.heap.size < w3.heap.size := by omega
  go_wp2_with fail
  refine (isHermitianPauli_impl _ _ _ _ _).mono ?_
  rintro e w4 ⟨rfl, b4⟩
  obtain ⟨hc4, hf4⟩ := bcell b4
  have hz4 := b4.size
  try simp only [World.size_alloc, World.size_setCell, World.size_drew, World.heap_drewN] at hz4
  have hl4a : w.heap.size < w4.heap.size := by omega
  go_wp2_with fail
  go_ret
  refine ⟨rfl, ?_⟩
  repeat' (first | (with_reducible exact Below.refl _ _) | (with_reducible refine below_drewN ?_ _) | (with_reducible refine Below.drew ?_) | (with_reducible refine Below.alloc ?_ ?_ _) | (with_reducible refine Below.setCell ?_ ?_ _) | (with_reducible refine Below.trans ?_ (Below.mono (by with_reducible assumption) ?_)) | go_size)
set_option maxHeartbeats 1000000 in
theorem law_mulPauli (n1 x1 z1 p1 n2 x2 z2 p2 : Int) (w : World) (hn1 : (Lit.int .i64 n1).wf = true) (hx1 : (Lit.int .i64 x1).wf = true) (hz1 : (Lit.int .i64 z1).wf = true) (hp1 : (Lit.int .i64 p1).wf = true) (hn2 : (Lit.int .i64 n2).wf = true) (hx2 : (Lit.int .i64 x2).wf = true) (hz2 : (Lit.int .i64 z2).wf = true) (hp2 : (Lit.int .i64 p2).wf = true) : Calls Try.prog 11 #[.agg #[.int .i64 n1, .int .i64 x1, .int .i64 z1, .int .i64 p1], .agg #[.int .i64 n2, .int .i64 x2, .int .i64 z2, .int .i64 p2]] w fun e w' => e = .returned (.bool true) ∧ Below w.heap.size w w' := by
  clear hn1 hx1 hz1 hp1 hn2 hx2 hz2 hp2
  cases hm : mulOk n1 x1 z1 p1 n2 x2 z2 p2 with
  | true =>
    simp only [mulOk, Bool.and_eq_true, beq_iff_eq] at hm
    obtain ⟨ha, hb, rfl⟩ := hm
    have Ha := Lib.hid ha; clear ha
    have Hb := Lib.hid hb; clear hb
    go_enter Try.func11, Try.ntmps11
    go_wp2_with fail
    apply wp_region_make [0, 1, 2, 3, 4, 5, 6, 7] [8] [9, 10] [7] (fun _ g => .pointer (some ⟨g, 0, none⟩)) (fun _ => .cells #[.int .i64 0, .int .i64 0, .int .i64 0, .int .i64 0] 25) (by kernel_rfl) (by kernel_rfl) (fun _ _ d _ _ h => by cases d <;> exact h)
    case hq =>
      intro Φ hΦ hn
      simp only [pickOps, List.filterMap_cons, List.filterMap_nil, List.getElem?_toArray, List.getElem?_cons_zero, List.getElem?_cons_succ]
      repeat (first | go_big_quiet_step ((first | (go_at_call 16; exact laterF_of hΦ (toPauli_any _ _ _ _ _)) | (go_at_call 40; exact laterF_of hΦ (mulPauli_spec_ok _ _ _ _ _ _ _ _ Ha.out Hb.out)))) | quiet_step ((first | (go_at_call 16; exact laterF_of hΦ (toPauli_any _ _ _ _ _)) | (go_at_call 40; exact laterF_of hΦ (mulPauli_spec_ok _ _ _ _ _ _ _ _ Ha.out Hb.out)))))
      exact wpQuiet_nil rfl
    case hmk =>
      intro j hj o ho w' hb
      simp only [List.mem_singleton] at hj
      subst hj
      simp only [List.getElem?_toArray, List.getElem?_cons_zero, List.getElem?_cons_succ, Option.some.injEq] at ho
      subst ho
      go_simp
    intro G w1 b1 hmade1 hdiff1
    clear hdiff1
    simp only [List.mem_singleton, forall_eq] at hmade1
    obtain ⟨hgl1, hgu1, hgb1⟩ := hmade1
    simp only [putMk, dstOf, List.getElem?_toArray, List.getElem?_cons_zero, List.getElem?_cons_succ, Option.bind_some]
    simp only [pickOps, List.filterMap_cons, List.filterMap_nil, List.getElem?_toArray, List.getElem?_cons_zero, List.getElem?_cons_succ]
    generalize G 8 = g1 at *
    clear G
    obtain ⟨k0, k1, k2, k3, kf⟩ := blk4 hgb1
    go_wp2_with fail
    clear k0 k1 k2 k3 kf
    obtain ⟨w2, hw2, hgb2, hgs2, hgB2⟩ := stored4 hgb1 (.int .i64 n1) (.int .i64 (xorI x1 x2)) (.int .i64 (xorI z1 z2)) (.int .i64 (mulPh p1 p2 z1 x2))
    rw [← hw2]
    clear hw2
    have b2 := hgB2 _ _ b1 hgl1
    clear hgB2
    obtain ⟨k2a, k2b, k2c, k2d, k2f⟩ := blk4 hgb2
    have hgu2 : g1 < w2.heap.size := by rw [hgs2]; exact hgu1
    clear hgb1 hgu1 b1 hgs2
    obtain ⟨hc2, hf2⟩ := bcell b2
    have hz2 := b2.size
    try simp only [World.size_alloc, World.size_setCell, World.size_drew, World.heap_drewN] at hz2
    have hl2a : w.heap.size < w2.heap.size := by omega
    have hl2b : w.heap.size + 1 < w2.heap.size := by omega
    apply wp_region_make [0, 1, 2, 3, 4, 5, 6, 7] [8] [9, 10] [7] (fun _ g => .pointer (some ⟨g, 0, none⟩)) (fun _ => .cells #[.int .i64 0, .int .i64 0, .int .i64 0, .int .i64 0] 25) (by kernel_rfl) (by kernel_rfl) (fun _ _ d _ _ h => by cases d <;> exact h)
    case hq =>
      intro Φ hΦ hn
      simp only [pickOps, List.filterMap_cons, List.filterMap_nil, List.getElem?_toArray, List.getElem?_cons_zero, List.getElem?_cons_succ]
      repeat (first | go_big_quiet_step ((first | (go_at_call 16; exact laterF_of hΦ (toPauli_any _ _ _ _ _)) | (go_at_call 41; exact laterF_of hΦ (mulPauli_impl_ok _ _ _ _ _ _ _ _ Ha.out Hb.out)))) | quiet_step ((first | (go_at_call 16; exact laterF_of hΦ (toPauli_any _ _ _ _ _)) | (go_at_call 41; exact laterF_of hΦ (mulPauli_impl_ok _ _ _ _ _ _ _ _ Ha.out Hb.out)))))
      exact wpQuiet_nil rfl
    case hmk =>
      intro j hj o ho w' hb
      simp only [List.mem_singleton] at hj
      subst hj
      simp only [List.getElem?_toArray, List.getElem?_cons_zero, List.getElem?_cons_succ, Option.some.injEq] at ho
      subst ho
      go_simp
    intro G w3 b3 hmade3 hdiff3
    clear hdiff3
    simp only [List.mem_singleton, forall_eq] at hmade3
    obtain ⟨hgl3, hgu3, hgb3⟩ := hmade3
    simp only [putMk, dstOf, List.getElem?_toArray, List.getElem?_cons_zero, List.getElem?_cons_succ, Option.bind_some]
    simp only [pickOps, List.filterMap_cons, List.filterMap_nil, List.getElem?_toArray, List.getElem?_cons_zero, List.getElem?_cons_succ]
    generalize G 8 = g3 at *
    clear G
    obtain ⟨k0, k1, k2, k3, kf⟩ := blk4 hgb3
    have hbb := b3.block g1 (by omega)
    rw [hgb2] at hbb
    obtain ⟨j0, j1, j2, j3, jf⟩ := blk4 hbb
    have hne : ¬ (g3 = g1) := by omega
    have hne' : ¬ (g1 = g3) := by omega
    go_wp2_with fail
    refine (eqPauli_any _ _ _ _ _ _ _ _ _).mono ?_
    rintro e w5 ⟨rfl, b5⟩
    go_wp2_with fail
    go_ret
    refine ⟨rfl, ?_⟩
    repeat' (first | (with_reducible exact Below.refl _ _) | (with_reducible refine below_drewN ?_ _) | (with_reducible refine Below.drew ?_) | (with_reducible refine Below.alloc ?_ ?_ _) | (with_reducible refine Below.setCell ?_ ?_ _) | (with_reducible refine Below.trans ?_ (Below.mono (by with_reducible assumption) ?_)) | go_size)
  | false =>
    have Hm := Lib.hid hm; clear hm
    go_enter Try.func11, Try.ntmps11
    go_wp2_with fail
    apply wp_region_make [0, 1, 2, 3, 4, 5, 6, 7] [8] [9, 10] [7] (fun _ g => .pointer (some ⟨g, 0, none⟩)) (fun _ => .cells #[.int .i64 0, .int .i64 0, .int .i64 0, .int .i64 0] 25) (by kernel_rfl) (by kernel_rfl) (fun _ _ d _ _ h => by cases d <;> exact h)
    case hq =>
      intro Φ hΦ hn
      simp only [pickOps, List.filterMap_cons, List.filterMap_nil, List.getElem?_toArray, List.getElem?_cons_zero, List.getElem?_cons_succ]
      repeat (first | go_big_quiet_step ((first | (go_at_call 16; exact laterF_of hΦ (toPauli_any _ _ _ _ _)) | (go_at_call 40; exact laterF_of hΦ (mulPauli_spec_no _ _ _ _ _ _ _ _ _ Hm.out)))) | quiet_step ((first | (go_at_call 16; exact laterF_of hΦ (toPauli_any _ _ _ _ _)) | (go_at_call 40; exact laterF_of hΦ (mulPauli_spec_no _ _ _ _ _ _ _ _ _ Hm.out)))))
      exact wpQuiet_nil rfl
    case hmk =>
      intro j hj o ho w' hb
      simp only [List.mem_singleton] at hj
      subst hj
      simp only [List.getElem?_toArray, List.getElem?_cons_zero, List.getElem?_cons_succ, Option.some.injEq] at ho
      subst ho
      go_simp
    intro G w1 b1 hmade1 hdiff1
    clear hdiff1
    simp only [List.mem_singleton, forall_eq] at hmade1
    obtain ⟨hgl1, hgu1, hgb1⟩ := hmade1
    simp only [putMk, dstOf, List.getElem?_toArray, List.getElem?_cons_zero, List.getElem?_cons_succ, Option.bind_some]
    simp only [pickOps, List.filterMap_cons, List.filterMap_nil, List.getElem?_toArray, List.getElem?_cons_zero, List.getElem?_cons_succ]
    generalize G 8 = g1 at *
    clear G
    obtain ⟨k0, k1, k2, k3, kf⟩ := blk4 hgb1
    go_wp2_with fail
    clear k0 k1 k2 k3 kf
    obtain ⟨w2, hw2, hgb2, hgs2, hgB2⟩ := stored4 hgb1 (.int .i64 0) (.int .i64 0) (.int .i64 0) (.int .i64 0)
    rw [← hw2]
    clear hw2
    have b2 := hgB2 _ _ b1 hgl1
    clear hgB2
    obtain ⟨k2a, k2b, k2c, k2d, k2f⟩ := blk4 hgb2
    have hgu2 : g1 < w2.heap.size := by rw [hgs2]; exact hgu1
    clear hgb1 hgu1 b1 hgs2
    obtain ⟨hc2, hf2⟩ := bcell b2
    have hz2 := b2.size
    try simp only [World.size_alloc, World.size_setCell, World.size_drew, World.heap_drewN] at hz2
    have hl2a : w.heap.size < w2.heap.size := by omega
    have hl2b : w.heap.size + 1 < w2.heap.size := by omega
    apply wp_region_make [0, 1, 2, 3, 4, 5, 6, 7] [8] [9, 10] [7] (fun _ g => .pointer (some ⟨g, 0, none⟩)) (fun _ => .cells #[.int .i64 0, .int .i64 0, .int .i64 0, .int .i64 0] 25) (by kernel_rfl) (by kernel_rfl) (fun _ _ d _ _ h => by cases d <;> exact h)
    case hq =>
      intro Φ hΦ hn
      simp only [pickOps, List.filterMap_cons, List.filterMap_nil, List.getElem?_toArray, List.getElem?_cons_zero, List.getElem?_cons_succ]
      repeat (first | go_big_quiet_step ((first | (go_at_call 16; exact laterF_of hΦ (toPauli_any _ _ _ _ _)) | (go_at_call 41; exact laterF_of hΦ (mulPauli_impl_no _ _ _ _ _ _ _ _ _ Hm.out)))) | quiet_step ((first | (go_at_call 16; exact laterF_of hΦ (toPauli_any _ _ _ _ _)) | (go_at_call 41; exact laterF_of hΦ (mulPauli_impl_no _ _ _ _ _ _ _ _ _ Hm.out)))))
      exact wpQuiet_nil rfl
    case hmk =>
      intro j hj o ho w' hb
      simp only [List.mem_singleton] at hj
      subst hj
      simp only [List.getElem?_toArray, List.getElem?_cons_zero, List.getElem?_cons_succ, Option.some.injEq] at ho
      subst ho
      go_simp
    intro G w3 b3 hmade3 hdiff3
    clear hdiff3
    simp only [List.mem_singleton, forall_eq] at hmade3
    obtain ⟨hgl3, hgu3, hgb3⟩ := hmade3
    simp only [putMk, dstOf, List.getElem?_toArray, List.getElem?_cons_zero, List.getElem?_cons_succ, Option.bind_some]
    simp only [pickOps, List.filterMap_cons, List.filterMap_nil, List.getElem?_toArray, List.getElem?_cons_zero, List.getElem?_cons_succ]
    generalize G 8 = g3 at *
    clear G
    obtain ⟨k0, k1, k2, k3, kf⟩ := blk4 hgb3
    have hbb := b3.block g1 (by omega)
    rw [hgb2] at hbb
    obtain ⟨j0, j1, j2, j3, jf⟩ := blk4 hbb
    have hne : ¬ (g3 = g1) := by omega
    have hne' : ¬ (g1 = g3) := by omega
    go_wp2_with fail
    refine (eqPauli_any _ _ _ _ _ _ _ _ _).mono ?_
    rintro e w5 ⟨rfl, b5⟩
    go_wp2_with fail
    go_ret
    refine ⟨rfl, ?_⟩
    repeat' (first | (with_reducible exact Below.refl _ _) | (with_reducible refine below_drewN ?_ _) | (with_reducible refine Below.drew ?_) | (with_reducible refine Below.alloc ?_ ?_ _) | (with_reducible refine Below.setCell ?_ ?_ _) | (with_reducible refine Below.trans ?_ (Below.mono (by with_reducible assumption) ?_)) | go_size)
end Go.Proofs.Ytiemkfifklaadaa
