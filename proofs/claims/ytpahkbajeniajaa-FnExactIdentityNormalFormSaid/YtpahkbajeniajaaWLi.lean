/- The walks of the exact laws on normal forms: EqualNormalForm, IdentityNormalForm. -/
import Derived.Test.YtpahkbajeniajaaWk
import Derived.Test.YtpahkbajeniajaaFn
namespace Go.Proofs.Ytpahkbajeniajaa
open Go.RowKit Pop
set_option maxRecDepth 100000
set_option linter.unusedVariables false
set_option linter.unusedSimpArgs false
set_option maxHeartbeats 2000000 in
theorem law_equalNormalForm (A : Option Addr) (n c : Nat) (l : List Int) (N : Int) (B : Option Addr) (m d : Nat) (r : List Quad) (A' : Option Addr) (n' c' : Nat) (l' : List Int) (N' : Int) (B' : Option Addr) (m' d' : Nat) (r' : List Quad) (w : World)
    (hi : IsInts w A n c l) (hN : (Lit.int .i64 N).wf = true) (hq : IsQuads w B m d r) (hi' : IsInts w A' n' c' l') (hN' : (Lit.int .i64 N').wf = true) (hq' : IsQuads w B' m' d' r') :
    Calls Try.prog 6 #[.agg #[.slice A n c, .int .i64 N, .slice B m d], .agg #[.slice A' n' c', .int .i64 N', .slice B' m' d']] w fun e w' => e = .returned (.bool true) ∧ Below w.heap.size w w' := by
  clear hN hN'
  obtain ⟨x1, ha⟩ := hi
  obtain ⟨x2, hb⟩ := hq
  obtain ⟨x3, ha'⟩ := hi'
  obtain ⟨x4, hb'⟩ := hq'
  have X1 := Lib.hid x1; clear x1
  have X2 := Lib.hid x2; clear x2
  have X3 := Lib.hid x3; clear x3
  have X4 := Lib.hid x4; clear x4
  have e1 := Lib.hid ha.1
  have e2 := Lib.hid hb.1
  have e3 := Lib.hid ha'.1
  have e4 := Lib.hid hb'.1
  by_cases hs : (n : Int) + m ≤ 1048576
  · by_cases hs2 : (n' : Int) + m' ≤ 1048576 - n - m
    · have hn : n ≤ 1048576 := by omega
      have hm : m ≤ 1048576 := by omega
      have hn' : n' ≤ 1048576 := by omega
      have hm' : m' ≤ 1048576 := by omega
      have hl : l.length ≤ 1048577 := by have := e1.out; omega
      have hr : r.length ≤ 1048576 := by have := e2.out; omega
      have hl' : l'.length ≤ 1048577 := by have := e3.out; omega
      have hr' : r'.length ≤ 1048576 := by have := e4.out; omega
      go_enter Try.func6, Try.ntmps6
      go_wp2_with fail
      refine (szNormalForm_ok _ _ _ _ _ _ _ _ _ hs (by omega)).mono ?_
      rintro e w1 ⟨rfl, b1⟩
      have hz1 := b1.size
      simp only [World.size_alloc] at hz1
      have hLa1 : w.heap.size < w1.heap.size := by omega
      have La1 := Lib.hid ((b1.block (w.heap.size) (by first | omega | (simp only [World.size_alloc]; done) | (simp only [World.size_alloc]; omega))).trans (by repeat' (first | (with_reducible exact (trivial).out) | ((with_reducible refine heap_alloc_at ?_); focus (first | (with_reducible rfl) | (simp only [World.size_alloc]; done))) | ((with_reducible apply heap_alloc_before); focus (first | omega | (simp only [World.size_alloc]; done) | (simp only [World.size_alloc]; omega))))))
      have hLb1 : w.heap.size + 1 < w1.heap.size := by omega
      have Lb1 := Lib.hid ((b1.block (w.heap.size + 1) (by first | omega | (simp only [World.size_alloc]; done) | (simp only [World.size_alloc]; omega))).trans (by repeat' (first | (with_reducible exact (trivial).out) | ((with_reducible refine heap_alloc_at ?_); focus (first | (with_reducible rfl) | (simp only [World.size_alloc]; done))) | ((with_reducible apply heap_alloc_before); focus (first | omega | (simp only [World.size_alloc]; done) | (simp only [World.size_alloc]; omega))))))
      have B1 : Below w.heap.size w w1 := by
        repeat' (first | (with_reducible exact Below.refl _ _) | (with_reducible refine below_drewN ?_ _) | (with_reducible refine Below.drew ?_) | (with_reducible refine Below.alloc ?_ ?_ _) | (with_reducible refine Below.setCell ?_ ?_ _) | (with_reducible refine Below.trans ?_ (Below.mono (by with_reducible assumption) ?_)) | go_size | (with_reducible refine Nat.le_trans ?_ (Below.size (by with_reducible assumption))))
      clear b1
      obtain ⟨q0, q1, q2, qf⟩ := blk3 La1.out
      obtain ⟨r0, r1, r2, rf⟩ := blk3 Lb1.out
      go_wp2_with fail
      refine (szNormalForm_ok _ _ _ _ _ _ _ _ _ hs2 (by omega)).mono ?_
      rintro e w2 ⟨rfl, b2⟩
      clear q0 q1 q2 qf r0 r1 r2 rf
      have hz2 := b2.size
      have hLa2 : w.heap.size < w2.heap.size := by omega
      have La2 := Lib.hid ((b2.block (w.heap.size) (by first | omega | (simp only [World.size_alloc]; done) | (simp only [World.size_alloc]; omega))).trans (by repeat' (first | (with_reducible exact (La1).out) | ((with_reducible refine heap_alloc_at ?_); focus (first | (with_reducible rfl) | (simp only [World.size_alloc]; done))) | ((with_reducible apply heap_alloc_before); focus (first | omega | (simp only [World.size_alloc]; done) | (simp only [World.size_alloc]; omega))))))
      have hLb2 : w.heap.size + 1 < w2.heap.size := by omega
      have Lb2 := Lib.hid ((b2.block (w.heap.size + 1) (by first | omega | (simp only [World.size_alloc]; done) | (simp only [World.size_alloc]; omega))).trans (by repeat' (first | (with_reducible exact (Lb1).out) | ((with_reducible refine heap_alloc_at ?_); focus (first | (with_reducible rfl) | (simp only [World.size_alloc]; done))) | ((with_reducible apply heap_alloc_before); focus (first | omega | (simp only [World.size_alloc]; done) | (simp only [World.size_alloc]; omega))))))
      have B2 : Below w.heap.size w w2 := B1.trans (b2.mono (by omega))
      clear b2 La1 Lb1 B1
      obtain ⟨q0, q1, q2, qf⟩ := blk3 La2.out
      obtain ⟨r0, r1, r2, rf⟩ := blk3 Lb2.out
      go_wp2_with fail
      have ha2 := ha.below B2
      have hb2 := hb.below B2
      have ha2' := ha'.below B2
      have hb2' := hb'.below B2
      apply wp_region_makes [0, 2] [1, 3] [4, 5] [] (fun j => if j = 1 then NfΨ l N r else NfΨ l' N' r') (by kernel_rfl) (by kernel_rfl) (fun _ _ d _ _ h => by cases d <;> exact h)
      case hst =>
        intro j b t u w w' h1 h2 h3
        by_cases hj1 : j = 1
        · simp only [hj1, if_true] at h1 ⊢; exact h1.stable h2 h3
        simp only [hj1, if_false] at h1 ⊢
        exact h1.stable h2 h3
      case hq =>
        intro Φ hΦ hn
        simp only [pickOps, List.filterMap_cons, List.filterMap_nil, List.getElem?_toArray, List.getElem?_cons_zero, List.getElem?_cons_succ]
        repeat (first | go_big_quiet_step ((fail)) | quiet_step ((fail)))
        exact wpQuiet_nil rfl
      case hmk =>
        intro j hj o ho w' hb'
        simp only [List.mem_cons, List.not_mem_nil, or_false] at hj
        rcases hj with rfl | rfl
        · simp only [List.getElem?_toArray, List.getElem?_cons_zero, List.getElem?_cons_succ, Option.some.injEq] at ho
          subst ho
          simp only [if_true, if_false]
          refine MakesP.call (f := 28) (args := #[.agg #[.slice A n c, .int .i64 N, .slice B m d]]) (by go_simp) ?_
          exact RetN.made (toNormalForm_any A n c N B m d l r w' (ha2.below hb') (hb2.below hb') hn hm)
        · simp only [List.getElem?_toArray, List.getElem?_cons_zero, List.getElem?_cons_succ, Option.some.injEq] at ho
          subst ho
          simp only [if_true, if_false, show ¬ ((3 : Nat) = 1) from by omega]
          refine MakesP.call (f := 28) (args := #[.agg #[.slice A' n' c', .int .i64 N', .slice B' m' d']]) (by go_simp) ?_
          exact RetN.made (toNormalForm_any A' n' c' N' B' m' d' l' r' w' (ha2'.below hb') (hb2'.below hb') hn' hm')
      case hlt => intro h hh; cases hh
      intro U Bs Ts w3 b3 hmade3 hdiff3
      have m3_1 := hmade3 1 (by simp)
      have m3_3 := hmade3 3 (by simp)
      have d3_1_3 := hdiff3 1 (by simp) 3 (by simp) (by omega)
      clear hmade3 hdiff3
      simp only [if_true, if_false] at m3_1
      obtain ⟨hBl3_1, hBT3_1, hTu3_1, hp3_1⟩ := m3_1
      obtain ⟨A3_1, c3_1, B3_1, d3_1, hu3_1, o3_1, p3_1⟩ := hp3_1
      simp only [if_true, if_false, show ¬ ((3 : Nat) = 1) from by omega] at m3_3
      obtain ⟨hBl3_3, hBT3_3, hTu3_3, hp3_3⟩ := m3_3
      obtain ⟨A3_3, c3_3, B3_3, d3_3, hu3_3, o3_3, p3_3⟩ := hp3_3
      simp only [putMk, dstOf, List.getElem?_toArray, List.getElem?_cons_zero, List.getElem?_cons_succ, Option.bind_some, hu3_1, hu3_3]
      clear hu3_1
      clear hu3_3
      clear U
      generalize Bs 1 = g3_1 at *
      generalize Ts 1 = t3_1 at *
      generalize Bs 3 = g3_3 at *
      generalize Ts 3 = t3_3 at *
      clear Bs Ts
      simp only [pickOps, List.filterMap_cons, List.filterMap_nil, List.getElem?_toArray, List.getElem?_cons_zero, List.getElem?_cons_succ]
      clear q0 q1 q2 qf r0 r1 r2 rf
      have hz3 := b3.size
      have hLa3 : w.heap.size < w3.heap.size := by omega
      have La3 := Lib.hid ((b3.block (w.heap.size) (by first | omega | (simp only [World.size_alloc]; done) | (simp only [World.size_alloc]; omega))).trans (by repeat' (first | (with_reducible exact (La2).out) | ((with_reducible refine heap_alloc_at ?_); focus (first | (with_reducible rfl) | (simp only [World.size_alloc]; done))) | ((with_reducible apply heap_alloc_before); focus (first | omega | (simp only [World.size_alloc]; done) | (simp only [World.size_alloc]; omega))))))
      have hLb3 : w.heap.size + 1 < w3.heap.size := by omega
      have Lb3 := Lib.hid ((b3.block (w.heap.size + 1) (by first | omega | (simp only [World.size_alloc]; done) | (simp only [World.size_alloc]; omega))).trans (by repeat' (first | (with_reducible exact (Lb2).out) | ((with_reducible refine heap_alloc_at ?_); focus (first | (with_reducible rfl) | (simp only [World.size_alloc]; done))) | ((with_reducible apply heap_alloc_before); focus (first | omega | (simp only [World.size_alloc]; done) | (simp only [World.size_alloc]; omega))))))
      have B3 : Below w.heap.size w w3 := B2.trans (b3.mono (by omega))
      clear b3 La2 Lb2 B2 ha2 hb2 ha2' hb2'
      go_wp2_with fail
      refine (equalNormalForm_spec _ _ _ _ _ _ _ _ _ _ _ _ _ _ l l' r r' _ o3_1.reads p3_1.reads o3_3.reads p3_3.reads hl hr).mono ?_
      rintro e w4 ⟨rfl, b4⟩
      have hz4 := b4.size
      have hLa4 : w.heap.size < w4.heap.size := by omega
      have La4 := Lib.hid ((b4.block (w.heap.size) (by first | omega | (simp only [World.size_alloc]; done) | (simp only [World.size_alloc]; omega))).trans (by repeat' (first | (with_reducible exact (La3).out) | ((with_reducible refine heap_alloc_at ?_); focus (first | (with_reducible rfl) | (simp only [World.size_alloc]; done))) | ((with_reducible apply heap_alloc_before); focus (first | omega | (simp only [World.size_alloc]; done) | (simp only [World.size_alloc]; omega))))))
      have hLb4 : w.heap.size + 1 < w4.heap.size := by omega
      have Lb4 := Lib.hid ((b4.block (w.heap.size + 1) (by first | omega | (simp only [World.size_alloc]; done) | (simp only [World.size_alloc]; omega))).trans (by repeat' (first | (with_reducible exact (Lb3).out) | ((with_reducible refine heap_alloc_at ?_); focus (first | (with_reducible rfl) | (simp only [World.size_alloc]; done))) | ((with_reducible apply heap_alloc_before); focus (first | omega | (simp only [World.size_alloc]; done) | (simp only [World.size_alloc]; omega))))))
      have B4 : Below w.heap.size w w4 := B3.trans (b4.mono (by omega))
      clear b4 La3 Lb3 B3 o3_1 p3_1 o3_3 p3_3
      obtain ⟨q0, q1, q2, qf⟩ := blk3 La4.out
      obtain ⟨r0, r1, r2, rf⟩ := blk3 Lb4.out
      go_wp2_with fail
      refine (toNormalForm_any A n c N B m d l r _ (ha.below B4) (hb.below B4) hn hm).mono ?_
      rintro e w5 ⟨A5, c5, B5, d5, rfl, o5, p5, b5⟩
      clear q0 q1 q2 qf r0 r1 r2 rf
      have hz5 := b5.size
      have hLa5 : w.heap.size < w5.heap.size := by omega
      have La5 := Lib.hid ((b5.block (w.heap.size) (by first | omega | (simp only [World.size_alloc]; done) | (simp only [World.size_alloc]; omega))).trans (by repeat' (first | (with_reducible exact (La4).out) | ((with_reducible refine heap_alloc_at ?_); focus (first | (with_reducible rfl) | (simp only [World.size_alloc]; done))) | ((with_reducible apply heap_alloc_before); focus (first | omega | (simp only [World.size_alloc]; done) | (simp only [World.size_alloc]; omega))))))
      have hLb5 : w.heap.size + 1 < w5.heap.size := by omega
      have Lb5 := Lib.hid ((b5.block (w.heap.size + 1) (by first | omega | (simp only [World.size_alloc]; done) | (simp only [World.size_alloc]; omega))).trans (by repeat' (first | (with_reducible exact (Lb4).out) | ((with_reducible refine heap_alloc_at ?_); focus (first | (with_reducible rfl) | (simp only [World.size_alloc]; done))) | ((with_reducible apply heap_alloc_before); focus (first | omega | (simp only [World.size_alloc]; done) | (simp only [World.size_alloc]; omega))))))
      have B5' : Below w.heap.size w (w5.alloc (.cells #[.slice A5 l.length c5, .int .i64 N, .slice B5 r.length d5] 49)) := (B4.trans (b5.mono (by omega))).alloc (by omega) _
      clear b5 La4 Lb4 B4
      obtain ⟨q0, q1, q2, qf⟩ := blk3 La5.out
      obtain ⟨r0, r1, r2, rf⟩ := blk3 Lb5.out
      go_wp2_with fail
      refine (toNormalForm_any A' n' c' N' B' m' d' l' r' _ (ha'.below B5') (hb'.below B5') hn' hm').mono ?_
      rintro e w6 ⟨A6, c6, B6, d6, rfl, o6, p6, b6⟩
      clear q0 q1 q2 qf r0 r1 r2 rf
      have hz6 := b6.size
      simp only [World.size_alloc] at hz6
      have hLa6 : w.heap.size < w6.heap.size := by omega
      have La6 := Lib.hid ((b6.block (w.heap.size) (by first | omega | (simp only [World.size_alloc]; done) | (simp only [World.size_alloc]; omega))).trans (by repeat' (first | (with_reducible exact (La5).out) | ((with_reducible refine heap_alloc_at ?_); focus (first | (with_reducible rfl) | (simp only [World.size_alloc]; done))) | ((with_reducible apply heap_alloc_before); focus (first | omega | (simp only [World.size_alloc]; done) | (simp only [World.size_alloc]; omega))))))
      have hLb6 : w.heap.size + 1 < w6.heap.size := by omega
      have Lb6 := Lib.hid ((b6.block (w.heap.size + 1) (by first | omega | (simp only [World.size_alloc]; done) | (simp only [World.size_alloc]; omega))).trans (by repeat' (first | (with_reducible exact (Lb5).out) | ((with_reducible refine heap_alloc_at ?_); focus (first | (with_reducible rfl) | (simp only [World.size_alloc]; done))) | ((with_reducible apply heap_alloc_before); focus (first | omega | (simp only [World.size_alloc]; done) | (simp only [World.size_alloc]; omega))))))
      have hLc6 : w5.heap.size < w6.heap.size := by omega
      have Lc6 := Lib.hid ((b6.block (w5.heap.size) (by first | omega | (simp only [World.size_alloc]; done) | (simp only [World.size_alloc]; omega))).trans (by repeat' (first | (with_reducible exact (trivial).out) | ((with_reducible refine heap_alloc_at ?_); focus (first | (with_reducible rfl) | (simp only [World.size_alloc]; done))) | ((with_reducible apply heap_alloc_before); focus (first | omega | (simp only [World.size_alloc]; done) | (simp only [World.size_alloc]; omega))))))
      have o56 := (o5.below ((Below.refl _ _).alloc (Nat.le_refl _) (.cells #[.slice A5 l.length c5, .int .i64 N, .slice B5 r.length d5] 49))).below b6
      have p56 := (p5.below ((Below.refl _ _).alloc (Nat.le_refl _) (.cells #[.slice A5 l.length c5, .int .i64 N, .slice B5 r.length d5] 49))).below b6
      have B6' : Below w.heap.size w (w6.alloc (.cells #[.slice A6 l'.length c6, .int .i64 N', .slice B6 r'.length d6] 49)) := (B5'.trans (b6.mono (by simp; omega))).alloc (by omega) _
      clear b6 La5 Lb5 B5' o5 p5
      obtain ⟨q0, q1, q2, qf⟩ := blk3 Lc6.out
      go_wp2_with fail
      refine (equalNormalForm_impl _ _ _ _ _ _ _ _ _ _ _ _ _ _ l l' r r' _ (o56.reads.alloc _) (p56.reads.alloc _) (o6.reads.alloc _) (p6.reads.alloc _) hl hr).mono ?_
      rintro e w7 ⟨rfl, b7⟩
      clear q0 q1 q2 qf
      have hz7 := b7.size
      simp only [World.size_alloc] at hz7
      have hLa7 : w.heap.size < w7.heap.size := by omega
      have La7 := Lib.hid ((b7.block (w.heap.size) (by first | omega | (simp only [World.size_alloc]; done) | (simp only [World.size_alloc]; omega))).trans (by repeat' (first | (with_reducible exact (La6).out) | ((with_reducible refine heap_alloc_at ?_); focus (first | (with_reducible rfl) | (simp only [World.size_alloc]; done))) | ((with_reducible apply heap_alloc_before); focus (first | omega | (simp only [World.size_alloc]; done) | (simp only [World.size_alloc]; omega))))))
      have hLb7 : w.heap.size + 1 < w7.heap.size := by omega
      have Lb7 := Lib.hid ((b7.block (w.heap.size + 1) (by first | omega | (simp only [World.size_alloc]; done) | (simp only [World.size_alloc]; omega))).trans (by repeat' (first | (with_reducible exact (Lb6).out) | ((with_reducible refine heap_alloc_at ?_); focus (first | (with_reducible rfl) | (simp only [World.size_alloc]; done))) | ((with_reducible apply heap_alloc_before); focus (first | omega | (simp only [World.size_alloc]; done) | (simp only [World.size_alloc]; omega))))))
      have hLc7 : w5.heap.size < w7.heap.size := by omega
      have Lc7 := Lib.hid ((b7.block (w5.heap.size) (by first | omega | (simp only [World.size_alloc]; done) | (simp only [World.size_alloc]; omega))).trans (by repeat' (first | (with_reducible exact (Lc6).out) | ((with_reducible refine heap_alloc_at ?_); focus (first | (with_reducible rfl) | (simp only [World.size_alloc]; done))) | ((with_reducible apply heap_alloc_before); focus (first | omega | (simp only [World.size_alloc]; done) | (simp only [World.size_alloc]; omega))))))
      have hLd7 : w6.heap.size < w7.heap.size := by omega
      have Ld7 := Lib.hid ((b7.block (w6.heap.size) (by first | omega | (simp only [World.size_alloc]; done) | (simp only [World.size_alloc]; omega))).trans (by repeat' (first | (with_reducible exact (trivial).out) | ((with_reducible refine heap_alloc_at ?_); focus (first | (with_reducible rfl) | (simp only [World.size_alloc]; done))) | ((with_reducible apply heap_alloc_before); focus (first | omega | (simp only [World.size_alloc]; done) | (simp only [World.size_alloc]; omega))))))
      have o57 := (o56.below ((Below.refl _ _).alloc (Nat.le_refl _) (.cells #[.slice A6 l'.length c6, .int .i64 N', .slice B6 r'.length d6] 49))).below b7
      have p57 := (p56.below ((Below.refl _ _).alloc (Nat.le_refl _) (.cells #[.slice A6 l'.length c6, .int .i64 N', .slice B6 r'.length d6] 49))).below b7
      have o67 := (o6.below ((Below.refl _ _).alloc (Nat.le_refl _) (.cells #[.slice A6 l'.length c6, .int .i64 N', .slice B6 r'.length d6] 49))).below b7
      have p67 := (p6.below ((Below.refl _ _).alloc (Nat.le_refl _) (.cells #[.slice A6 l'.length c6, .int .i64 N', .slice B6 r'.length d6] 49))).below b7
      have B7 : Below w.heap.size w w7 := B6'.trans (b7.mono (by simp; omega))
      clear b7 La6 Lb6 Lc6 B6' o56 p56 o6 p6
      obtain ⟨q0, q1, q2, qf⟩ := blk3 La7.out
      obtain ⟨r0, r1, r2, rf⟩ := blk3 Lc7.out
      have ha7 := ha.below B7
      have hb7 := hb.below B7
      have ha7' := ha'.below B7
      have hb7' := hb'.below B7
      go_wp2_with fail
      apply wp_region_makes [0, 1] [2] [3, 4] [] (fun j => NfΨ l N r) (by kernel_rfl) (by kernel_rfl) (fun _ _ d _ _ h => by cases d <;> exact h)
      case hst =>
        intro j b t u w w' h1 h2 h3
        exact h1.stable h2 h3
      case hq =>
        intro Φ hΦ hn
        simp only [pickOps, List.filterMap_cons, List.filterMap_nil, List.getElem?_toArray, List.getElem?_cons_zero, List.getElem?_cons_succ]
        repeat (first | go_big_quiet_step ((fail)) | quiet_step ((fail)))
        exact wpQuiet_nil rfl
      case hmk =>
        intro j hj o ho w' hb'
        simp only [List.mem_cons, List.not_mem_nil, or_false] at hj
        rcases hj with rfl
        · simp only [List.getElem?_toArray, List.getElem?_cons_zero, List.getElem?_cons_succ, Option.some.injEq] at ho
          subst ho
          refine MakesP.call (f := 28) (args := #[.agg #[.slice A n c, .int .i64 N, .slice B m d]]) (by go_simp) ?_
          exact RetN.made (toNormalForm_any A n c N B m d l r w' (ha7.below hb') (hb7.below hb') hn hm)
      case hlt => intro h hh; cases hh
      intro U Bs Ts w8 b8 hmade8 hdiff8
      have m8_2 := hmade8 2 (by simp)
      clear hmade8 hdiff8
      obtain ⟨hBl8_2, hBT8_2, hTu8_2, hp8_2⟩ := m8_2
      obtain ⟨A8_2, c8_2, B8_2, d8_2, hu8_2, o8_2, p8_2⟩ := hp8_2
      simp only [putMk, dstOf, List.getElem?_toArray, List.getElem?_cons_zero, List.getElem?_cons_succ, Option.bind_some, hu8_2]
      clear hu8_2
      clear U
      generalize Bs 2 = g8_2 at *
      generalize Ts 2 = t8_2 at *
      clear Bs Ts
      simp only [pickOps, List.filterMap_cons, List.filterMap_nil, List.getElem?_toArray, List.getElem?_cons_zero, List.getElem?_cons_succ]
      clear q0 q1 q2 qf r0 r1 r2 rf
      go_wp2_with fail
      refine (eqNormalForm_any _ _ _ _ _ _ _ _ _ _ _ _ _ _ l l r r _ (o57.below b8).reads (p57.below b8).reads o8_2.reads p8_2.reads hl hr).mono ?_
      rintro e w9 ⟨rfl, b9⟩
      have hz8 := b8.size
      have hz9 := b9.size
      have b89 := b8.trans (b9.mono b8.size)
      clear b8 b9 o8_2 p8_2
      have b10 := b89
      have Lb9 := Lib.hid ((b89.block (w.heap.size + 1) (by omega)).trans Lb7.out)
      have Ld9 := Lib.hid ((b89.block w6.heap.size (by omega)).trans Ld7.out)
      have hLb9 : w.heap.size + 1 < w9.heap.size := by omega
      have hLd9 : w6.heap.size < w9.heap.size := by omega
      have B9 : Below w.heap.size w w9 := B7.trans (b89.mono (by omega))
      have o69 := o67.below b89
      have p69 := p67.below b89
      have ha9' := ha'.below B9
      have hb9' := hb'.below B9
      clear b89 b10 B7 o57 p57 o67 p67 ha7 hb7 ha7' hb7'
      obtain ⟨q0, q1, q2, qf⟩ := blk3 Lb9.out
      obtain ⟨r0, r1, r2, rf⟩ := blk3 Ld9.out
      go_wp2_with fail
      apply wp_region_makes [0, 1] [2] [3, 4] [] (fun j => NfΨ l' N' r') (by kernel_rfl) (by kernel_rfl) (fun _ _ d _ _ h => by cases d <;> exact h)
      case hst =>
        intro j b t u w w' h1 h2 h3
        exact h1.stable h2 h3
      case hq =>
        intro Φ hΦ hn
        simp only [pickOps, List.filterMap_cons, List.filterMap_nil, List.getElem?_toArray, List.getElem?_cons_zero, List.getElem?_cons_succ]
        repeat (first | go_big_quiet_step ((fail)) | quiet_step ((fail)))
        exact wpQuiet_nil rfl
      case hmk =>
        intro j hj o ho w' hb'
        simp only [List.mem_cons, List.not_mem_nil, or_false] at hj
        rcases hj with rfl
        · simp only [List.getElem?_toArray, List.getElem?_cons_zero, List.getElem?_cons_succ, Option.some.injEq] at ho
          subst ho
          refine MakesP.call (f := 28) (args := #[.agg #[.slice A' n' c', .int .i64 N', .slice B' m' d']]) (by go_simp) ?_
          exact RetN.made (toNormalForm_any A' n' c' N' B' m' d' l' r' w' (ha9'.below hb') (hb9'.below hb') hn' hm')
      case hlt => intro h hh; cases hh
      intro U Bs Ts w10 b10 hmade10 hdiff10
      have m10_2 := hmade10 2 (by simp)
      clear hmade10 hdiff10
      obtain ⟨hBl10_2, hBT10_2, hTu10_2, hp10_2⟩ := m10_2
      obtain ⟨A10_2, c10_2, B10_2, d10_2, hu10_2, o10_2, p10_2⟩ := hp10_2
      simp only [putMk, dstOf, List.getElem?_toArray, List.getElem?_cons_zero, List.getElem?_cons_succ, Option.bind_some, hu10_2]
      clear hu10_2
      clear U
      generalize Bs 2 = g10_2 at *
      generalize Ts 2 = t10_2 at *
      clear Bs Ts
      simp only [pickOps, List.filterMap_cons, List.filterMap_nil, List.getElem?_toArray, List.getElem?_cons_zero, List.getElem?_cons_succ]
      clear q0 q1 q2 qf r0 r1 r2 rf
      go_wp2_with fail
      refine (eqNormalForm_any _ _ _ _ _ _ _ _ _ _ _ _ _ _ l' l' r' r' _ (o69.below b10).reads (p69.below b10).reads o10_2.reads p10_2.reads hl' hr').mono ?_
      rintro e w11 ⟨rfl, b11⟩
      have hz10 := b10.size
      have B11 : Below w.heap.size w w11 := (B9.trans (b10.mono (by omega))).trans (b11.mono (by omega))
      clear b10 b11 o10_2 p10_2 o69 p69
      go_wp2_with fail
      go_ret
      exact ⟨rfl, B11⟩
    · have hs' : 1048576 - (n : Int) - m < (n' : Int) + m' := by omega
      go_enter Try.func6, Try.ntmps6
      go_wp2_with fail
      refine (szNormalForm_ok _ _ _ _ _ _ _ _ _ hs (by omega)).mono ?_
      rintro e w1 ⟨rfl, b1⟩
      have hz1 := b1.size
      simp only [World.size_alloc] at hz1
      have hLb1 : w.heap.size + 1 < w1.heap.size := by omega
      have Lb1 := Lib.hid ((b1.block (w.heap.size + 1) (by first | omega | (simp only [World.size_alloc]; done) | (simp only [World.size_alloc]; omega))).trans (by repeat' (first | (with_reducible exact (trivial).out) | ((with_reducible refine heap_alloc_at ?_); focus (first | (with_reducible rfl) | (simp only [World.size_alloc]; done))) | ((with_reducible apply heap_alloc_before); focus (first | omega | (simp only [World.size_alloc]; done) | (simp only [World.size_alloc]; omega))))))
      obtain ⟨r0, r1, r2, rf⟩ := blk3 Lb1.out
      go_wp2_with fail
      refine (szNormalForm_big _ _ _ _ _ _ _ _ _ hs' (by omega) (by omega) X3.out X4.out).mono ?_
      rintro e w2 ⟨rfl, b2⟩
      go_wp2_with fail
      go_ret
      refine ⟨rfl, ?_⟩
      repeat' (first | (with_reducible exact Below.refl _ _) | (with_reducible refine below_drewN ?_ _) | (with_reducible refine Below.drew ?_) | (with_reducible refine Below.alloc ?_ ?_ _) | (with_reducible refine Below.setCell ?_ ?_ _) | (with_reducible refine Below.trans ?_ (Below.mono (by with_reducible assumption) ?_)) | go_size | (with_reducible refine Nat.le_trans ?_ (Below.size (by with_reducible assumption))))
  · go_enter Try.func6, Try.ntmps6
    go_wp2_with fail
    refine (szNormalForm_big _ _ _ _ _ _ _ _ _ (by omega) (by omega) (by omega) X1.out X2.out).mono ?_
    rintro e w1 ⟨rfl, b1⟩
    go_wp2_with fail
    go_ret
    refine ⟨rfl, ?_⟩
    repeat' (first | (with_reducible exact Below.refl _ _) | (with_reducible refine below_drewN ?_ _) | (with_reducible refine Below.drew ?_) | (with_reducible refine Below.alloc ?_ ?_ _) | (with_reducible refine Below.setCell ?_ ?_ _) | (with_reducible refine Below.trans ?_ (Below.mono (by with_reducible assumption) ?_)) | go_size | (with_reducible refine Nat.le_trans ?_ (Below.size (by with_reducible assumption))))
set_option maxHeartbeats 2000000 in
theorem law_identityNormalForm (w : World) : Calls Try.prog 7 #[] w fun e w' => e = .returned (.bool true) ∧ Below w.heap.size w w' := by
  have hR : (idRows 1 2).length ≤ 1048576 := by rw [idRows_len]; omega
  generalize hL : idRows 1 2 = R at hR
  have cs : ∀ W, Calls Try.prog 31 #[] W (RetN [] 1 R W) := fun W => by rw [← hL]; exact identityNormalForm_spec W
  have ci : ∀ W, Calls Try.prog 32 #[] W (RetN [] 1 R W) := fun W => by rw [← hL]; exact identityNormalForm_impl W
  have Cs := Lib.hid cs; clear cs
  have Ci := Lib.hid ci; clear ci
  clear hL
  go_enter Try.func7, Try.ntmps7
  go_wp2_with fail
  refine (Cs.out _).mono ?_
  rintro e w1 ⟨A1, c1, B1, d1, rfl, o1, p1, b1⟩
  have hz1 := b1.size
  go_wp2_with fail
  refine (Ci.out _).mono ?_
  rintro e w2 ⟨A2, c2, B2, d2, rfl, o2, p2, b2⟩
  have hz2 := b2.size
  simp only [World.size_alloc] at hz2 o2 p2
  have hLa2 : w1.heap.size < w2.heap.size := by omega
  have La2 := Lib.hid ((b2.block (w1.heap.size) (by first | omega | (simp only [World.size_alloc]; done) | (simp only [World.size_alloc]; omega))).trans (by repeat' (first | (with_reducible exact (trivial).out) | ((with_reducible refine heap_alloc_at ?_); focus (first | (with_reducible rfl) | (simp only [World.size_alloc]; done))) | ((with_reducible apply heap_alloc_before); focus (first | omega | (simp only [World.size_alloc]; done) | (simp only [World.size_alloc]; omega))))))
  have o12 := (o1.below ((Below.refl _ _).alloc (Nat.le_refl _) (.cells #[.slice A1 0 c1, .int .i64 1, .slice B1 R.length d1] 49))).below b2
  have p12 := (p1.below ((Below.refl _ _).alloc (Nat.le_refl _) (.cells #[.slice A1 0 c1, .int .i64 1, .slice B1 R.length d1] 49))).below b2
  have BB2 : Below w.heap.size w w2 := (b1.alloc (by omega) _).trans (b2.mono (by simp; omega))
  obtain ⟨q0, q1, q2, qf⟩ := blk3 La2.out
  go_wp2_with fail
  refine (eqNormalForm_any _ _ _ _ _ _ _ _ _ _ _ _ _ _ [] [] R R _ (o2.reads.alloc _) (p2.reads.alloc _) (o12.reads.alloc _) (p12.reads.alloc _) (by simp) hR).mono ?_
  rintro e w3 ⟨rfl, b3⟩
  clear q0 q1 q2 qf
  have hz3 := b3.size
  simp only [World.size_alloc] at hz3
  have hLa3 : w1.heap.size < w3.heap.size := by omega
  have La3 := Lib.hid ((b3.block (w1.heap.size) (by first | omega | (simp only [World.size_alloc]; done) | (simp only [World.size_alloc]; omega))).trans (by repeat' (first | (with_reducible exact (La2).out) | ((with_reducible refine heap_alloc_at ?_); focus (first | (with_reducible rfl) | (simp only [World.size_alloc]; done))) | ((with_reducible apply heap_alloc_before); focus (first | omega | (simp only [World.size_alloc]; done) | (simp only [World.size_alloc]; omega))))))
  have hLb3 : w2.heap.size < w3.heap.size := by omega
  have Lb3 := Lib.hid ((b3.block (w2.heap.size) (by first | omega | (simp only [World.size_alloc]; done) | (simp only [World.size_alloc]; omega))).trans (by repeat' (first | (with_reducible exact (trivial).out) | ((with_reducible refine heap_alloc_at ?_); focus (first | (with_reducible rfl) | (simp only [World.size_alloc]; done))) | ((with_reducible apply heap_alloc_before); focus (first | omega | (simp only [World.size_alloc]; done) | (simp only [World.size_alloc]; omega))))))
  have o13 := (o12.below ((Below.refl _ _).alloc (Nat.le_refl _) (.cells #[.slice A2 0 c2, .int .i64 1, .slice B2 R.length d2] 49))).below b3
  have p13 := (p12.below ((Below.refl _ _).alloc (Nat.le_refl _) (.cells #[.slice A2 0 c2, .int .i64 1, .slice B2 R.length d2] 49))).below b3
  have o23 := (o2.below ((Below.refl _ _).alloc (Nat.le_refl _) (.cells #[.slice A2 0 c2, .int .i64 1, .slice B2 R.length d2] 49))).below b3
  have p23 := (p2.below ((Below.refl _ _).alloc (Nat.le_refl _) (.cells #[.slice A2 0 c2, .int .i64 1, .slice B2 R.length d2] 49))).below b3
  have BB3 : Below w.heap.size w w3 := (BB2.alloc (by omega) _).trans (b3.mono (by simp; omega))
  clear b1 b2 b3 BB2 La2
  obtain ⟨q0, q1, q2, qf⟩ := blk3 Lb3.out
  go_wp2_with fail
  refine (markNormalForm_but A2 0 c2 1 B2 _ d2 (w1.heap.size + 1) 1 [] R _ o23 p23 (by omega) (by omega) (by simp; omega)).mono ?_
  rintro e w4 ⟨rfl, o4, p4, b4, u4⟩
  clear q0 q1 q2 qf
  have hz4 := b4.size
  have nA2 : ∀ k, k = w1.heap.size ∨ k = w2.heap.size → (∀ a, A2 = some a → a.block ≠ k) := by
    rintro k (rfl | rfl)
    · exact o2.ne (.inl (by omega))
    · exact o2.ne (.inr (Nat.le_refl _))
  have nB2 : ∀ k, k = w1.heap.size ∨ k = w2.heap.size → (∀ a, B2 = some a → a.block ≠ k) := by
    rintro k (rfl | rfl)
    · exact p2.ne (.inl (by omega))
    · exact p2.ne (.inr (Nat.le_refl _))
  have La4 := Lib.hid ((u4 w1.heap.size (by omega) (nA2 _ (.inl rfl)) (nB2 _ (.inl rfl))).trans La3.out)
  have Lb4 := Lib.hid ((u4 w2.heap.size (by omega) (nA2 _ (.inr rfl)) (nB2 _ (.inr rfl))).trans Lb3.out)
  have hLa4 : w1.heap.size < w4.heap.size := by omega
  have hLb4 : w2.heap.size < w4.heap.size := by omega
  have r14 : SlQ w4 B1 R.length R := p13.reads.blk (by omega) fun a ha => u4 a.block (by have := p1.blockLt a ha; omega) (fun a' ha' e => by have h1 := p1.blockLt a ha; have h2 := o2.blockLt a' ha'; omega) (fun a' ha' e => by have h1 := p1.blockLt a ha; have h2 := p2.blockLt a' ha'; omega)
  have BB4 : Below w.heap.size w w4 := BB3.trans (b4.mono (by omega))
  clear b4 u4 BB3 La3 Lb3 p13 p23 o13 o23 nA2 nB2 o12 p12 p1 p2 o1 o2
  obtain ⟨q0, q1, q2, qf⟩ := blk3 Lb4.out
  go_wp2_with fail
  refine (heldNormalForm_any A2 0 c2 1 B2 _ d2 1 _ o4.reads p4.reads (by omega) (by simp; omega)).mono ?_
  rintro e w5 ⟨rfl, b5⟩
  clear q0 q1 q2 qf
  have hz5 := b5.size
  have hLa5 : w1.heap.size < w5.heap.size := by omega
  have La5 := Lib.hid ((b5.block (w1.heap.size) (by first | omega | (simp only [World.size_alloc]; done) | (simp only [World.size_alloc]; omega))).trans (by repeat' (first | (with_reducible exact (La4).out) | ((with_reducible refine heap_alloc_at ?_); focus (first | (with_reducible rfl) | (simp only [World.size_alloc]; done))) | ((with_reducible apply heap_alloc_before); focus (first | omega | (simp only [World.size_alloc]; done) | (simp only [World.size_alloc]; omega))))))
  have hLb5 : w2.heap.size < w5.heap.size := by omega
  have Lb5 := Lib.hid ((b5.block (w2.heap.size) (by first | omega | (simp only [World.size_alloc]; done) | (simp only [World.size_alloc]; omega))).trans (by repeat' (first | (with_reducible exact (Lb4).out) | ((with_reducible refine heap_alloc_at ?_); focus (first | (with_reducible rfl) | (simp only [World.size_alloc]; done))) | ((with_reducible apply heap_alloc_before); focus (first | omega | (simp only [World.size_alloc]; done) | (simp only [World.size_alloc]; omega))))))
  have o5 := o4.below b5
  have p5 := p4.below b5
  have r15 := r14.below b5
  have BB5 : Below w.heap.size w w5 := BB4.trans (b5.mono (by omega))
  clear b5 La4 Lb4 r14 o4 p4 BB4
  go_wp2_with fail
  refine (Ci.out _).mono ?_
  rintro e w6 ⟨A6, c6, B6, d6, rfl, o6, p6, b6⟩
  have hz6 := b6.size
  have hLa6 : w1.heap.size < w6.heap.size := by omega
  have La6 := Lib.hid ((b6.block (w1.heap.size) (by first | omega | (simp only [World.size_alloc]; done) | (simp only [World.size_alloc]; omega))).trans (by repeat' (first | (with_reducible exact (La5).out) | ((with_reducible refine heap_alloc_at ?_); focus (first | (with_reducible rfl) | (simp only [World.size_alloc]; done))) | ((with_reducible apply heap_alloc_before); focus (first | omega | (simp only [World.size_alloc]; done) | (simp only [World.size_alloc]; omega))))))
  have hLb6 : w2.heap.size < w6.heap.size := by omega
  have Lb6 := Lib.hid ((b6.block (w2.heap.size) (by first | omega | (simp only [World.size_alloc]; done) | (simp only [World.size_alloc]; omega))).trans (by repeat' (first | (with_reducible exact (Lb5).out) | ((with_reducible refine heap_alloc_at ?_); focus (first | (with_reducible rfl) | (simp only [World.size_alloc]; done))) | ((with_reducible apply heap_alloc_before); focus (first | omega | (simp only [World.size_alloc]; done) | (simp only [World.size_alloc]; omega))))))
  have o56 := o5.below b6
  have p56 := p5.below b6
  have r16 := r15.below b6
  have BB6 : Below w.heap.size w w6 := BB5.trans (b6.mono (by omega))
  clear b6 La5 Lb5 r15 o5 p5 BB5
  obtain ⟨q0, q1, q2, qf⟩ := blk3 La6.out
  go_wp2_with fail
  refine (eqNormalForm_any _ _ _ _ _ _ _ _ _ _ _ _ _ _ [] [] R R _ (o6.reads.alloc _) (p6.reads.alloc _) (SlI.nil _ _) (r16.alloc _) (by simp) hR).mono ?_
  rintro e w7 ⟨rfl, b7⟩
  clear q0 q1 q2 qf
  have hz7 := b7.size
  simp only [World.size_alloc] at hz7
  have hLb7 : w2.heap.size < w7.heap.size := by omega
  have Lb7 := Lib.hid ((b7.block (w2.heap.size) (by first | omega | (simp only [World.size_alloc]; done) | (simp only [World.size_alloc]; omega))).trans (by repeat' (first | (with_reducible exact (Lb6).out) | ((with_reducible refine heap_alloc_at ?_); focus (first | (with_reducible rfl) | (simp only [World.size_alloc]; done))) | ((with_reducible apply heap_alloc_before); focus (first | omega | (simp only [World.size_alloc]; done) | (simp only [World.size_alloc]; omega))))))
  have o57 := (o56.below ((Below.refl _ _).alloc (Nat.le_refl _) (.cells #[.slice A6 0 c6, .int .i64 1, .slice B6 R.length d6] 49))).below b7
  have p57 := (p56.below ((Below.refl _ _).alloc (Nat.le_refl _) (.cells #[.slice A6 0 c6, .int .i64 1, .slice B6 R.length d6] 49))).below b7
  have BB7 : Below w.heap.size w w7 := (BB6.alloc (by omega) _).trans (b7.mono (by simp; omega))
  clear b7 o56 p56 r16 o6 p6 BB6
  obtain ⟨q0, q1, q2, qf⟩ := blk3 Lb7.out
  go_wp2_with fail
  refine (heldNormalForm_any A2 0 c2 1 B2 _ d2 1 _ o57.reads p57.reads (by omega) (by simp; omega)).mono ?_
  rintro e w8 ⟨rfl, b8⟩
  clear q0 q1 q2 qf
  have BB8 : Below w.heap.size w w8 := BB7.trans (b8.mono (by omega))
  clear b8
  go_wp2_with fail
  go_ret
  exact ⟨rfl, BB8⟩
end Go.Proofs.Ytpahkbajeniajaa
