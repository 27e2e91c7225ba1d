/- The walks of exact laws on one tableau: IsValidTableau. -/
import Derived.Test.YtfjnjlgahcjodaaWm
import Derived.Test.YtfjnjlgahcjodaaWd
import Derived.Test.YtfjnjlgahcjodaaFr
namespace Go.Proofs.Ytfjnjlgahcjodaa
open Go.RowKit Pop
set_option maxRecDepth 100000
set_option linter.unusedVariables false
set_option linter.unusedSimpArgs false
theorem OwnQ.cap {w : World} {base : Nat} {E : TypeId} {A : Option Addr} {n c : Nat} {l : List Quad} (h : OwnQ w base E (.slice A n c) l) : n ≤ c := by
  rcases h.2 with ⟨hv, hn⟩ | ⟨g, cap, cur, hv, hbb, hg, hnc, rest⟩
  · have := h.len; omega
  · injection hv with _ h2 h3; omega
set_option maxHeartbeats 1000000 in
theorem law_isValidTableau (N : Int) (A : Option Addr) (n c : Nat) (l : List Quad) (w : World) (hN : (Lit.int .i64 N).wf = true) (hq : IsQuads w A n c l) :
    Calls Try.prog 3 #[.agg #[.int .i64 N, .slice A n c]] w fun e w' => e = .returned (.bool true) ∧ Below w.heap.size w w' := by
  clear hN
  obtain ⟨hm1, ha⟩ := hq
  have hl := Lib.hid ha.1
  have Hm1 := Lib.hid hm1; clear hm1
  by_cases hn : n ≤ 1048576
  · have hn' : (n : Int) ≤ 1048576 := by omega
    have hln : l.length ≤ 1048576 := by have := hl.out; omega
    go_enter Try.func3, Try.ntmps3
    go_wp2_with fail
    refine (szTableau_ok _ _ _ _ _ _ hn' (by omega)).mono ?_
    rintro e w1 ⟨rfl, b1⟩
    obtain ⟨hc1, hf1⟩ := bcell b1
    have hz1 := b1.size
    try simp only [World.size_alloc, World.size_setCell, World.size_drew, World.heap_drewN] at hz1
    have hl1a : w.heap.size < w1.heap.size := by omega
    have ha1 := (ha.alloc (.cells #[.int .i64 N, .slice A n c] 24)).below b1
    go_wp2_with fail
    refine (toTableau_any N A n c l _ ha1 hn).mono ?_
    rintro e w2 ⟨A2, c2, rfl, o2, b2⟩
    obtain ⟨hc2, hf2⟩ := bcell b2
    have hz2 := b2.size
    try simp only [World.size_alloc, World.size_setCell, World.size_drew, World.heap_drewN] at hz2
    have hl2a : w.heap.size < w2.heap.size := by omega
    go_wp2_with fail
    refine (isValidTableau_spec N A2 _ c2 l _ o2.reads hln).mono ?_
    rintro e w3 ⟨rfl, b3⟩
    obtain ⟨hc3, hf3⟩ := bcell b3
    have hz3 := b3.size
    try simp only [World.size_alloc, World.size_setCell, World.size_drew, World.heap_drewN] at hz3
    have hl3a : w.heap.size < w3.heap.size := by omega
    go_wp2_with fail
    refine (toTableau_any N A n c l _ ((ha1.below b2).below b3) hn).mono ?_
    rintro e w4 ⟨A4, c4, rfl, o4, b4⟩
    obtain ⟨hc4, hf4⟩ := bcell b4
    have hz4 := b4.size
    try simp only [World.size_alloc, World.size_setCell, World.size_drew, World.heap_drewN] at hz4
    have hl4a : w.heap.size < w4.heap.size := by omega
    go_wp2_with fail
    refine (isValidTableau_impl N A4 _ c4 l _ (o4.reads.alloc _) o4.cap hln).mono ?_
    rintro e w5 ⟨rfl, b5⟩
    obtain ⟨hc5, hf5⟩ := bcell b5
    have hz5 := b5.size
    try simp only [World.size_alloc, World.size_setCell, World.size_drew, World.heap_drewN] at hz5
    have hl5a : w.heap.size < w5.heap.size := by omega
    have hl5b : w4.heap.size < w5.heap.size := by omega
    go_wp2_with fail
    have ha5 : SlQ w5 A n l := ((((ha1.below b2).below b3).below b4).alloc _).below b5
    have o45 : OwnQ w5 w3.heap.size 35 (.slice A4 l.length c4) l := (o4.below ((Below.refl _ _).alloc (Nat.le_refl _) _)).below b5
    apply wp_region_makes [0, 1] [2] [3, 4] [] (fun j => TabΨ 35 N l) (by kernel_rfl) (by kernel_rfl) (fun _ _ d _ _ h => by cases d <;> exact h)
    case hst =>
      intro j b t u w w' h1 h2 h3
      exact h1.stable h2 h3
    case hq =>
      intro Φ hΦ hn
      simp only [pickOps, List.filterMap_cons, List.filterMap_nil, List.getElem?_toArray, List.getElem?_cons_zero, List.getElem?_cons_succ]
      repeat (first | go_big_quiet_step ((fail)) | quiet_step ((fail)))
      exact wpQuiet_nil rfl
    case hmk =>
      intro j hj o ho w' hb'
      simp only [List.mem_cons, List.not_mem_nil, or_false] at hj
      rcases hj with rfl
      · simp only [List.getElem?_toArray, List.getElem?_cons_zero, List.getElem?_cons_succ, Option.some.injEq] at ho
        subst ho
        refine MakesP.call (f := 17) (args := #[.agg #[.int .i64 N, .slice A n c]]) (by go_simp) ?_
        exact RetT.made (toTableau_any N A n c l w' (ha5.below hb') hn)
    case hlt => intro h hh; cases hh
    intro U Bs Ts w6 b6 hmade6 hdiff6
    have m6_2 := hmade6 2 (by simp)
    clear hmade6 hdiff6
    obtain ⟨hBl6_2, hBT6_2, hTu6_2, hp6_2⟩ := m6_2
    obtain ⟨A6_2, c6_2, hu6_2, o6_2⟩ := hp6_2
    simp only [putMk, dstOf, List.getElem?_toArray, List.getElem?_cons_zero, List.getElem?_cons_succ, Option.bind_some, hu6_2]
    clear hu6_2
    clear U
    generalize Bs 2 = g6_2 at *
    generalize Ts 2 = t6_2 at *
    clear Bs Ts
    simp only [pickOps, List.filterMap_cons, List.filterMap_nil, List.getElem?_toArray, List.getElem?_cons_zero, List.getElem?_cons_succ]
    go_wp2_with fail
    refine (eqTableau_any N N A4 A6_2 _ _ c4 c6_2 l l _ (o45.below b6).reads o6_2.reads hln).mono ?_
    rintro e w7 ⟨rfl, b7⟩
    go_wp2_with fail
    go_ret
    refine ⟨rfl, ?_⟩
    repeat' (first | (with_reducible exact Below.refl _ _) | (with_reducible refine below_drewN ?_ _) | (with_reducible refine Below.drew ?_) | (with_reducible refine Below.alloc ?_ ?_ _) | (with_reducible refine Below.setCell ?_ ?_ _) | (with_reducible refine Below.trans ?_ (Below.mono (by with_reducible assumption) ?_)) | go_size | (with_reducible refine Nat.le_trans ?_ (Below.size (by with_reducible assumption))))
  · have hn' : (1048576 : Int) < (n : Int) := by omega
    go_enter Try.func3, Try.ntmps3
    go_wp2_with fail
    refine (szTableau_big _ _ _ _ _ _ hn' (by omega) Hm1.out).mono ?_
    rintro e w1 ⟨rfl, b1⟩
    obtain ⟨hc1, hf1⟩ := bcell b1
    have hz1 := b1.size
    try simp only [World.size_alloc, World.size_setCell, World.size_drew, World.heap_drewN] at hz1
    have hl1a : w.heap.size < w1.heap.size := by omega
    go_wp2_with fail
    go_ret
    refine ⟨rfl, ?_⟩
    repeat' (first | (with_reducible exact Below.refl _ _) | (with_reducible refine below_drewN ?_ _) | (with_reducible refine Below.drew ?_) | (with_reducible refine Below.alloc ?_ ?_ _) | (with_reducible refine Below.setCell ?_ ?_ _) | (with_reducible refine Below.trans ?_ (Below.mono (by with_reducible assumption) ?_)) | go_size | (with_reducible refine Nat.le_trans ?_ (Below.size (by with_reducible assumption))))
end Go.Proofs.Ytfjnjlgahcjodaa
