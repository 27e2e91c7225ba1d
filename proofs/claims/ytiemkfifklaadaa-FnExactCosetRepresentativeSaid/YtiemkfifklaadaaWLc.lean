/- The walks of exact laws: RunCost, CosetRepresentative. -/
import Derived.Test.YtiemkfifklaadaaWc
import Derived.Test.YtiemkfifklaadaaFr
namespace Go.Proofs.Ytiemkfifklaadaa
open Go.RowKit Pop
set_option linter.unusedVariables false
set_option linter.unusedSimpArgs false

theorem law_runCost (A : Option Addr) (n c : Nat) (l : List Quad) (w : World) (hq : IsQuads w A n c l) : Calls Try.prog 6 #[.slice A n c] w fun e w' => e = .returned (.bool true) ∧ Below w.heap.size w w' := by
  obtain ⟨hm, ha⟩ := hq
  have hl := Lib.hid ha.1
  by_cases hn : n ≤ 1048576
  · have hn' : (n : Int) ≤ 1048576 := by omega
    go_enter Try.func6, Try.ntmps6
    go_wp2_with fail
    refine (szGateS_ok _ _ _ _ _ hn' (by omega)).mono ?_
    rintro e w' ⟨rfl, hw'⟩
    rw [hw']
    clear hw' w'
    go_wp2_with fail
    refine (toGateS_any A n c l _ ha hn).mono ?_
    rintro e w1 ⟨A1, c1, rfl, o1, b1⟩
    have hln : l.length ≤ 1048576 := by have := hl.out; omega
    go_wp2_with fail
    refine (runCost_spec A1 _ c1 l _ o1.reads hln).mono ?_
    rintro e w' ⟨rfl, hw'⟩
    rw [hw']
    clear hw' w'
    go_wp2_with fail
    refine (toGateS_any A n c l _ (ha.below b1) hn).mono ?_
    rintro e w2 ⟨A2, c2, rfl, o2, b2⟩
    go_wp2_with fail
    refine (runCost_impl A2 _ c2 l _ o2.reads hln).mono ?_
    rintro e w3 ⟨rfl, b3⟩
    go_wp2_with fail
    refine (toGateS_any A n c l _ (((ha.below b1).below b2).below b3) hn).mono ?_
    rintro e w4 ⟨A4, c4, rfl, o4, b4⟩
    go_wp2_with fail
    refine (eqGateS_any A2 A4 _ _ c2 c4 l l _ ((o2.below b3).below b4).reads o4.reads hln).mono ?_
    rintro e w5 ⟨rfl, b5⟩
    go_wp2_with fail
    go_ret
    refine ⟨rfl, ?_⟩
    repeat' (first | (with_reducible exact Below.refl _ _) | (with_reducible refine below_drewN ?_ _) | (with_reducible refine Below.drew ?_) | (with_reducible refine Below.alloc ?_ ?_ _) | (with_reducible refine Below.setCell ?_ ?_ _) | (with_reducible refine Below.trans ?_ (Below.mono (by with_reducible assumption) ?_)) | go_size | (with_reducible refine Nat.le_trans ?_ (Below.size (by with_reducible assumption))))
  · have hn' : (1048576 : Int) < (n : Int) := by omega
    go_enter Try.func6, Try.ntmps6
    go_wp2_with fail
    refine (szGateS_big _ _ _ _ _ hn' (by omega) hm).mono ?_
    rintro e w' ⟨rfl, hw'⟩
    rw [hw']
    clear hw' w'
    go_wp2_with fail
    go_ret
    exact ⟨rfl, Below.refl _ _⟩
theorem law_cosetRepresentative (k : Int) (w : World) (hk : (Lit.int .i64 k).wf = true) : Calls Try.prog 8 #[.int .i64 k] w fun e w' => e = .returned (.bool true) ∧ Below w.heap.size w w' := by
  clear hk
  have hln : (cosetRep k).length ≤ 2 := by unfold cosetRep; split <;> (try split) <;> simp
  generalize hL : cosetRep k = L at *
  have HL := Lib.hid hL
  clear hL
  have cs : ∀ W, Calls Try.prog 29 #[.int .i64 k] W (RetQ 64 L W) := fun W => by rw [← HL.out]; exact cosetRep_spec k W
  have ci : ∀ W, Calls Try.prog 30 #[.int .i64 k] W (RetQ 64 L W) := fun W => by rw [← HL.out]; exact cosetRep_impl k W
  have Cs := Lib.hid cs; clear cs
  have Ci := Lib.hid ci; clear ci
  go_enter Try.func8, Try.ntmps8
  go_wp2_with fail
  refine (Cs.out _).mono ?_
  rintro e w1 ⟨A1, c1, rfl, o1, b1⟩
  go_wp2_with fail
  refine (Ci.out _).mono ?_
  rintro e w2 ⟨A2, c2, rfl, o2, b2⟩
  go_wp2_with fail
  refine (eqGateS_any A2 A1 _ _ c2 c1 L L _ o2.reads (o1.below b2).reads (by omega)).mono ?_
  rintro e w3 ⟨rfl, b3⟩
  have o23 := o2.below b3
  have o13 := (o1.below b2).below b3
  go_wp2_with fail
  refine (markGateS_any A2 _ c2 _ 1 L _ o23 (by omega) (by omega)).mono ?_
  rintro e w4 ⟨rfl, o4, b4⟩
  have r14 : SlQ w4 A1 L.length L := by
    refine (o1.reads.keep ?_ fun p hp => ?_)
    · exact Nat.le_trans (Nat.le_trans b2.size b3.size) b4.size
    · exact (b4.cell hp).trans ((b3.cell (Nat.lt_of_lt_of_le hp b2.size)).trans (b2.cell hp))
  go_wp2_with fail
  refine (heldGateS_any A2 _ c2 1 _ o4.reads (by omega) (by omega)).mono ?_
  rintro e w' ⟨rfl, hw'⟩
  rw [hw']
  clear hw' w'
  go_wp2_with fail
  refine (Ci.out _).mono ?_
  rintro e w5 ⟨A5, c5, rfl, o5, b5⟩
  go_wp2_with fail
  refine (eqGateS_any A5 A1 _ _ c5 c1 L L _ o5.reads (r14.below b5) (by omega)).mono ?_
  rintro e w6 ⟨rfl, b6⟩
  go_wp2_with fail
  refine (heldGateS_any A2 _ c2 1 _ ((o4.below b5).below b6).reads (by omega) (by omega)).mono ?_
  rintro e w' ⟨rfl, hw'⟩
  rw [hw']
  clear hw' w'
  go_wp2_with fail
  go_ret
  refine ⟨rfl, ?_⟩
  repeat' (first | (with_reducible exact Below.refl _ _) | (with_reducible refine below_drewN ?_ _) | (with_reducible refine Below.drew ?_) | (with_reducible refine Below.alloc ?_ ?_ _) | (with_reducible refine Below.setCell ?_ ?_ _) | (with_reducible refine Below.trans ?_ (Below.mono (by with_reducible assumption) ?_)) | go_size | (with_reducible refine Nat.le_trans ?_ (Below.size (by with_reducible assumption))))
end Go.Proofs.Ytiemkfifklaadaa
