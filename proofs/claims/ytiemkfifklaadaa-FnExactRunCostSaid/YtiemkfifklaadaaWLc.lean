/- The walks of exact laws: RunCost, CosetRepresentative. -/
import Derived.Test.YtiemkfifklaadaaWc
import Derived.Test.YtiemkfifklaadaaFr
namespace Go.Proofs.Ytiemkfifklaadaa
open Go.RowKit Pop
set_option linter.unusedVariables false
set_option linter.unusedSimpArgs false

theorem law_runCost (A : Option Addr) (n c : Nat) (l : List Quad) (w : World) (hq : IsQuads w A n c l) : Calls Try.prog 6 #[.slice A n c] w fun e w' => e = .returned (.bool true) ∧ Below w.heap.size w w' := by
  obtain ⟨hm, ha⟩ := hq
  have hl := Lib.hid ha.1
  by_cases hn : n ≤ 1048576
  · have hn' : (n : Int) ≤ 1048576 := by omega
    go_enter Try.func6, Try.ntmps6
    go_wp2_with fail
    refine (szGateS_ok _ _ _ _ _ hn' (by omega)).mono ?_
    rintro e w' ⟨rfl, hw'⟩
    rw [hw']
    clear hw' w'
    go_wp2_with fail
    refine (toGateS_any A n c l _ ha hn).mono ?_
    rintro e w1 ⟨A1, c1, rfl, o1, b1⟩
    have hln : l.length ≤ 1048576 := by have := hl.out; omega
    go_wp2_with fail
    refine (runCost_spec A1 _ c1 l _ o1.reads hln).mono ?_
    rintro e w' ⟨rfl, hw'⟩
    rw [hw']
    clear hw' w'
    go_wp2_with fail
    refine (toGateS_any A n c l _ (ha.below b1) hn).mono ?_
    rintro e w2 ⟨A2, c2, rfl, o2, b2⟩
    go_wp2_with fail
    refine (runCost_impl A2 _ c2 l _ o2.reads hln).mono ?_
    rintro e w3 ⟨rfl, b3⟩
    go_wp2_with fail
    refine (toGateS_any A n c l _ (((ha.below b1).below b2).below b3) hn).mono ?_
    rintro e w4 ⟨A4, c4, rfl, o4, b4⟩
    go_wp2_with fail
    refine (eqGateS_any A2 A4 _ _ c2 c4 l l _ ((o2.below b3).below b4).reads o4.reads hln).mono ?_
    rintro e w5 ⟨rfl, b5⟩
    go_wp2_with fail
    go_ret
    refine ⟨rfl, ?_⟩
    repeat' (first | (with_reducible exact Below.refl _ _) | (with_reducible refine below_drewN ?_ _) | (with_reducible refine Below.drew ?_) | (with_reducible refine Below.alloc ?_ ?_ _) | (with_reducible refine Below.setCell ?_ ?_ _) | (with_reducible refine Below.trans ?_ (Below.mono (by with_reducible assumption) ?_)) | go_size | (with_reducible refine Nat.le_trans ?_ (Below.size (by with_reducible assumption))))
  · have hn' : (1048576 : Int) < (n : Int) := by omega
    go_enter Try.func6, Try.ntmps6
    go_wp2_with fail
    refine (szGateS_big _ _ _ _ _ hn' (by omega) hm).mono ?_
    rintro e w' ⟨rfl, hw'⟩
    rw [hw']
    clear hw' w'
    go_wp2_with fail
    go_ret
    exact ⟨rfl, Below.refl _ _⟩
end Go.Proofs.Ytiemkfifklaadaa
