/- Contracts: RunCost, CosetRepresentative, one. -/
import Derived.Test.YtiemkfifklaadaaWq
import Derived.Test.YtiemkfifklaadaaMake
namespace Go.Proofs.Ytiemkfifklaadaa
open Go.RowKit Pop
set_option linter.unusedVariables false
set_option linter.unusedSimpArgs false

def gateCost (q : Quad) : Int := if q.1 = 7 ∨ q.1 = 8 then 100 else 1
def runCost (l : List Quad) : Int := (l.map gateCost).sum
theorem runCost_snoc (l : List Quad) (q : Quad) : runCost (l ++ [q]) = runCost l + gateCost q := by simp [runCost]
theorem gateCost_bd (q : Quad) : 0 ≤ gateCost q ∧ gateCost q ≤ 100 := by unfold gateCost; split <;> omega
theorem runCost_bd : ∀ l : List Quad, 0 ≤ runCost l ∧ runCost l ≤ 100 * l.length
  | [] => by simp [runCost]
  | q :: l => by
    have := runCost_bd l
    have := gateCost_bd q
    simp only [runCost, List.map_cons, List.sum_cons, List.length_cons] at *
    omega

theorem runCost_spec (A : Option Addr) (n c : Nat) (l : List Quad) (w : World) (ha : SlQ w A n l) (hn : n ≤ 1048576) :
    Calls Try.prog 23 #[.slice A n c] w fun e w' => e = .returned (.int .i64 (runCost l)) ∧ w' = w := by
  have hl := Lib.hid ha.1
  go_enter Try.func23, Try.ntmps23
  go_wp2
  go_loop [3, 4] (fun m i => ∃ k : Nat, k ≤ n ∧ i = .int .i64 k ∧ m = .int .i64 (runCost (l.take k))) (fun _ i => n - (intOf i).toNat)
  case atStart => exact ⟨0, by omega, rfl, by simp [runCost]⟩
  case round =>
    obtain ⟨k, hk, rfl, rfl⟩ := hrel
    have hb := runCost_bd (l.take k)
    have hb2 : (l.take k).length ≤ k := List.length_take_le _ _
    by_cases hlt : k < n
    · obtain ⟨ba, oa, a0, a1, a2, a3, rfl, la, ga, ca0, ca1, ca2, ca3⟩ := ha.at hlt
      have H : Hid (runCost (l.take (k + 1)) = runCost (l.take k) + gateCost (a0, a1, a2, a3)) := by
        rw [take_snoc_of ga.out, runCost_snoc]; exact Lib.hid rfl
      go_wp2
      all_goals
        go_round
        case rel => exact ⟨k + 1, by omega, by go_num, by rw [H.out]; simp_all [gateCost]⟩
        case measure => simp [intOf]; omega
    · go_wp2
      go_ret
      exact ⟨ret_int (by rw [List.take_of_length_le (by have := hl.out; omega)]), rfl⟩
theorem runCost_impl (A : Option Addr) (n c : Nat) (l : List Quad) (w : World) (ha : SlQ w A n l) (hn : n ≤ 1048576) :
    Calls Try.prog 25 #[.slice A n c] w fun e w' => e = .returned (.int .i64 (runCost l)) ∧ Below w.heap.size w w' := by
  have hl := Lib.hid ha.1
  go_enter Try.func25, Try.ntmps25
  go_wp2
  go_loopw [3, 8] (fun m i wr => ∃ k : Nat, k ≤ n ∧ i = .int .i64 k ∧ m = .int .i64 (runCost (l.take k)) ∧ Below w.heap.size w wr) (fun _ i _ => n - (intOf i).toNat)
  case atStart => exact ⟨0, by omega, rfl, by simp [runCost], Below.refl _ _⟩
  case round =>
    obtain ⟨k, hk, rfl, rfl, hbel⟩ := hrel
    have hb := runCost_bd (l.take k)
    have hb2 : (l.take k).length ≤ k := List.length_take_le _ _
    by_cases hlt : k < n
    · obtain ⟨ba, oa, a0, a1, a2, a3, rfl, la, ga, ca0, ca1, ca2, ca3⟩ := (ha.below hbel).at hlt
      have H : Hid (runCost (l.take (k + 1)) = runCost (l.take k) + gateCost (a0, a1, a2, a3)) := by
        rw [take_snoc_of ga.out, runCost_snoc]; exact Lib.hid rfl
      go_wp2
      all_goals
        go_roundw
        case rel => exact ⟨k + 1, by omega, by go_num, by rw [H.out]; simp_all [gateCost], hbel.alloc hbel.size _⟩
        case measure => simp [intOf]; omega
    · go_wp2
      go_ret
      exact ⟨ret_int (by rw [List.take_of_length_le (by have := hl.out; omega)]), hbel⟩
end Go.Proofs.Ytiemkfifklaadaa
