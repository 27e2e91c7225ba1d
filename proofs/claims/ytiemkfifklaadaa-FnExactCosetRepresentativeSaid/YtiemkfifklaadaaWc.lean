/- Contracts: RunCost, CosetRepresentative, one. -/
import Derived.Test.YtiemkfifklaadaaWq
import Derived.Test.YtiemkfifklaadaaMake
namespace Go.Proofs.Ytiemkfifklaadaa
open Go.RowKit Pop
set_option linter.unusedVariables false
set_option linter.unusedSimpArgs false

def gateCost (q : Quad) : Int := if q.1 = 7 ∨ q.1 = 8 then 100 else 1
def runCost (l : List Quad) : Int := (l.map gateCost).sum
theorem runCost_snoc (l : List Quad) (q : Quad) : runCost (l ++ [q]) = runCost l + gateCost q := by simp [runCost]
theorem gateCost_bd (q : Quad) : 0 ≤ gateCost q ∧ gateCost q ≤ 100 := by unfold gateCost; split <;> omega
theorem runCost_bd : ∀ l : List Quad, 0 ≤ runCost l ∧ runCost l ≤ 100 * l.length
  | [] => by simp [runCost]
  | q :: l => by
    have := runCost_bd l
    have := gateCost_bd q
    simp only [runCost, List.map_cons, List.sum_cons, List.length_cons] at *
    omega

theorem runCost_spec (A : Option Addr) (n c : Nat) (l : List Quad) (w : World) (ha : SlQ w A n l) (hn : n ≤ 1048576) :
    Calls Try.prog 23 #[.slice A n c] w fun e w' => e = .returned (.int .i64 (runCost l)) ∧ w' = w := by
  have hl := Lib.hid ha.1
  go_enter Try.func23, Try.ntmps23
  go_wp2
  go_loop [3, 4] (fun m i => ∃ k : Nat, k ≤ n ∧ i = .int .i64 k ∧ m = .int .i64 (runCost (l.take k))) (fun _ i => n - (intOf i).toNat)
  case atStart => exact ⟨0, by omega, rfl, by simp [runCost]⟩
  case round =>
    obtain ⟨k, hk, rfl, rfl⟩ := hrel
    have hb := runCost_bd (l.take k)
    have hb2 : (l.take k).length ≤ k := List.length_take_le _ _
    by_cases hlt : k < n
    · obtain ⟨ba, oa, a0, a1, a2, a3, rfl, la, ga, ca0, ca1, ca2, ca3⟩ := ha.at hlt
      have H : Hid (runCost (l.take (k + 1)) = runCost (l.take k) + gateCost (a0, a1, a2, a3)) := by
        rw [take_snoc_of ga.out, runCost_snoc]; exact Lib.hid rfl
      go_wp2
      all_goals
        go_round
        case rel => exact ⟨k + 1, by omega, by go_num, by rw [H.out]; simp_all [gateCost]⟩
        case measure => simp [intOf]; omega
    · go_wp2
      go_ret
      exact ⟨ret_int (by rw [List.take_of_length_le (by have := hl.out; omega)]), rfl⟩
theorem runCost_impl (A : Option Addr) (n c : Nat) (l : List Quad) (w : World) (ha : SlQ w A n l) (hn : n ≤ 1048576) :
    Calls Try.prog 25 #[.slice A n c] w fun e w' => e = .returned (.int .i64 (runCost l)) ∧ Below w.heap.size w w' := by
  have hl := Lib.hid ha.1
  go_enter Try.func25, Try.ntmps25
  go_wp2
  go_loopw [3, 8] (fun m i wr => ∃ k : Nat, k ≤ n ∧ i = .int .i64 k ∧ m = .int .i64 (runCost (l.take k)) ∧ Below w.heap.size w wr) (fun _ i _ => n - (intOf i).toNat)
  case atStart => exact ⟨0, by omega, rfl, by simp [runCost], Below.refl _ _⟩
  case round =>
    obtain ⟨k, hk, rfl, rfl, hbel⟩ := hrel
    have hb := runCost_bd (l.take k)
    have hb2 : (l.take k).length ≤ k := List.length_take_le _ _
    by_cases hlt : k < n
    · obtain ⟨ba, oa, a0, a1, a2, a3, rfl, la, ga, ca0, ca1, ca2, ca3⟩ := (ha.below hbel).at hlt
      have H : Hid (runCost (l.take (k + 1)) = runCost (l.take k) + gateCost (a0, a1, a2, a3)) := by
        rw [take_snoc_of ga.out, runCost_snoc]; exact Lib.hid rfl
      go_wp2
      all_goals
        go_roundw
        case rel => exact ⟨k + 1, by omega, by go_num, by rw [H.out]; simp_all [gateCost], hbel.alloc hbel.size _⟩
        case measure => simp [intOf]; omega
    · go_wp2
      go_ret
      exact ⟨ret_int (by rw [List.take_of_length_le (by have := hl.out; omega)]), hbel⟩
theorem one_impl (k a : Int) (w : World) : Calls Try.prog 57 #[.int .i64 k, .int .i64 a] w fun e w' => e = .returned (.agg #[.int .i64 k, .int .i64 a, .int .i64 0, .int .i64 0]) ∧ Below w.heap.size w w' := by
  go_enter Try.func57, Try.ntmps57
  go_wp2
  refine bodyPost_ret (v := .agg #[.int .i64 k, .int .i64 a, .int .i64 0, .int .i64 0]) (by simp [results, Try.results57, go_sem]) rfl ⟨rfl, ?_⟩
  repeat' (first | (with_reducible exact Below.refl _ _) | (with_reducible refine below_drewN ?_ _) | (with_reducible refine Below.drew ?_) | (with_reducible refine Below.alloc ?_ ?_ _) | (with_reducible refine Below.setCell ?_ ?_ _) | (with_reducible refine Below.trans ?_ (Below.mono (by with_reducible assumption) ?_)) | go_size | (with_reducible refine Nat.le_trans ?_ (Below.size (by with_reducible assumption))))
theorem one_spec (k a : Int) (w : World) : Calls Try.prog 56 #[.int .i64 k, .int .i64 a] w fun e w' => e = .returned (.agg #[.int .i64 k, .int .i64 a, .int .i64 0, .int .i64 0]) ∧ Below w.heap.size w w' := by
  go_enter Try.func56, Try.ntmps56
  go_wp2
  refine bodyPost_ret (v := .agg #[.int .i64 k, .int .i64 a, .int .i64 0, .int .i64 0]) (by simp [results, Try.results56, go_sem]) rfl ⟨rfl, ?_⟩
  repeat' (first | (with_reducible exact Below.refl _ _) | (with_reducible refine below_drewN ?_ _) | (with_reducible refine Below.drew ?_) | (with_reducible refine Below.alloc ?_ ?_ _) | (with_reducible refine Below.setCell ?_ ?_ _) | (with_reducible refine Below.trans ?_ (Below.mono (by with_reducible assumption) ?_)) | go_size | (with_reducible refine Nat.le_trans ?_ (Below.size (by with_reducible assumption))))
def cosetRep (k : Int) : List Quad := if k = 1 then [(4, 0, 0, 0)] else if k = 2 then [(6, 0, 0, 0), (4, 0, 0, 0)] else []
theorem cosetRep_impl (k : Int) (w : World) : Calls Try.prog 30 #[.int .i64 k] w (RetQ 64 (cosetRep k) w) := by
  by_cases h1 : k = 1
  · subst h1
    go_enter Try.func30, Try.ntmps30
    go_wp2_with (go_at_call 57; refine (one_impl _ _ _).mono ?_; rintro e w1 ⟨rfl, b1⟩)
    go_ret
    refine RetQ.mk (OwnQ.lit w1 _ [(4, 0, 0, 0)] 1 rfl rfl b1.size (by omega)) ?_
    repeat' (first | (with_reducible exact Below.refl _ _) | (with_reducible refine below_drewN ?_ _) | (with_reducible refine Below.drew ?_) | (with_reducible refine Below.alloc ?_ ?_ _) | (with_reducible refine Below.setCell ?_ ?_ _) | (with_reducible refine Below.trans ?_ (Below.mono (by with_reducible assumption) ?_)) | go_size | (with_reducible refine Nat.le_trans ?_ (Below.size (by with_reducible assumption))))
  · by_cases h2 : k = 2
    · subst h2
      go_enter Try.func30, Try.ntmps30
      go_wp2_with fail
      refine (one_impl _ _ _).mono ?_
      rintro e w1 ⟨rfl, b1⟩
      go_wp2_with fail
      refine (one_impl _ _ _).mono ?_
      rintro e w2 ⟨rfl, b2⟩
      go_wp2_with fail
      go_ret
      refine RetQ.mk (OwnQ.lit w2 _ [(6, 0, 0, 0), (4, 0, 0, 0)] 2 rfl rfl (Nat.le_trans b1.size b2.size) (by omega)) ?_
      repeat' (first | (with_reducible exact Below.refl _ _) | (with_reducible refine below_drewN ?_ _) | (with_reducible refine Below.drew ?_) | (with_reducible refine Below.alloc ?_ ?_ _) | (with_reducible refine Below.setCell ?_ ?_ _) | (with_reducible refine Below.trans ?_ (Below.mono (by with_reducible assumption) ?_)) | go_size | (with_reducible refine Nat.le_trans ?_ (Below.size (by with_reducible assumption))))
    · have hc : cosetRep k = [] := by simp [cosetRep, h1, h2]
      have h1' : (k == 1) = false := by simp [h1]
      have h2' : (k == 2) = false := by simp [h2]
      rw [hc]
      clear hc
      go_enter Try.func30, Try.ntmps30
      go_wp2_with fail
      go_ret
      first
        | exact RetQ.mk (OwnQ.nil _ _ _) (Below.refl _ _)
        | (refine RetQ.mk (OwnQ.lit w _ [] 0 rfl rfl (Nat.le_refl _) (by omega)) ?_; exact (Below.refl _ _).alloc (Nat.le_refl _) _)
theorem cosetRep_spec (k : Int) (w : World) : Calls Try.prog 29 #[.int .i64 k] w (RetQ 64 (cosetRep k) w) := by
  by_cases h1 : k = 1
  · subst h1
    go_enter Try.func29, Try.ntmps29
    go_wp2_with (go_at_call 56; refine (one_spec _ _ _).mono ?_; rintro e w1 ⟨rfl, b1⟩)
    go_ret
    refine RetQ.mk (OwnQ.lit w1 _ [(4, 0, 0, 0)] 1 rfl rfl b1.size (by omega)) ?_
    repeat' (first | (with_reducible exact Below.refl _ _) | (with_reducible refine below_drewN ?_ _) | (with_reducible refine Below.drew ?_) | (with_reducible refine Below.alloc ?_ ?_ _) | (with_reducible refine Below.setCell ?_ ?_ _) | (with_reducible refine Below.trans ?_ (Below.mono (by with_reducible assumption) ?_)) | go_size | (with_reducible refine Nat.le_trans ?_ (Below.size (by with_reducible assumption))))
  · by_cases h2 : k = 2
    · subst h2
      go_enter Try.func29, Try.ntmps29
      go_wp2_with fail
      refine (one_spec _ _ _).mono ?_
      rintro e w1 ⟨rfl, b1⟩
      go_wp2_with fail
      refine (one_spec _ _ _).mono ?_
      rintro e w2 ⟨rfl, b2⟩
      go_wp2_with fail
      go_ret
      refine RetQ.mk (OwnQ.lit w2 _ [(6, 0, 0, 0), (4, 0, 0, 0)] 2 rfl rfl (Nat.le_trans b1.size b2.size) (by omega)) ?_
      repeat' (first | (with_reducible exact Below.refl _ _) | (with_reducible refine below_drewN ?_ _) | (with_reducible refine Below.drew ?_) | (with_reducible refine Below.alloc ?_ ?_ _) | (with_reducible refine Below.setCell ?_ ?_ _) | (with_reducible refine Below.trans ?_ (Below.mono (by with_reducible assumption) ?_)) | go_size | (with_reducible refine Nat.le_trans ?_ (Below.size (by with_reducible assumption))))
    · have hc : cosetRep k = [] := by simp [cosetRep, h1, h2]
      have h1' : (k == 1) = false := by simp [h1]
      have h2' : (k == 2) = false := by simp [h2]
      rw [hc]
      clear hc
      go_enter Try.func29, Try.ntmps29
      go_wp2_with fail
      go_ret
      first
        | exact RetQ.mk (OwnQ.nil _ _ _) (Below.refl _ _)
        | (refine RetQ.mk (OwnQ.lit w _ [] 0 rfl rfl (Nat.le_refl _) (by omega)) ?_; exact (Below.refl _ _).alloc (Nat.le_refl _) _)
end Go.Proofs.Ytiemkfifklaadaa
