/- Contracts: FormatPauli of the program. -/
import Derived.Test.YtpahkbajeniajaaWh
namespace Go.Proofs.Ytpahkbajeniajaa
open Go.RowKit Pop
set_option maxRecDepth 100000
set_option linter.unusedVariables false
set_option linter.unusedSimpArgs false
theorem andPop_all : ((List.range 16).all fun i => (List.range 16).all fun j => decide (andPop (i : Nat) (j : Nat) ≤ 4)) = true := by kernel_rfl
theorem andPop_small (x z : Int) (h : 0 ≤ x ∧ x ≤ 15 ∧ 0 ≤ z ∧ z ≤ 15) : andPop x z ≤ 4 := by
  obtain ⟨i, rfl⟩ := Int.eq_ofNat_of_zero_le h.1
  obtain ⟨j, rfl⟩ := Int.eq_ofNat_of_zero_le h.2.2.1
  have := andPop_all
  simp only [List.all_eq_true, List.mem_range, decide_eq_true_eq] at this
  exact this i (by omega) j (by omega)
theorem valid_xz {n x z p : Int} (hv : validB n x z p = true) : 0 ≤ x ∧ x ≤ 15 ∧ 0 ≤ z ∧ z ≤ 15 := by
  have hn : 1 ≤ n ∧ n ≤ 4 := by simp only [validB, Bool.and_eq_true] at hv; exact inB_true.1 hv.1
  simp only [validB, Bool.and_eq_true] at hv
  obtain ⟨x0, x1⟩ := inB_true.1 hv.2.1
  obtain ⟨z0, z1⟩ := inB_true.1 hv.2.2.1
  have hn4 : n = 1 ∨ n = 2 ∨ n = 3 ∨ n = 4 := by omega
  rcases hn4 with rfl | rfl | rfl | rfl <;> simp only [pow2_1, pow2_2, pow2_3, pow2_4] at x1 z1 <;> omega
theorem ph_cell {w : World} {g : Nat} {t : TypeId} (h : w.heap[g]? = some (.cells #[.string ⟨#[43]⟩, .string ⟨#[43, 105]⟩, .string ⟨#[45]⟩, .string ⟨#[45, 105]⟩] t (0, 0))) (k : Int) :
    ∃ K : Nat, Hid (k % 4 = (K : Int)) ∧ K < 4 ∧ w.cell? ⟨g, K, none⟩ = some (.string (phStr (k % 4))) := by
  obtain ⟨q0, q1, q2, q3, _⟩ := blk4 h
  have h4 : k % 4 = 0 ∨ k % 4 = 1 ∨ k % 4 = 2 ∨ k % 4 = 3 := by omega
  rcases h4 with h4 | h4 | h4 | h4
  · exact ⟨0, by rw [h4]; exact Lib.hid rfl, by omega, by rw [h4]; exact q0⟩
  · exact ⟨1, by rw [h4]; exact Lib.hid rfl, by omega, by rw [h4]; exact q1⟩
  · exact ⟨2, by rw [h4]; exact Lib.hid rfl, by omega, by rw [h4]; exact q2⟩
  · exact ⟨3, by rw [h4]; exact Lib.hid rfl, by omega, by rw [h4]; exact q3⟩
theorem ch_cell {w : World} {g : Nat} {t : TypeId} (h : w.heap[g]? = some (.cells #[.string ⟨#[73]⟩, .string ⟨#[88]⟩, .string ⟨#[90]⟩, .string ⟨#[89]⟩] t (0, 0))) (x z : Int) :
    ∃ K : Nat, Hid (x % 2 + 2 * (z % 2) = (K : Int)) ∧ K < 4 ∧ w.cell? ⟨g, K, none⟩ = some (.string (chStr (x % 2) (z % 2))) := by
  obtain ⟨q0, q1, q2, q3, _⟩ := blk4 h
  have hx : x % 2 = 0 ∨ x % 2 = 1 := by omega
  have hz : z % 2 = 0 ∨ z % 2 = 1 := by omega
  rcases hx with hx | hx <;> rcases hz with hz | hz <;> rw [hx, hz]
  · exact ⟨0, Lib.hid rfl, by omega, q0⟩
  · exact ⟨2, Lib.hid rfl, by omega, q2⟩
  · exact ⟨1, Lib.hid rfl, by omega, q1⟩
  · exact ⟨3, Lib.hid rfl, by omega, q3⟩
set_option maxHeartbeats 2000000 in
theorem formatPauli_impl_ok (n x z p : Int) (w : World) (hv : validB n x z p = true) : Calls Try.prog 17 #[.agg #[.int .i64 n, .int .i64 x, .int .i64 z, .int .i64 p]] w fun e w' => e = .returned (.string (fmtTo x z p n.toNat)) ∧ Below w.heap.size w w' := by
  have hp := valid_ph hv
  have hn : 1 ≤ n ∧ n ≤ 4 := by simp only [validB, Bool.and_eq_true] at hv; exact inB_true.1 hv.1
  have hxz := valid_xz hv
  have h1 := andPop_bd x z
  have h2 := andPop_small x z hxz
  have e0 : IntKind.i64.wrap (p - andPop x z) = p - andPop x z := IntWalk.i64_in _ (by omega)
  have e1 : IntKind.i64.wrap (p - andPop x z + 8) = p - andPop x z + 8 := IntWalk.i64_in _ (by omega)
  have e2 : (p - andPop x z + 8).tmod 4 = (p - andPop x z) % 4 := by rw [Int.tmod_eq_emod_of_nonneg (by omega)]; omega
  obtain ⟨N, rfl⟩ := Int.eq_ofNat_of_zero_le (show 0 ≤ n by omega)
  have hand := bits_and_one
  have hN : (1 : Int) ≤ N ∧ (N : Int) ≤ 4 := hn
  clear hn hxz
  have hs0 : fmtTo x z p 0 = phStr ((p - andPop x z) % 4) := rfl
  have Hs0 := Lib.hid hs0; clear hs0
  rw [Int.toNat_natCast]
  go_enter Try.func17, Try.ntmps17
  go_wp2_with fail
  refine (isValidPauli_impl _ _ _ _ _).mono ?_
  rintro e w1 ⟨rfl, b1⟩
  obtain ⟨hc1, hf1⟩ := bcell b1
  have hz1 := b1.size
  try simp only [World.size_alloc, World.size_setCell, World.size_drew, World.heap_drewN] at hz1
  have hl1a : w.heap.size < w1.heap.size := by omega
  go_wp2_with fail
  apply wp_region_makes [1, 2, 3, 4, 5, 6, 7, 8, 9, 10, 11] [0] [12, 13, 14] [] (fun j => BlkΨ (fun g => .slice (some ⟨g, 0, none⟩) 4 4) (.cells #[.string ⟨#[43]⟩, .string ⟨#[43, 105]⟩, .string ⟨#[45]⟩, .string ⟨#[45, 105]⟩] 9)) (by kernel_rfl) (by kernel_rfl) (fun _ _ d _ _ h => by cases d <;> exact h)
  case hst =>
    intro j b t u w w' h1 h2 h3
    exact h1.stable h2 h3
  case hq =>
    intro Φ hΦ hn
    simp only [pickOps, List.filterMap_cons, List.filterMap_nil, List.getElem?_toArray, List.getElem?_cons_zero, List.getElem?_cons_succ]
    repeat (first | go_big_quiet_step ((go_at_call 59; exact laterF_of_same hΦ (ones_and _ _ _))) | quiet_step ((go_at_call 59; exact laterF_of_same hΦ (ones_and _ _ _))))
    exact wpQuiet_nil rfl
  case hmk =>
    intro j hj o ho w' hb'
    simp only [List.mem_cons, List.not_mem_nil, or_false] at hj
    rcases hj with rfl
    · simp only [List.getElem?_toArray, List.getElem?_cons_zero, List.getElem?_cons_succ, Option.some.injEq] at ho
      subst ho
      exact MakesP.blk (by go_simp)
  case hlt => intro h hh; cases hh
  intro U Bs Ts w3 b3 hmade3 hdiff3
  have m3_0 := hmade3 0 (by simp)
  clear hmade3 hdiff3
  obtain ⟨hBl3_0, hBT3_0, hTu3_0, hp3_0⟩ := m3_0
  obtain ⟨hu3_0, ht3_0, hg3_0⟩ := hp3_0
  simp only [putMk, dstOf, List.getElem?_toArray, List.getElem?_cons_zero, List.getElem?_cons_succ, Option.bind_some, hu3_0]
  clear hu3_0
  clear U
  generalize Bs 0 = g3_0 at *
  generalize Ts 0 = t3_0 at *
  clear Bs Ts
  simp only [pickOps, List.filterMap_cons, List.filterMap_nil, List.getElem?_toArray, List.getElem?_cons_zero, List.getElem?_cons_succ]
  obtain ⟨K, hK, hK4, hcK⟩ := ph_cell hg3_0 (p - andPop x z)
  rw [hK.out]
  rw [hK.out] at hcK
  have hst := Hs0.out
  rw [hK.out] at hst
  have Hst := Lib.hid hst; clear hst
  generalize phStr (K : Int) = ph at *
  have hK0 : (0 : Int) ≤ (K : Int) := Int.natCast_nonneg _
  have hK1 : (K : Int) < 4 := by omega
  clear e0 e1 e2
  go_wp2_with fail
  have hbb : Below (w.alloc (.cells #[.int .i64 (N : Int), .int .i64 x, .int .i64 z, .int .i64 p] 25)).heap.size (w.alloc (.cells #[.int .i64 (N : Int), .int .i64 x, .int .i64 z, .int .i64 p] 25)) w3 := b1.trans (b3.mono b1.size)
  go_loopw [3, 4] (fun s i wr => ∃ k : Nat, k ≤ N ∧ i = .int .i64 k ∧ s = .string (fmtTo x z p k) ∧ Below (w.alloc (.cells #[.int .i64 (N : Int), .int .i64 x, .int .i64 z, .int .i64 p] 25)).heap.size (w.alloc (.cells #[.int .i64 (N : Int), .int .i64 x, .int .i64 z, .int .i64 p] 25)) wr) (fun _ i _ => N - (intOf i).toNat)
  case atStart => exact ⟨0, by omega, rfl, by rw [Hst.out], hbb⟩
  case round =>
    clear hbb hc1 hf1 hz1 hl1a hK hcK b3 b1 hBl3_0 hBT3_0 hTu3_0 hg3_0 ht3_0
    obtain ⟨k, hk, rfl, rfl, b2⟩ := hrel
    have hz2 := b2.size
    simp only [World.size_alloc] at hz2
    have hl2a : w.heap.size < wr.heap.size := by omega
    obtain ⟨q0, q1, q2, q3, qf⟩ := blk4 ((b2.block w.heap.size (by simp)).trans (heap_alloc_new _ _))
    by_cases hlt : k < N
    · have hk0 : (0 : Int) ≤ (k : Int) := Int.natCast_nonneg _
      have hk1 : (k : Int) < (N : Int) := by omega
      have e3 : IntKind.i64.wrap (2 * (z / 2 ^ k % 2)) = 2 * (z / 2 ^ k % 2) := IntWalk.i64_in _ (by omega)
      have e4 : IntKind.i64.wrap (x / 2 ^ k % 2 + 2 * (z / 2 ^ k % 2)) = x / 2 ^ k % 2 + 2 * (z / 2 ^ k % 2) := IntWalk.i64_in _ (by omega)
      go_wp2_with fail
      apply wp_region_makes [0, 2, 3, 4, 5, 6, 7, 8, 9, 10, 11, 12, 13] [1] [14, 15, 16, 17] [0] (fun j => BlkΨ (fun g => .slice (some ⟨g, 0, none⟩) 4 4) (.cells #[.string ⟨#[73]⟩, .string ⟨#[88]⟩, .string ⟨#[90]⟩, .string ⟨#[89]⟩] 9)) (by kernel_rfl) (by kernel_rfl) (fun _ _ d _ _ h => by cases d <;> exact h)
      case hst =>
        intro j b t u w w' h1 h2 h3
        exact h1.stable h2 h3
      case hq =>
        intro Φ hΦ hn
        simp only [pickOps, List.filterMap_cons, List.filterMap_nil, List.getElem?_toArray, List.getElem?_cons_zero, List.getElem?_cons_succ]
        repeat (first | go_big_quiet_step ((fail)) | quiet_step ((fail)))
        exact wpQuiet_nil rfl
      case hmk =>
        intro j hj o ho w' hb'
        simp only [List.mem_cons, List.not_mem_nil, or_false] at hj
        rcases hj with rfl
        · simp only [List.getElem?_toArray, List.getElem?_cons_zero, List.getElem?_cons_succ, Option.some.injEq] at ho
          subst ho
          exact MakesP.blk (by go_simp)
      case hlt =>
        intro h hh o ho
        simp only [List.mem_cons, List.not_mem_nil, or_false] at hh
        try rcases hh with rfl
        all_goals
          first
            | exact hh.elim
            | (simp only [List.getElem?_toArray, List.getElem?_cons_zero, List.getElem?_cons_succ, Option.some.injEq] at ho
               subst ho
               apply Exists.intro
               intro w'
               go_simp
               try rfl)
      intro U Bs Ts w5 b5 hmade5 hdiff5
      have m5_1 := hmade5 1 (by simp)
      clear hmade5 hdiff5
      obtain ⟨hBl5_1, hBT5_1, hTu5_1, hp5_1⟩ := m5_1
      obtain ⟨hu5_1, ht5_1, hg5_1⟩ := hp5_1
      simp only [putMk, dstOf, List.getElem?_toArray, List.getElem?_cons_zero, List.getElem?_cons_succ, Option.bind_some, hu5_1]
      clear hu5_1
      clear U
      generalize Bs 1 = g5_1 at *
      generalize Ts 1 = t5_1 at *
      clear Bs Ts
      simp only [pickOps, List.filterMap_cons, List.filterMap_nil, List.getElem?_toArray, List.getElem?_cons_zero, List.getElem?_cons_succ]
      obtain ⟨J, hJ, hJ4, hcJ⟩ := ch_cell hg5_1 (x / 2 ^ k) (z / 2 ^ k)
      clear e3 e4
      rw [hJ.out]
      have hf := show fmtTo x z p (k + 1) = fmtTo x z p k ++ chStr (x / 2 ^ k % 2) (z / 2 ^ k % 2) from rfl
      have hsz := fmtTo_size x z p k
      have hs1 := chStr_size (x / 2 ^ k % 2) (z / 2 ^ k % 2)
      have hsz1 : ¬ (9223372036854775807 < (fmtTo x z p k).size + (chStr (x / 2 ^ k % 2) (z / 2 ^ k % 2)).size) := by omega
      clear hsz hs1
      have Hf := Lib.hid hf; clear hf
      generalize chStr (x / 2 ^ k % 2) (z / 2 ^ k % 2) = ch at *
      have hJ0 : (0 : Int) ≤ (J : Int) := Int.natCast_nonneg _
      have hJ1 : (J : Int) < 4 := by omega
      clear q0 q1 q2 q3 qf
      go_wp2_with fail
      go_roundw
      case rel => exact ⟨k + 1, by omega, by go_num, by rw [Hf.out], b2.trans (b5.mono b2.size)⟩
      case measure => simp [intOf]; omega
    · obtain rfl : N = k := by omega
      go_wp2_with fail
      go_ret
      exact ⟨rfl, ((Below.refl _ _).alloc (Nat.le_refl _) _).trans (b2.mono (by simp))⟩
theorem formatPauli_impl (n x z p : Int) (w : World) : Calls Try.prog 17 #[.agg #[.int .i64 n, .int .i64 x, .int .i64 z, .int .i64 p]] w fun e w' => e = .returned (.string (fmtP n x z p)) ∧ Below w.heap.size w w' := by
  cases hv : validB n x z p with
  | false =>
    have e : fmtP n x z p = ⟨#[]⟩ := by simp [fmtP, hv]
    rw [e]
    clear e
    go_enter Try.func17, Try.ntmps17
    go_wp2_with fail
    refine (isValidPauli_impl _ _ _ _ _).mono ?_
    rintro e w1 ⟨rfl, b1⟩
    obtain ⟨hc1, hf1⟩ := bcell b1
    have hz1 := b1.size
    try simp only [World.size_alloc, World.size_setCell, World.size_drew, World.heap_drewN] at hz1
    have hl1a : w.heap.size < w1.heap.size := by omega
    go_wp2_with fail
    go_ret
    refine ⟨rfl, ?_⟩
    repeat' (first | (with_reducible exact Below.refl _ _) | (with_reducible refine below_drewN ?_ _) | (with_reducible refine Below.drew ?_) | (with_reducible refine Below.alloc ?_ ?_ _) | (with_reducible refine Below.setCell ?_ ?_ _) | (with_reducible refine Below.trans ?_ (Below.mono (by with_reducible assumption) ?_)) | go_size | (with_reducible refine Nat.le_trans ?_ (Below.size (by with_reducible assumption))))
  | true =>
    have e : fmtP n x z p = fmtTo x z p n.toNat := by simp [fmtP, hv]
    rw [e]
    exact formatPauli_impl_ok n x z p w hv
end Go.Proofs.Ytpahkbajeniajaa
