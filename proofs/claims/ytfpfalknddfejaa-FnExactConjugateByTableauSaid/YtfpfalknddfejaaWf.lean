import Derived.Test.YtfpfalknddfejaaWe
namespace Go.Proofs.Ytfpfalknddfejaa
open Go.RowKit Pop
set_option maxRecDepth 100000
set_option linter.unusedVariables false
set_option linter.unusedSimpArgs false
theorem idRows_x (N k : Nat) (h : k < N) : idRows N (k + 1) = idRows N k ++ [((N : Int), pow2 (k : Int), 0, 0)] := by
  rw [idRows_succ, Int.emod_eq_of_lt (by omega) (by omega)]
  have : decide ((N : Int) ≤ (k : Int)) = false := by simp; omega
  rw [this]
  rfl
theorem idRows_z (N k : Nat) (h : k < N) : idRows N (N + (k + 1)) = idRows N (N + k) ++ [((N : Int), 0, pow2 (k : Int), 0)] := by
  rw [show N + (k + 1) = (N + k) + 1 by omega, idRows_succ]
  have e : ((N + k : Nat) : Int) % (N : Int) = (k : Int) := by
    rw [Int.natCast_add, Int.add_emod_left, Int.emod_eq_of_lt (by omega) (by omega)]
  have : decide ((N : Int) ≤ ((N + k : Nat) : Int)) = true := by simp; omega
  rw [e, this]
  rfl
set_option maxHeartbeats 2000000 in
theorem identityTableau_impl_ok (n : Int) (w : World) (h1 : 1 ≤ n) (h4 : n ≤ 4) :
    Calls Try.prog 100 #[.int .i64 n] w (RetT 28 n (idRows n (2 * n).toNat) w) := by
  have hin : inB n 1 4 = true := inB_true.2 ⟨h1, h4⟩
  obtain ⟨i0, hi0, hz0, hz1, hz2⟩ := info_parts info_pauli
  have Hi0 := Lib.hid hi0; clear hi0
  have Hz0 := Lib.hid hz0; clear hz0
  have Hz1 := Lib.hid hz1; clear hz1
  have Hz2 := Lib.hid hz2; clear hz2
  obtain ⟨N, rfl⟩ := Int.eq_ofNat_of_zero_le (show 0 ≤ n by omega)
  go_enter Try.func100, Try.ntmps100
  go_wp2_with (go_at_call 75; refine (in_any _ _ _ _).mono ?_; rintro e w' ⟨rfl, hw'⟩; rw [hw']; clear hw' w')
  go_loopw [4] (fun i wr => ∃ (k : Nat) (A : Option Addr) (c : Nat), k ≤ N ∧ i = .int .i64 k ∧ wr.heap[w.heap.size + 1]? = some (.cells #[.int .i64 (N : Int), .slice A (k) c] 33 (0, 0)) ∧ wr.heap[w.heap.size]? = some (.cells #[.int .i64 0, .slice none 0 0] 33 (0, 0)) ∧ OwnQ wr (w.heap.size + 2) 28 (.slice A (k) c) (idRows N (k)) ∧ Below w.heap.size w wr ∧ w.heap.size + 2 ≤ wr.heap.size) (fun i _ => N - (intOf i).toNat)
  case atStart =>
    refine ⟨0, none, 0, by omega, rfl, ?_, ?_, OwnQ.nil _ _ _, ?_, by simp⟩
    · have := heap_alloc_new (w.alloc (.cells #[.int .i64 0, .slice none 0 0] 33)) (.cells #[.int .i64 (N : Int), .slice none 0 0] 33)
      simpa using this
    · exact (Below.heap_alloc _ _ _ (by simp)).trans (heap_alloc_new w _)
    · repeat' (first | (with_reducible exact Below.refl _ _) | (with_reducible refine below_drewN ?_ _) | (with_reducible refine Below.drew ?_) | (with_reducible refine Below.alloc ?_ ?_ _) | (with_reducible refine Below.setCell ?_ ?_ _) | (with_reducible refine Below.trans ?_ (Below.mono (by with_reducible assumption) ?_)) | go_size | (with_reducible refine Nat.le_trans ?_ (Below.size (by with_reducible assumption))))
  case round =>
    obtain ⟨k, A, c, hk, rfl, hT, hR, hown, hbel, hsz⟩ := hrel
    obtain ⟨x0, x1, xf⟩ := blk2 hT
    obtain ⟨y0, y1, yf⟩ := blk2 hR
    have HT := Lib.hid hT; clear hT
    have HR := Lib.hid hR; clear hR
    have hs0 : w.heap.size < wr.heap.size := by omega
    have hs1 : w.heap.size + 1 < wr.heap.size := by omega
    by_cases hlt : k < N
    · have hk0 : (0 : Int) ≤ (k : Int) := Int.natCast_nonneg _
      have hk1 : (k : Int) < (N : Int) := by omega
      have hsh : IntKind.i64.wrap (2 ^ k) = pow2 (k : Int) := by
        have h4 : k = 0 ∨ k = 1 ∨ k = 2 ∨ k = 3 := by omega
        rcases h4 with rfl | rfl | rfl | rfl <;> rfl
      go_wp2_with fail
      apply wp_region_makes [0, 1, 2, 3, 4, 5] [6] [7, 8, 9] [] (fun j => BlkΨ (fun g => .slice (some ⟨g, 0, none⟩) 1 1) (.cells #[.int .i64 (N : Int), .int .i64 (pow2 (k : Int)), .int .i64 0, .int .i64 0] 28)) (by kernel_rfl) (by kernel_rfl) (fun _ _ d _ _ h => by cases d <;> exact h)
      case hst =>
        intro j b t u w w' h1 h2 h3
        exact h1.stable h2 h3
      case hq =>
        intro Φ hΦ hn
        simp only [pickOps, List.filterMap_cons, List.filterMap_nil, List.getElem?_toArray, List.getElem?_cons_zero, List.getElem?_cons_succ]
        repeat (first | go_big_quiet_step ((fail)) | quiet_step ((fail)))
        exact wpQuiet_nil rfl
      case hmk =>
        intro j hj o ho w' hb'
        simp only [List.mem_cons, List.not_mem_nil, or_false] at hj
        rcases hj with rfl
        · simp only [List.getElem?_toArray, List.getElem?_cons_zero, List.getElem?_cons_succ, Option.some.injEq] at ho
          subst ho
          exact MakesP.blk (by go_simp)
      case hlt => intro h hh; cases hh
      intro U Bs Ts w1 b1 hmade1 hdiff1
      have m1_6 := hmade1 6 (by simp)
      clear hmade1 hdiff1
      obtain ⟨hBl1_6, hBT1_6, hTu1_6, hp1_6⟩ := m1_6
      obtain ⟨hu1_6, ht1_6, hg1_6⟩ := hp1_6
      simp only [putMk, dstOf, List.getElem?_toArray, List.getElem?_cons_zero, List.getElem?_cons_succ, Option.bind_some, hu1_6]
      clear hu1_6
      clear U
      generalize Bs 6 = g1_6 at *
      generalize Ts 6 = t1_6 at *
      clear Bs Ts
      simp only [pickOps, List.filterMap_cons, List.filterMap_nil, List.getElem?_toArray, List.getElem?_cons_zero, List.getElem?_cons_succ]
      have lk := idRows_len N (k)
      have Lk := Lib.hid lk; clear lk
      refine wpList_appendQ rfl (.tmp 18) (.tmp 23) _ rfl 28 i0 Try.underlying31 Hi0.out Hz0.out Hz1.out Hz2.out (w.heap.size + 2) _ (idRows N (k)) _ _ _ _ rfl (hown.below b1) g1_6 rfl hg1_6 (by have := Lk.out; omega) (Nat.le_trans hsz b1.size) ?_
      intro A2 c2 w2 o2 b2
      rw [Lk.out] at o2 ⊢
      have hT2 := (b2.block (w.heap.size + 1) (by omega)).trans ((b1.block (w.heap.size + 1) (by omega)).trans HT.out)
      have hR2 := (b2.block w.heap.size (by omega)).trans ((b1.block w.heap.size (by omega)).trans HR.out)
      obtain ⟨z0, z1, zf⟩ := blk2 hT2
      have hs2 : w.heap.size + 1 < w2.heap.size := Nat.lt_of_lt_of_le hs1 (Nat.le_trans b1.size b2.size)
      go_wp2_with fail
      go_roundw
      case rel =>
        refine ⟨k + 1, A2, c2, by omega, by go_num, ?_, ?_, ?_, ?_, ?_⟩
        · have := heap_set_eq hT2 1 (.slice A2 (k + 1) c2)
          simpa using this
        · exact (Below.heap_setCell _ _ _ _ (by simp)).trans hR2
        · rw [idRows_x N k hlt]
          exact o2.setLow (by simp) _
        · repeat' (first | (with_reducible exact Below.refl _ _) | (with_reducible refine below_drewN ?_ _) | (with_reducible refine Below.drew ?_) | (with_reducible refine Below.alloc ?_ ?_ _) | (with_reducible refine Below.setCell ?_ ?_ _) | (with_reducible refine Below.trans ?_ (Below.mono (by with_reducible assumption) ?_)) | go_size | (with_reducible refine Nat.le_trans ?_ (Below.size (by with_reducible assumption))))
        · simp; omega
      case measure => simp [intOf]; omega
    · obtain rfl : N = k := by omega
      obtain ⟨wo, rfl⟩ : ∃ wo : World, wo = wr := ⟨_, rfl⟩
      go_wp2_with fail
      go_loopw [5] (fun i wr => ∃ (k : Nat) (A : Option Addr) (c : Nat), k ≤ N ∧ i = .int .i64 k ∧ wr.heap[w.heap.size + 1]? = some (.cells #[.int .i64 (N : Int), .slice A (N + k) c] 33 (0, 0)) ∧ wr.heap[w.heap.size]? = some (.cells #[.int .i64 0, .slice none 0 0] 33 (0, 0)) ∧ OwnQ wr (w.heap.size + 2) 28 (.slice A (N + k) c) (idRows N (N + k)) ∧ Below w.heap.size w wr ∧ w.heap.size + 2 ≤ wr.heap.size) (fun i _ => N - (intOf i).toNat)
      case atStart => exact ⟨0, A, c, by omega, rfl, by simpa using HT.out, HR.out, by simpa using hown, hbel, hsz⟩
      case round =>
        clear hown hbel hsz HT HR x0 x1 xf y0 y1 yf hs0 hs1 hk hlt
        obtain ⟨k, A, c, hk, rfl, hT, hR, hown, hbel, hsz⟩ := hrel
        obtain ⟨x0, x1, xf⟩ := blk2 hT
        obtain ⟨y0, y1, yf⟩ := blk2 hR
        have HT := Lib.hid hT; clear hT
        have HR := Lib.hid hR; clear hR
        have hs0 : w.heap.size < wr.heap.size := by omega
        have hs1 : w.heap.size + 1 < wr.heap.size := by omega
        by_cases hlt : k < N
        · have hk0 : (0 : Int) ≤ (k : Int) := Int.natCast_nonneg _
          have hk1 : (k : Int) < (N : Int) := by omega
          have hsh : IntKind.i64.wrap (2 ^ k) = pow2 (k : Int) := by
            have h4 : k = 0 ∨ k = 1 ∨ k = 2 ∨ k = 3 := by omega
            rcases h4 with rfl | rfl | rfl | rfl <;> rfl
          go_wp2_with fail
          apply wp_region_makes [0, 1, 2, 3, 4, 5] [6] [7, 8, 9] [] (fun j => BlkΨ (fun g => .slice (some ⟨g, 0, none⟩) 1 1) (.cells #[.int .i64 (N : Int), .int .i64 0, .int .i64 (pow2 (k : Int)), .int .i64 0] 28)) (by kernel_rfl) (by kernel_rfl) (fun _ _ d _ _ h => by cases d <;> exact h)
          case hst =>
            intro j b t u w w' h1 h2 h3
            exact h1.stable h2 h3
          case hq =>
            intro Φ hΦ hn
            simp only [pickOps, List.filterMap_cons, List.filterMap_nil, List.getElem?_toArray, List.getElem?_cons_zero, List.getElem?_cons_succ]
            repeat (first | go_big_quiet_step ((fail)) | quiet_step ((fail)))
            exact wpQuiet_nil rfl
          case hmk =>
            intro j hj o ho w' hb'
            simp only [List.mem_cons, List.not_mem_nil, or_false] at hj
            rcases hj with rfl
            · simp only [List.getElem?_toArray, List.getElem?_cons_zero, List.getElem?_cons_succ, Option.some.injEq] at ho
              subst ho
              exact MakesP.blk (by go_simp)
          case hlt => intro h hh; cases hh
          intro U Bs Ts w1 b1 hmade1 hdiff1
          have m1_6 := hmade1 6 (by simp)
          clear hmade1 hdiff1
          obtain ⟨hBl1_6, hBT1_6, hTu1_6, hp1_6⟩ := m1_6
          obtain ⟨hu1_6, ht1_6, hg1_6⟩ := hp1_6
          simp only [putMk, dstOf, List.getElem?_toArray, List.getElem?_cons_zero, List.getElem?_cons_succ, Option.bind_some, hu1_6]
          clear hu1_6
          clear U
          generalize Bs 6 = g1_6 at *
          generalize Ts 6 = t1_6 at *
          clear Bs Ts
          simp only [pickOps, List.filterMap_cons, List.filterMap_nil, List.getElem?_toArray, List.getElem?_cons_zero, List.getElem?_cons_succ]
          have lk := idRows_len N (N + k)
          have Lk := Lib.hid lk; clear lk
          refine wpList_appendQ rfl (.tmp 32) (.tmp 37) _ rfl 28 i0 Try.underlying31 Hi0.out Hz0.out Hz1.out Hz2.out (w.heap.size + 2) _ (idRows N (N + k)) _ _ _ _ rfl (hown.below b1) g1_6 rfl hg1_6 (by have := Lk.out; omega) (Nat.le_trans hsz b1.size) ?_
          intro A2 c2 w2 o2 b2
          rw [Lk.out, Nat.add_assoc] at o2 ⊢
          have hT2 := (b2.block (w.heap.size + 1) (by omega)).trans ((b1.block (w.heap.size + 1) (by omega)).trans HT.out)
          have hR2 := (b2.block w.heap.size (by omega)).trans ((b1.block w.heap.size (by omega)).trans HR.out)
          obtain ⟨z0, z1, zf⟩ := blk2 hT2
          have hs2 : w.heap.size + 1 < w2.heap.size := Nat.lt_of_lt_of_le hs1 (Nat.le_trans b1.size b2.size)
          go_wp2_with fail
          go_roundw
          case rel =>
            refine ⟨k + 1, A2, c2, by omega, by go_num, ?_, ?_, ?_, ?_, ?_⟩
            · have := heap_set_eq hT2 1 (.slice A2 (N + (k + 1)) c2)
              simpa using this
            · exact (Below.heap_setCell _ _ _ _ (by simp)).trans hR2
            · rw [idRows_z N k hlt]
              exact o2.setLow (by simp) _
            · repeat' (first | (with_reducible exact Below.refl _ _) | (with_reducible refine below_drewN ?_ _) | (with_reducible refine Below.drew ?_) | (with_reducible refine Below.alloc ?_ ?_ _) | (with_reducible refine Below.setCell ?_ ?_ _) | (with_reducible refine Below.trans ?_ (Below.mono (by with_reducible assumption) ?_)) | go_size | (with_reducible refine Nat.le_trans ?_ (Below.size (by with_reducible assumption))))
            · simp; omega
          case measure => simp [intOf]; omega
        · obtain rfl : N = k := by omega
          go_wp2_with fail
          refine bodyPost_ret (v := .agg #[.int .i64 (N : Int), .slice A (N + N) c]) (by simp [results, Try.results100, go_sem, *]) rfl ?_
          have e2 : (2 * (N : Int)).toNat = N + N := by omega
          rw [e2]
          refine ⟨A, c, by rw [idRows_len], ?_, ?_⟩
          · rw [idRows_len]
            exact ((hown.setLow (by simp) _).setLow (by simp) _).mono (by omega)
          · repeat' (first | (with_reducible exact Below.refl _ _) | (with_reducible refine below_drewN ?_ _) | (with_reducible refine Below.drew ?_) | (with_reducible refine Below.alloc ?_ ?_ _) | (with_reducible refine Below.setCell ?_ ?_ _) | (with_reducible refine Below.trans ?_ (Below.mono (by with_reducible assumption) ?_)) | go_size | (with_reducible refine Nat.le_trans ?_ (Below.size (by with_reducible assumption))))
end Go.Proofs.Ytfpfalknddfejaa
