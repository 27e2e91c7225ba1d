/- Contracts: IdentityTableau, l25Single, markTableau, heldTableau. -/
import Derived.Test.YtfpfalknddfejaaWd
import Derived.Test.YtfpfalknddfejaaAp
namespace Go.Proofs.Ytfpfalknddfejaa
open Go.RowKit Pop
set_option maxRecDepth 100000
set_option linter.unusedVariables false
set_option linter.unusedSimpArgs false

def sgl (n q : Int) (z : Bool) : Quad := if z then (n, 0, pow2 q, 0) else (n, pow2 q, 0, 0)
/-- The first k rows of the identity's tableau. -/
def idRows (n : Int) (k : Nat) : List Quad := (List.range k).map fun i : Nat => sgl n ((i : Int) % n) (decide (n ≤ (i : Int)))
theorem idRows_len (n : Int) (k : Nat) : (idRows n k).length = k := by simp [idRows]
theorem idRows_succ (n : Int) (k : Nat) : idRows n (k + 1) = idRows n k ++ [sgl n ((k : Int) % n) (decide (n ≤ (k : Int)))] := by simp [idRows, List.range_succ]
def idTab (n : Int) : Int × List Quad := if inB n 1 4 then (n, idRows n (2 * n).toNat) else (0, [])

theorem l25Single_any (n q : Int) (z : Bool) (w : World) (h0 : 0 ≤ q) (h3 : q ≤ 3) :
    Calls Try.prog 74 #[.int .i64 n, .int .i64 q, .bool z] w fun e w' => e = .returned (.agg #[.int .i64 (sgl n q z).1, .int .i64 (sgl n q z).2.1, .int .i64 (sgl n q z).2.2.1, .int .i64 (sgl n q z).2.2.2]) ∧ Below w.heap.size w w' := by
  have hq : q = 0 ∨ q = 1 ∨ q = 2 ∨ q = 3 := by omega
  rcases hq with rfl | rfl | rfl | rfl <;> cases z
  all_goals
    go_enter Try.func74, Try.ntmps74
    go_wp2
    refine bodyPost_ret (v := .agg #[.int .i64 (sgl n _ _).1, .int .i64 (sgl n _ _).2.1, .int .i64 (sgl n _ _).2.2.1, .int .i64 (sgl n _ _).2.2.2]) (by simp [results, Try.results74, go_sem, sgl, pow2]) rfl ⟨rfl, ?_⟩
    repeat' (first | (with_reducible exact Below.refl _ _) | (with_reducible refine below_drewN ?_ _) | (with_reducible refine Below.drew ?_) | (with_reducible refine Below.alloc ?_ ?_ _) | (with_reducible refine Below.setCell ?_ ?_ _) | (with_reducible refine Below.trans ?_ (Below.mono (by with_reducible assumption) ?_)) | go_size | (with_reducible refine Nat.le_trans ?_ (Below.size (by with_reducible assumption))))
theorem markTableau_but (N : Int) (A : Option Addr) (n c base : Nat) (k : Int) (l : List Quad) (w : World) (ho : OwnQ w base 28 (.slice A n c) l) (hb : base ≤ w.heap.size) (hk : 0 ≤ k) (hkn : k + 4 * n ≤ 1000000000000) :
    Calls Try.prog 36 #[.agg #[.int .i64 N, .slice A n c], .int .i64 k] w fun e w' => e = .returned (.int .i64 (k + 4 * n)) ∧ OwnQ w' base 28 (.slice A n c) (marks k n) ∧ Below base w w' ∧ But A w w' := by
  go_enter Try.func36, Try.ntmps36
  go_wp2_with fail
  refine (markPauliS_but A n c base k l _ (ho.below ((Below.refl _ _).alloc (Nat.le_refl _) _)) hk hkn).mono ?_
  rintro e w1 ⟨rfl, o1, b1, u1⟩
  go_wp2_with fail
  go_ret
  exact ⟨rfl, o1, ((Below.refl _ _).alloc hb _).trans b1, fun k hk hne => (u1 k (by simp; omega) hne).trans (heap_alloc_old _ _ hk)⟩
theorem heldTableau_any (N : Int) (A : Option Addr) (n c : Nat) (k : Int) (w : World) (ha : SlQ w A n (marks k n)) (hk : 0 ≤ k) (hkn : k + 4 * n ≤ 1000000000000) :
    Calls Try.prog 37 #[.agg #[.int .i64 N, .slice A n c], .int .i64 k] w fun e w' => e = .returned (.int .i64 (k + 4 * n)) ∧ Below w.heap.size w w' := by
  go_enter Try.func37, Try.ntmps37
  go_wp2_with fail
  refine (heldPauliS_any A n c k _ (ha.alloc _) hk hkn).mono ?_
  rintro e w' ⟨rfl, hw'⟩
  rw [hw']
  clear hw' w'
  go_wp2_with fail
  go_ret
  refine ⟨rfl, ?_⟩
  repeat' (first | (with_reducible exact Below.refl _ _) | (with_reducible refine below_drewN ?_ _) | (with_reducible refine Below.drew ?_) | (with_reducible refine Below.alloc ?_ ?_ _) | (with_reducible refine Below.setCell ?_ ?_ _) | (with_reducible refine Below.trans ?_ (Below.mono (by with_reducible assumption) ?_)) | go_size | (with_reducible refine Nat.le_trans ?_ (Below.size (by with_reducible assumption))))
set_option maxHeartbeats 1000000 in
theorem identityTableau_spec_ok (n : Int) (w : World) (h1 : 1 ≤ n) (h4 : n ≤ 4) :
    Calls Try.prog 107 #[.int .i64 n] w (RetT 28 n (idRows n (2 * n).toNat) w) := by
  have hin : inB n 1 4 = true := inB_true.2 ⟨h1, h4⟩
  obtain ⟨i0, hi0, hz0, hz1, hz2⟩ := info_parts info_pauli
  have Hi0 := Lib.hid hi0; clear hi0
  have Hz0 := Lib.hid hz0; clear hz0
  have Hz1 := Lib.hid hz1; clear hz1
  have Hz2 := Lib.hid hz2; clear hz2
  obtain ⟨N, rfl⟩ := Int.eq_ofNat_of_zero_le (show 0 ≤ n by omega)
  go_enter Try.func107, Try.ntmps107
  go_wp2_with (go_at_call 73; refine (l1In_any _ _ _ _).mono ?_; rintro e w' ⟨rfl, hw'⟩; rw [hw']; clear hw' w')
  go_loopw [4] (fun i wr => ∃ (k : Nat) (A : Option Addr) (c : Nat), k ≤ 2 * N ∧ i = .int .i64 k ∧ wr.heap[w.heap.size + 1]? = some (.cells #[.int .i64 (N : Int), .slice A k c] 33 (0, 0)) ∧ wr.heap[w.heap.size]? = some (.cells #[.int .i64 0, .slice none 0 0] 33 (0, 0)) ∧ OwnQ wr (w.heap.size + 2) 28 (.slice A k c) (idRows N k) ∧ Below w.heap.size w wr ∧ w.heap.size + 2 ≤ wr.heap.size) (fun i _ => 2 * N - (intOf i).toNat)
  case atStart =>
    refine ⟨0, none, 0, by omega, rfl, ?_, ?_, OwnQ.nil _ _ _, ?_, by simp⟩
    · have := heap_alloc_new (w.alloc (.cells #[.int .i64 0, .slice none 0 0] 33)) (.cells #[.int .i64 (N : Int), .slice none 0 0] 33)
      simpa using this
    · exact (Below.heap_alloc _ _ _ (by simp)).trans (heap_alloc_new w _)
    · repeat' (first | (with_reducible exact Below.refl _ _) | (with_reducible refine below_drewN ?_ _) | (with_reducible refine Below.drew ?_) | (with_reducible refine Below.alloc ?_ ?_ _) | (with_reducible refine Below.setCell ?_ ?_ _) | (with_reducible refine Below.trans ?_ (Below.mono (by with_reducible assumption) ?_)) | go_size | (with_reducible refine Nat.le_trans ?_ (Below.size (by with_reducible assumption))))
  case round =>
    obtain ⟨k, A, c, hk, rfl, hT, hR, hown, hbel, hsz⟩ := hrel
    obtain ⟨x0, x1, xf⟩ := blk2 hT
    obtain ⟨y0, y1, yf⟩ := blk2 hR
    have HT := Lib.hid hT; clear hT
    have HR := Lib.hid hR; clear hR
    have hs0 : w.heap.size < wr.heap.size := by omega
    have hs1 : w.heap.size + 1 < wr.heap.size := by omega
    by_cases hlt : k < 2 * N
    · have hk0 : (0 : Int) ≤ (k : Int) := Int.natCast_nonneg _
      have hk1 : (k : Int) < 2 * (N : Int) := by omega
      have q0 : 0 ≤ (k : Int) % (N : Int) := Int.emod_nonneg _ (by omega)
      have q3 : (k : Int) % (N : Int) ≤ 3 := by have := Int.emod_lt_of_pos (k : Int) (show 0 < (N : Int) by omega); omega
      have hN0 : ¬ ((N : Int) = 0) := by omega
      have hN1 : ¬ (N = 0) := by omega
      have hN2 : ((N : Int) == 0) = false := by simp; omega
      have em : (k : Int).tmod (N : Int) = (k : Int) % (N : Int) := Int.tmod_eq_emod_of_nonneg hk0
      go_wp2_with fail
      apply wp_region_makes [0, 1, 2, 3, 4, 5, 6, 7, 8, 9] [10] [11, 12, 13] [] (fun j => BlkΨ (fun g => .slice (some ⟨g, 0, none⟩) 1 1) (.cells #[.int .i64 (sgl N ((k : Int) % (N : Int)) (decide ((N : Int) ≤ (k : Int)))).1, .int .i64 (sgl N ((k : Int) % (N : Int)) (decide ((N : Int) ≤ (k : Int)))).2.1, .int .i64 (sgl N ((k : Int) % (N : Int)) (decide ((N : Int) ≤ (k : Int)))).2.2.1, .int .i64 (sgl N ((k : Int) % (N : Int)) (decide ((N : Int) ≤ (k : Int)))).2.2.2] 28)) (by kernel_rfl) (by kernel_rfl) (fun _ _ d _ _ h => by cases d <;> exact h)
      case hst =>
        intro j b t u w w' h1 h2 h3
        exact h1.stable h2 h3
      case hq =>
        intro Φ hΦ hn
        simp only [pickOps, List.filterMap_cons, List.filterMap_nil, List.getElem?_toArray, List.getElem?_cons_zero, List.getElem?_cons_succ]
        repeat (first | go_big_quiet_step ((go_at_call 74; exact laterF_of hΦ (l25Single_any _ _ _ _ q0 q3))) | quiet_step ((go_at_call 74; exact laterF_of hΦ (l25Single_any _ _ _ _ q0 q3))))
        exact wpQuiet_nil rfl
      case hmk =>
        intro j hj o ho w' hb'
        simp only [List.mem_cons, List.not_mem_nil, or_false] at hj
        rcases hj with rfl
        · simp only [List.getElem?_toArray, List.getElem?_cons_zero, List.getElem?_cons_succ, Option.some.injEq] at ho
          subst ho
          exact MakesP.blk (by go_simp)
      case hlt => intro h hh; cases hh
      intro U Bs Ts w1 b1 hmade1 hdiff1
      have m1_10 := hmade1 10 (by simp)
      clear hmade1 hdiff1
      obtain ⟨hBl1_10, hBT1_10, hTu1_10, hp1_10⟩ := m1_10
      obtain ⟨hu1_10, ht1_10, hg1_10⟩ := hp1_10
      simp only [putMk, dstOf, List.getElem?_toArray, List.getElem?_cons_zero, List.getElem?_cons_succ, Option.bind_some, hu1_10]
      clear hu1_10
      clear U
      generalize Bs 10 = g1_10 at *
      generalize Ts 10 = t1_10 at *
      clear Bs Ts
      simp only [pickOps, List.filterMap_cons, List.filterMap_nil, List.getElem?_toArray, List.getElem?_cons_zero, List.getElem?_cons_succ]
      have lk := idRows_len N k
      have Lk := Lib.hid lk; clear lk
      refine wpList_appendQ rfl (.tmp 18) (.tmp 27) _ rfl 28 i0 Try.underlying31 Hi0.out Hz0.out Hz1.out Hz2.out (w.heap.size + 2) _ (idRows N k) _ _ _ _ rfl (hown.below b1) g1_10 rfl hg1_10 (by have := Lk.out; omega) (Nat.le_trans hsz b1.size) ?_
      intro A2 c2 w2 o2 b2
      rw [Lk.out] at o2 ⊢
      have hT2 := (b2.block (w.heap.size + 1) (by omega)).trans ((b1.block (w.heap.size + 1) (by omega)).trans HT.out)
      have hR2 := (b2.block w.heap.size (by omega)).trans ((b1.block w.heap.size (by omega)).trans HR.out)
      obtain ⟨z0, z1, zf⟩ := blk2 hT2
      have hs2 : w.heap.size + 1 < w2.heap.size := Nat.lt_of_lt_of_le hs1 (Nat.le_trans b1.size b2.size)
      go_wp2_with fail
      go_roundw
      case rel =>
        refine ⟨k + 1, A2, c2, by omega, by go_num, ?_, ?_, ?_, ?_, ?_⟩
        · have := heap_set_eq hT2 1 (.slice A2 (k + 1) c2)
          simpa using this
        · exact (Below.heap_setCell _ _ _ _ (by simp)).trans hR2
        · rw [idRows_succ]
          exact o2.setLow (by simp) _
        · repeat' (first | (with_reducible exact Below.refl _ _) | (with_reducible refine below_drewN ?_ _) | (with_reducible refine Below.drew ?_) | (with_reducible refine Below.alloc ?_ ?_ _) | (with_reducible refine Below.setCell ?_ ?_ _) | (with_reducible refine Below.trans ?_ (Below.mono (by with_reducible assumption) ?_)) | go_size | (with_reducible refine Nat.le_trans ?_ (Below.size (by with_reducible assumption))))
        · simp; omega
      case measure => simp [intOf]; omega
    · obtain rfl : k = 2 * N := by omega
      go_wp2_with fail
      refine bodyPost_ret (v := .agg #[.int .i64 (N : Int), .slice A (2 * N) c]) (by simp [results, Try.results107, go_sem, *]) rfl ?_
      have e2 : (2 * (N : Int)).toNat = 2 * N := by omega
      rw [e2]
      refine ⟨A, c, by rw [idRows_len], ?_, ?_⟩
      · rw [idRows_len]
        exact ((hown.setLow (by simp) _).setLow (by simp) _).mono (by omega)
      · repeat' (first | (with_reducible exact Below.refl _ _) | (with_reducible refine below_drewN ?_ _) | (with_reducible refine Below.drew ?_) | (with_reducible refine Below.alloc ?_ ?_ _) | (with_reducible refine Below.setCell ?_ ?_ _) | (with_reducible refine Below.trans ?_ (Below.mono (by with_reducible assumption) ?_)) | go_size | (with_reducible refine Nat.le_trans ?_ (Below.size (by with_reducible assumption))))
end Go.Proofs.Ytfpfalknddfejaa
