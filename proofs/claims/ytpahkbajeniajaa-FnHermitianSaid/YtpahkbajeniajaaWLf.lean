/- The walks of the laws FnCommute and FnHermitian. -/
import Derived.Test.YtpahkbajeniajaaDt
import Derived.Test.YtpahkbajeniajaaWq
namespace Go.Proofs.Ytpahkbajeniajaa
open Go.RowKit Pop
set_option maxRecDepth 100000
set_option linter.unusedVariables false
set_option linter.unusedSimpArgs false
theorem xorI_comm (a b : Int) : xorI a b = xorI b a := by
  unfold xorI
  show IntKind.i64.wrap ((BitVec.ofInt 64 a ^^^ BitVec.ofInt 64 b).toNat : Int) = IntKind.i64.wrap ((BitVec.ofInt 64 b ^^^ BitVec.ofInt 64 a).toNat : Int)
  rw [BitVec.xor_comm]
theorem xorI_self (a : Int) : xorI a a = 0 := by
  unfold xorI
  show IntKind.i64.wrap ((BitVec.ofInt 64 a ^^^ BitVec.ofInt 64 a).toNat : Int) = _
  rw [BitVec.xor_self]; rfl
theorem big_no (A : Option Addr) (n c : Nat) (w : World) (hn : n ≤ 1048576) : Calls Try.prog 18 #[.slice A n c] w fun e w' => e = .returned (.bool false) ∧ w' = w := by
  have h : (n : Int) ≤ 1048576 := by omega
  go_enter Try.func18, Try.ntmps18
  go_wp2_with fail
  go_ret
  exact ⟨ret_bool (by first | (simp; done) | (simp; omega)), rfl⟩
theorem big_yes (A : Option Addr) (n c : Nat) (w : World) (hn : 1048576 < n) : Calls Try.prog 18 #[.slice A n c] w fun e w' => e = .returned (.bool true) ∧ w' = w := by
  have h : (1048576 : Int) < n := by omega
  go_enter Try.func18, Try.ntmps18
  go_wp2_with fail
  go_ret
  exact ⟨ret_bool (by first | (simp; done) | (simp; omega)), rfl⟩
theorem commB_symm (x1 z1 x2 z2 : Int) : commB x2 z2 x1 z1 = commB x1 z1 x2 z2 := by
  unfold commB; rw [andPop_comm x2 z1, andPop_comm z2 x1, Int.add_comm]
set_option maxHeartbeats 2000000 in
theorem law_commute (A : Option Addr) (n c : Nat) (zs : List Int) (w : World) (hq : IsBytes w A n c zs) : Calls Try.prog 4 #[.slice A n c] w fun e w' => e = .returned (.bool true) ∧ Below w.heap.size w w' := by
  by_cases hn : n ≤ 1048576
  · go_enter Try.func4, Try.ntmps4
    go_wp2_with fail
    refine (big_no _ _ _ _ hn).mono ?_
    rintro e w' ⟨rfl, hw'⟩
    rw [hw']
    clear hw' w'
    go_wp2_with fail
    refine (drawPaulisCommute_any A n c zs _ (bytes_of hq) hn).mono ?_
    rintro e w1 ⟨m, x1, z1, p1, x2, z2, p2, rfl, v1, v2, b1⟩
    have V1 := Lib.hid v1; clear v1
    have V2 := Lib.hid v2; clear v2
    have hz1 := b1.size
    go_wp2_with fail
    refine (paulisCommute_impl _ _ _ _ _ _ _ _ _).mono ?_
    rintro e w2 ⟨rfl, b2⟩
    have hz2 := b2.size
    simp only [World.size_alloc] at hz2
    have hLa2 : w1.heap.size < w2.heap.size := by omega
    have La2 := Lib.hid ((b2.block (w1.heap.size) (by first | omega | (simp only [World.size_alloc]; done) | (simp only [World.size_alloc]; omega))).trans (by repeat' (first | (with_reducible exact (trivial).out) | ((with_reducible refine heap_alloc_at ?_); focus (first | (with_reducible rfl) | (simp only [World.size_alloc]; done))) | ((with_reducible apply heap_alloc_before); focus (first | omega | (simp only [World.size_alloc]; done) | (simp only [World.size_alloc]; omega))))))
    have hLb2 : w1.heap.size + 1 < w2.heap.size := by omega
    have Lb2 := Lib.hid ((b2.block (w1.heap.size + 1) (by first | omega | (simp only [World.size_alloc]; done) | (simp only [World.size_alloc]; omega))).trans (by repeat' (first | (with_reducible exact (trivial).out) | ((with_reducible refine heap_alloc_at ?_); focus (first | (with_reducible rfl) | (simp only [World.size_alloc]; done))) | ((with_reducible apply heap_alloc_before); focus (first | omega | (simp only [World.size_alloc]; done) | (simp only [World.size_alloc]; omega))))))
    obtain ⟨q0, q1, q2, q3, qf⟩ := blk4 La2.out
    obtain ⟨r0, r1, r2, r3, rf⟩ := blk4 Lb2.out
    go_wp2_with fail
    refine (mulPauli_impl_ok _ _ _ _ _ _ _ _ V1.out V2.out).mono ?_
    rintro e w3 ⟨rfl, b3⟩
    clear q0 q1 q2 q3 qf r0 r1 r2 r3 rf
    have hz3 := b3.size
    have hLa3 : w1.heap.size < w3.heap.size := by omega
    have La3 := Lib.hid ((b3.block (w1.heap.size) (by first | omega | (simp only [World.size_alloc]; done) | (simp only [World.size_alloc]; omega))).trans (by repeat' (first | (with_reducible exact (La2).out) | ((with_reducible refine heap_alloc_at ?_); focus (first | (with_reducible rfl) | (simp only [World.size_alloc]; done))) | ((with_reducible apply heap_alloc_before); focus (first | omega | (simp only [World.size_alloc]; done) | (simp only [World.size_alloc]; omega))))))
    have hLb3 : w1.heap.size + 1 < w3.heap.size := by omega
    have Lb3 := Lib.hid ((b3.block (w1.heap.size + 1) (by first | omega | (simp only [World.size_alloc]; done) | (simp only [World.size_alloc]; omega))).trans (by repeat' (first | (with_reducible exact (Lb2).out) | ((with_reducible refine heap_alloc_at ?_); focus (first | (with_reducible rfl) | (simp only [World.size_alloc]; done))) | ((with_reducible apply heap_alloc_before); focus (first | omega | (simp only [World.size_alloc]; done) | (simp only [World.size_alloc]; omega))))))
    obtain ⟨q0, q1, q2, q3, qf⟩ := blk4 La3.out
    obtain ⟨r0, r1, r2, r3, rf⟩ := blk4 Lb3.out
    go_wp2_with fail
    refine (mulPauli_impl_ok _ _ _ _ _ _ _ _ V2.out V1.out).mono ?_
    rintro e w4 ⟨rfl, b4⟩
    clear q0 q1 q2 q3 qf r0 r1 r2 r3 rf
    have hz4 := b4.size
    simp only [World.size_alloc] at hz4
    have hLa4 : w1.heap.size < w4.heap.size := by omega
    have La4 := Lib.hid ((b4.block (w1.heap.size) (by first | omega | (simp only [World.size_alloc]; done) | (simp only [World.size_alloc]; omega))).trans (by repeat' (first | (with_reducible exact (La3).out) | ((with_reducible refine heap_alloc_at ?_); focus (first | (with_reducible rfl) | (simp only [World.size_alloc]; done))) | ((with_reducible apply heap_alloc_before); focus (first | omega | (simp only [World.size_alloc]; done) | (simp only [World.size_alloc]; omega))))))
    have hLb4 : w1.heap.size + 1 < w4.heap.size := by omega
    have Lb4 := Lib.hid ((b4.block (w1.heap.size + 1) (by first | omega | (simp only [World.size_alloc]; done) | (simp only [World.size_alloc]; omega))).trans (by repeat' (first | (with_reducible exact (Lb3).out) | ((with_reducible refine heap_alloc_at ?_); focus (first | (with_reducible rfl) | (simp only [World.size_alloc]; done))) | ((with_reducible apply heap_alloc_before); focus (first | omega | (simp only [World.size_alloc]; done) | (simp only [World.size_alloc]; omega))))))
    have hLc4 : w3.heap.size < w4.heap.size := by omega
    have Lc4 := Lib.hid ((b4.block (w3.heap.size) (by first | omega | (simp only [World.size_alloc]; done) | (simp only [World.size_alloc]; omega))).trans (by repeat' (first | (with_reducible exact (trivial).out) | ((with_reducible refine heap_alloc_at ?_); focus (first | (with_reducible rfl) | (simp only [World.size_alloc]; done))) | ((with_reducible apply heap_alloc_before); focus (first | omega | (simp only [World.size_alloc]; done) | (simp only [World.size_alloc]; omega))))))
    obtain ⟨q0, q1, q2, q3, qf⟩ := blk4 La4.out
    obtain ⟨r0, r1, r2, r3, rf⟩ := blk4 Lb4.out
    go_wp2_with fail
    refine (paulisCommute_spec _ _ _ _ _ _ _ _ _).mono ?_
    rintro e w5 ⟨rfl, b5⟩
    clear q0 q1 q2 q3 qf r0 r1 r2 r3 rf
    have hz5 := b5.size
    simp only [World.size_alloc] at hz5
    have hLa5 : w1.heap.size < w5.heap.size := by omega
    have La5 := Lib.hid ((b5.block (w1.heap.size) (by first | omega | (simp only [World.size_alloc]; done) | (simp only [World.size_alloc]; omega))).trans (by repeat' (first | (with_reducible exact (La4).out) | ((with_reducible refine heap_alloc_at ?_); focus (first | (with_reducible rfl) | (simp only [World.size_alloc]; done))) | ((with_reducible apply heap_alloc_before); focus (first | omega | (simp only [World.size_alloc]; done) | (simp only [World.size_alloc]; omega))))))
    have hLb5 : w1.heap.size + 1 < w5.heap.size := by omega
    have Lb5 := Lib.hid ((b5.block (w1.heap.size + 1) (by first | omega | (simp only [World.size_alloc]; done) | (simp only [World.size_alloc]; omega))).trans (by repeat' (first | (with_reducible exact (Lb4).out) | ((with_reducible refine heap_alloc_at ?_); focus (first | (with_reducible rfl) | (simp only [World.size_alloc]; done))) | ((with_reducible apply heap_alloc_before); focus (first | omega | (simp only [World.size_alloc]; done) | (simp only [World.size_alloc]; omega))))))
    have hLc5 : w3.heap.size < w5.heap.size := by omega
    have Lc5 := Lib.hid ((b5.block (w3.heap.size) (by first | omega | (simp only [World.size_alloc]; done) | (simp only [World.size_alloc]; omega))).trans (by repeat' (first | (with_reducible exact (Lc4).out) | ((with_reducible refine heap_alloc_at ?_); focus (first | (with_reducible rfl) | (simp only [World.size_alloc]; done))) | ((with_reducible apply heap_alloc_before); focus (first | omega | (simp only [World.size_alloc]; done) | (simp only [World.size_alloc]; omega))))))
    have hLd5 : w4.heap.size < w5.heap.size := by omega
    have Ld5 := Lib.hid ((b5.block (w4.heap.size) (by first | omega | (simp only [World.size_alloc]; done) | (simp only [World.size_alloc]; omega))).trans (by repeat' (first | (with_reducible exact (trivial).out) | ((with_reducible refine heap_alloc_at ?_); focus (first | (with_reducible rfl) | (simp only [World.size_alloc]; done))) | ((with_reducible apply heap_alloc_before); focus (first | omega | (simp only [World.size_alloc]; done) | (simp only [World.size_alloc]; omega))))))
    obtain ⟨q0, q1, q2, q3, qf⟩ := blk4 La5.out
    obtain ⟨r0, r1, r2, r3, rf⟩ := blk4 Lb5.out
    go_wp2_with fail
    refine (paulisCommute_impl _ _ _ _ _ _ _ _ _).mono ?_
    rintro e w6 ⟨rfl, b6⟩
    rw [commB_symm x1 z1 x2 z2]
    clear q0 q1 q2 q3 qf r0 r1 r2 r3 rf
    have hz6 := b6.size
    have hLc6 : w3.heap.size < w6.heap.size := by omega
    have Lc6 := Lib.hid ((b6.block (w3.heap.size) (by first | omega | (simp only [World.size_alloc]; done) | (simp only [World.size_alloc]; omega))).trans (by repeat' (first | (with_reducible exact (Lc5).out) | ((with_reducible refine heap_alloc_at ?_); focus (first | (with_reducible rfl) | (simp only [World.size_alloc]; done))) | ((with_reducible apply heap_alloc_before); focus (first | omega | (simp only [World.size_alloc]; done) | (simp only [World.size_alloc]; omega))))))
    have hLd6 : w4.heap.size < w6.heap.size := by omega
    have Ld6 := Lib.hid ((b6.block (w4.heap.size) (by first | omega | (simp only [World.size_alloc]; done) | (simp only [World.size_alloc]; omega))).trans (by repeat' (first | (with_reducible exact (Ld5).out) | ((with_reducible refine heap_alloc_at ?_); focus (first | (with_reducible rfl) | (simp only [World.size_alloc]; done))) | ((with_reducible apply heap_alloc_before); focus (first | omega | (simp only [World.size_alloc]; done) | (simp only [World.size_alloc]; omega))))))
    obtain ⟨q0, q1, q2, q3, qf⟩ := blk4 Lc6.out
    obtain ⟨r0, r1, r2, r3, rf⟩ := blk4 Ld6.out
    rw [xorI_comm x2 x1] at r1
    rw [xorI_comm z2 z1] at r2
    have hm1 : 0 ≤ mulPh p1 p2 z1 x2 ∧ mulPh p1 p2 z1 x2 < 4 := by unfold mulPh; omega
    have hbel : Below w.heap.size w w6 := by
      repeat' (first | (with_reducible exact Below.refl _ _) | (with_reducible refine below_drewN ?_ _) | (with_reducible refine Below.drew ?_) | (with_reducible refine Below.alloc ?_ ?_ _) | (with_reducible refine Below.setCell ?_ ?_ _) | (with_reducible refine Below.trans ?_ (Below.mono (by with_reducible assumption) ?_)) | go_size | (with_reducible refine Nat.le_trans ?_ (Below.size (by with_reducible assumption))))
    clear b1 b2 b3 b4 b5 b6 La2 La3 La4 La5 Lb2 Lb3 Lb4 Lb5 Lc4 Lc5 Ld5 Lc6 Ld6
    cases hcm : commB x1 z1 x2 z2 with
    | true =>
      have hp : mulPh p2 p1 z2 x1 = mulPh p1 p2 z1 x2 := by
        unfold mulPh; rw [andPop_comm z2 x1]
        simp only [commB, beq_iff_eq] at hcm
        omega
      rw [hp] at r3
      clear hp
      go_wp2_with fail
      go_ret
      exact ⟨rfl, hbel⟩
    | false =>
      have hp : mulPh p2 p1 z2 x1 = (mulPh p1 p2 z1 x2 + 2) % 4 := by
        unfold mulPh; rw [andPop_comm z2 x1]
        simp only [commB, beq_eq_false_iff_ne, ne_eq] at hcm
        omega
      rw [hp] at r3
      clear hp
      have hne : (mulPh p1 p2 z1 x2 == (mulPh p1 p2 z1 x2 + 2) % 4) = false := by simp; omega
      go_wp2_with fail
      go_ret
      exact ⟨rfl, hbel⟩
  · go_enter Try.func4, Try.ntmps4
    go_wp2_with fail
    refine (big_yes _ _ _ _ (by omega)).mono ?_
    rintro e w' ⟨rfl, hw'⟩
    rw [hw']
    clear hw' w'
    go_wp2_with fail
    go_ret
    exact ⟨rfl, Below.refl _ _⟩
end Go.Proofs.Ytpahkbajeniajaa
