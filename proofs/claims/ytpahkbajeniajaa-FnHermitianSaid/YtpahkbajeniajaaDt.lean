/- DrawPaulisCommute. -/
import Derived.Test.YtpahkbajeniajaaDs
namespace Go.Proofs.Ytpahkbajeniajaa
open Go.RowKit Pop
set_option maxRecDepth 100000
set_option linter.unusedVariables false
set_option linter.unusedSimpArgs false
theorem stored4o {w1 : World} {g : Nat} {t : TypeId} {c0 c1 c2 c3 : Value} (h : w1.heap[g]? = some (.cells #[c0, c1, c2, c3] t (0, 0))) (v0 v1 v2 v3 : Value) :
    ∃ w2, w2 = (((w1.setCell ⟨g, 0, none⟩ v0).setCell ⟨g, 1, none⟩ v1).setCell ⟨g, 2, none⟩ v2).setCell ⟨g, 3, none⟩ v3 ∧ w2.heap[g]? = some (.cells #[v0, v1, v2, v3] t (0, 0)) ∧ w2.heap.size = w1.heap.size ∧
      (∀ k, k ≠ g → w2.heap[k]? = w1.heap[k]?) ∧ ∀ B w0, Below B w0 w1 → B ≤ g → Below B w0 w2 := by
  obtain ⟨w2, hw, h1, h2, h3⟩ := stored4 h v0 v1 v2 v3
  refine ⟨w2, hw, h1, h2, fun k hk => ?_, h3⟩
  subst hw
  exact (Below.heap_setCell _ _ _ _ hk).trans ((Below.heap_setCell _ _ _ _ hk).trans ((Below.heap_setCell _ _ _ _ hk).trans (Below.heap_setCell _ _ _ _ hk)))
set_option maxHeartbeats 1000000 in
theorem drawPaulisCommute_any (A : Option Addr) (n c : Nat) (zs : List Int) (w : World) (hz : BytesBelow w w.heap.size A n zs) (hn : n ≤ 1048576) : Calls Try.prog 19 #[.slice A n c] w
    fun e w' => ∃ n x1 z1 p1 x2 z2 p2 : Int, e = .returned (.tuple #[.agg #[.int .i64 n, .int .i64 x1, .int .i64 z1, .int .i64 p1], .agg #[.int .i64 n, .int .i64 x2, .int .i64 z2, .int .i64 p2]]) ∧ validB n x1 z1 p1 = true ∧ validB n x2 z2 p2 = true ∧ Below w.heap.size w w' := by
  go_enter Try.func19, Try.ntmps19
  go_wp2_with fail
  have La0 := Lib.hid ((Below.heap_alloc (w.alloc (.cells #[.int .i64 0, .int .i64 0, .int .i64 0, .int .i64 0] 25)) (.cells #[.int .i64 0, .int .i64 0, .int .i64 0, .int .i64 0] 25) w.heap.size (by simp)).trans (heap_alloc_new w _))
  have Lb0 := Lib.hid (heap_alloc_new (w.alloc (.cells #[.int .i64 0, .int .i64 0, .int .i64 0, .int .i64 0] 25)) (.cells #[.int .i64 0, .int .i64 0, .int .i64 0, .int .i64 0] 25))
  rw [World.size_alloc] at Lb0
  refine (l1New_any A n c w.heap.size zs _ (hz.keep fun k hk => (Below.heap_alloc _ _ _ (by simp; omega)).trans (Below.heap_alloc _ _ _ hk)) (by simp; omega) hn).mono ?_
  rintro e w1 ⟨g, rfl, hg, cu1, b1⟩
  have hz1 := b1.size
  simp only [World.size_alloc] at hz1 hg
  have La1 := Lib.hid ((b1.block (w.heap.size) (by first | omega | (simp only [World.size_alloc]; done) | (simp only [World.size_alloc]; omega))).trans (by repeat' (first | (with_reducible exact (La0).out) | ((with_reducible refine heap_alloc_at ?_); focus (first | (with_reducible rfl) | (simp only [World.size_alloc]; done))) | ((with_reducible apply heap_alloc_before); focus (first | omega | (simp only [World.size_alloc]; done) | (simp only [World.size_alloc]; omega))))))
  have Lb1 := Lib.hid ((b1.block (w.heap.size + 1) (by first | omega | (simp only [World.size_alloc]; done) | (simp only [World.size_alloc]; omega))).trans (by repeat' (first | (with_reducible exact (Lb0).out) | ((with_reducible refine heap_alloc_at ?_); focus (first | (with_reducible rfl) | (simp only [World.size_alloc]; done))) | ((with_reducible apply heap_alloc_before); focus (first | omega | (simp only [World.size_alloc]; done) | (simp only [World.size_alloc]; omega))))))
  go_wp2_with fail
  refine (l1Below_any g _ _ cu1 (by omega) (by omega)).mono ?_
  rintro e w2 ⟨x2, rfl, hx2a, hx2b, hd2⟩
  have hz2 := hd2.size
  have cu2 := hd2.cur
  have La2 := Lib.hid ((hd2.2.block (w.heap.size) (by first | omega | (simp only [World.size_alloc]; done) | (simp only [World.size_alloc]; omega)) (by simp; omega)).trans (by repeat' (first | (with_reducible exact (La1).out) | ((with_reducible refine heap_alloc_at ?_); focus (first | (with_reducible rfl) | (simp only [World.size_alloc]; done))) | ((with_reducible apply heap_alloc_before); focus (first | omega | (simp only [World.size_alloc]; done) | (simp only [World.size_alloc]; omega))))))
  have Lb2 := Lib.hid ((hd2.2.block (w.heap.size + 1) (by first | omega | (simp only [World.size_alloc]; done) | (simp only [World.size_alloc]; omega)) (by simp; omega)).trans (by repeat' (first | (with_reducible exact (Lb1).out) | ((with_reducible refine heap_alloc_at ?_); focus (first | (with_reducible rfl) | (simp only [World.size_alloc]; done))) | ((with_reducible apply heap_alloc_before); focus (first | omega | (simp only [World.size_alloc]; done) | (simp only [World.size_alloc]; omega))))))
  go_wp2_with fail
  refine (l25Pauli_any g _ _ cu2 (by omega) (by omega)).mono ?_
  rintro e w3 ⟨n1, y1, z1, p1, rfl, ⟨hn1, v1⟩, hd3⟩
  simp only at hn1 v1
  subst hn1
  have hz3 := hd3.size
  have cu3 := hd3.cur
  have La3 := Lib.hid ((hd3.2.block (w.heap.size) (by first | omega | (simp only [World.size_alloc]; done) | (simp only [World.size_alloc]; omega)) (by simp; omega)).trans (by repeat' (first | (with_reducible exact (La2).out) | ((with_reducible refine heap_alloc_at ?_); focus (first | (with_reducible rfl) | (simp only [World.size_alloc]; done))) | ((with_reducible apply heap_alloc_before); focus (first | omega | (simp only [World.size_alloc]; done) | (simp only [World.size_alloc]; omega))))))
  have Lb3 := Lib.hid ((hd3.2.block (w.heap.size + 1) (by first | omega | (simp only [World.size_alloc]; done) | (simp only [World.size_alloc]; omega)) (by simp; omega)).trans (by repeat' (first | (with_reducible exact (Lb2).out) | ((with_reducible refine heap_alloc_at ?_); focus (first | (with_reducible rfl) | (simp only [World.size_alloc]; done))) | ((with_reducible apply heap_alloc_before); focus (first | omega | (simp only [World.size_alloc]; done) | (simp only [World.size_alloc]; omega))))))
  go_wp2_with fail
  refine (l25Pauli_any g _ _ cu3 (by omega) (by omega)).mono ?_
  rintro e w4 ⟨n2, y2, z2, p2, rfl, ⟨hn2, v2⟩, hd4⟩
  simp only at hn2 v2
  subst hn2
  have hz4 := hd4.size
  have La4 := Lib.hid ((hd4.2.block (w.heap.size) (by first | omega | (simp only [World.size_alloc]; done) | (simp only [World.size_alloc]; omega)) (by simp; omega)).trans (by repeat' (first | (with_reducible exact (La3).out) | ((with_reducible refine heap_alloc_at ?_); focus (first | (with_reducible rfl) | (simp only [World.size_alloc]; done))) | ((with_reducible apply heap_alloc_before); focus (first | omega | (simp only [World.size_alloc]; done) | (simp only [World.size_alloc]; omega))))))
  have Lb4 := Lib.hid ((hd4.2.block (w.heap.size + 1) (by first | omega | (simp only [World.size_alloc]; done) | (simp only [World.size_alloc]; omega)) (by simp; omega)).trans (by repeat' (first | (with_reducible exact (Lb3).out) | ((with_reducible refine heap_alloc_at ?_); focus (first | (with_reducible rfl) | (simp only [World.size_alloc]; done))) | ((with_reducible apply heap_alloc_before); focus (first | omega | (simp only [World.size_alloc]; done) | (simp only [World.size_alloc]; omega))))))
  have b4 : Below g w1 w4 := (hd2.trans (hd3.trans hd4)).below (Nat.le_refl _) (Nat.le_of_lt cu1.lt)
  obtain ⟨q0, q1, q2, q3, qf⟩ := blk4 La4.out
  obtain ⟨r0, r1, r2, r3, rf⟩ := blk4 Lb4.out
  go_wp2_with fail
  have hb : Below w.heap.size w w4 := ((((Below.refl _ _).alloc (Nat.le_refl _) _).alloc (by simp) _).trans (b1.mono (by simp; omega))).trans (b4.mono (by omega))
  clear q0 q1 q2 q3 qf r0 r1 r2 r3 rf
  obtain ⟨w5, hw5, hg5, hs5, ho5, hB5⟩ := stored4o La4.out (.int .i64 (1 + x2)) (.int .i64 y1) (.int .i64 z1) (.int .i64 p1)
  rw [← hw5]
  clear hw5
  obtain ⟨w6, hw6, hg6, hs6, ho6, hB6⟩ := stored4o ((ho5 (w.heap.size + 1) (by omega)).trans Lb4.out) (.int .i64 (1 + x2)) (.int .i64 y2) (.int .i64 z2) (.int .i64 p2)
  rw [← hw6]
  clear hw6
  obtain ⟨q0, q1, q2, q3, qf⟩ := blk4 ((ho6 w.heap.size (by omega)).trans hg5)
  obtain ⟨r0, r1, r2, r3, rf⟩ := blk4 hg6
  have hb6 := hB6 _ _ (hB5 _ _ hb (Nat.le_refl _)) (by omega)
  clear hg5 hs5 ho5 hB5 hg6 hs6 ho6 hB6
  clear hd2 hd3 hd4 La0 Lb0 La1 Lb1 La2 Lb2 La3 Lb3 La4 Lb4 hz
  refine bodyPost_ret (v := .tuple #[.agg #[.int .i64 (1 + x2), .int .i64 y1, .int .i64 z1, .int .i64 p1], .agg #[.int .i64 (1 + x2), .int .i64 y2, .int .i64 z2, .int .i64 p2]]) (by simp [results, Try.results19, go_sem, *]) rfl ⟨1 + x2, y1, z1, p1, y2, z2, p2, rfl, v1, v2, hb6⟩
end Go.Proofs.Ytpahkbajeniajaa
