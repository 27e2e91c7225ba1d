/- Contracts of the functions that draw Paulis. -/
import Derived.Test.YtpahkbajeniajaaDr
namespace Go.Proofs.Ytpahkbajeniajaa
open Go.RowKit Pop
set_option maxRecDepth 100000
set_option linter.unusedVariables false
set_option linter.unusedSimpArgs false
theorem addr_ne {b o g : Nat} (h : b ≠ g) : ∀ a : Addr, some (⟨b, o, none⟩ : Addr) = some a → a.block ≠ g := by
  intro a ha; injection ha with ha; subst ha; exact h
set_option maxHeartbeats 2000000 in
theorem l25Bent_any (g : Nat) (w : World) (hc : CurAt w g) : Calls Try.prog 63 #[.pointer (some ⟨g, 0, none⟩)] w (DrawQ (fun _ => True) g w) := by
  have hgs := hc.lt
  have hne : ¬ w.heap.size = g := by omega
  go_enter Try.func63, Try.ntmps63
  go_wp2_with fail
  refine (l1Below_any g _ _ (hc.alloc _) (by omega) (by omega)).mono ?_
  rintro e w1 ⟨x1, rfl, hx1a, hx1b, hd1⟩
  obtain ⟨hc1, hf1⟩ := hd1.cells
  have hz1 := hd1.size
  have cu1 := hd1.cur
  try simp only [World.size_alloc, World.size_setCell, World.size_drew, World.heap_drewN] at hz1
  have hl1 : w.heap.size < w1.heap.size := by omega
  go_wp2_with fail
  refine (l25Pauli_any g _ _ cu1 (by omega) (by omega)).mono ?_
  rintro e w2 ⟨n, x, z, p, rfl, ⟨hn, _⟩, hd2⟩
  simp only at hn
  subst hn
  generalize hn : 1 + x1 = n
  clear hn
  obtain ⟨hc2, hf2⟩ := hd2.cells
  have hz2 := hd2.size
  have cu2 := hd2.cur
  have hl2 : w.heap.size < w2.heap.size := by omega
  have hne2 : ¬ w2.heap.size = g := by omega
  go_wp2_with fail
  refine (l1Below_any g _ _ (cu2.alloc _) (by omega) (by omega)).mono ?_
  rintro e w3 ⟨x3, rfl, hx3a, hx3b, hd3⟩
  obtain ⟨hc3, hf3⟩ := hd3.cells
  have hz3 := hd3.size
  have cu3 := hd3.cur
  simp only [World.size_alloc] at hz3
  have hl3 : w.heap.size < w3.heap.size := by omega
  have hl3b : w2.heap.size < w3.heap.size := by omega
  have pb3 := (hd3.2.block w2.heap.size (by simp) (by simp; omega)).trans (heap_alloc_new _ _)
  have rb3 := (hd3.2.block w.heap.size (by simp; omega) (by simp; omega)).trans ((Below.heap_alloc _ _ _ (by omega)).trans ((hd2.2.block w.heap.size (by omega) (by simp; omega)).trans ((hd1.2.block w.heap.size (by simp) (by simp; omega)).trans (heap_alloc_new _ _))))
  have hdd : Drawn g w w3 := by
    repeat' (first | (with_reducible exact Drawn.refl (by with_reducible assumption)) | (with_reducible assumption) | (with_reducible refine Drawn.alloc ?_ _) | (with_reducible refine Drawn.setNew ?_ ?_ _) | (with_reducible refine Drawn.trans ?_ (by with_reducible assumption)) | go_size)
  have hx : x3 = 0 ∨ x3 = 1 ∨ x3 = 2 ∨ ((x3 == 0) = false ∧ (x3 == 1) = false ∧ (x3 == 2) = false) := by
    have : x3 = 0 ∨ x3 = 1 ∨ x3 = 2 ∨ 3 ≤ x3 := by omega
    rcases this with h | h | h | h
    · exact .inl h
    · exact .inr (.inl h)
    · exact .inr (.inr (.inl h))
    · refine .inr (.inr (.inr ⟨?_, ?_, ?_⟩)) <;> simp <;> omega
  rcases hx with rfl | rfl | rfl | ⟨e0, e1, e2⟩
  · go_wp2_with fail
    refine (l1PickInt_any g _ 4 4 [0, 1, 4, 5] _ (cu3.alloc _) (SlI.lit w3 _ [0, 1, 4, 5] _ rfl) (addr_ne (by omega)) (by omega) (by omega)).mono ?_
    rintro e w4 ⟨x4, rfl, _, hd4⟩
    have hz4 := hd4.size
    simp only [World.size_alloc] at hz4
    have pb4 := (hd4.2.block w2.heap.size (by simp; omega) (by simp; omega)).trans ((Below.heap_alloc _ _ _ (by omega)).trans pb3)
    have rb4 := (hd4.2.block w.heap.size (by simp; omega) (by simp; omega)).trans ((Below.heap_alloc _ _ _ (by omega)).trans rb3)
    obtain ⟨q0, q1, q2, q3, qf⟩ := blk4 pb4
    obtain ⟨r0, r1, r2, r3, rf⟩ := blk4 rb4
    clear hc1 hf1 hc2 hf2 hc3 hf3 pb3 pb4 rb3 rb4
    have hl4 : w.heap.size < w4.heap.size := by omega
    have hl4b : w2.heap.size < w4.heap.size := by omega
    go_wp2_with fail
    show bodyPost Try.prog Try.f63 _ _ _ _
    refine bodyPost_ret (v := .agg #[.int .i64 x4, .int .i64 x, .int .i64 z, .int .i64 p]) (by simp [results, Try.results63, go_sem, *]) rfl ⟨x4, x, z, p, rfl, trivial, ?_⟩
    repeat' (first | (with_reducible exact Drawn.refl (by with_reducible assumption)) | (with_reducible assumption) | (with_reducible refine Drawn.alloc ?_ _) | (with_reducible refine Drawn.setNew ?_ ?_ _) | (with_reducible refine Drawn.trans ?_ (by with_reducible assumption)) | go_size)
    all_goals (simp; omega)
  · go_wp2_with fail
    refine (l1PickInt_any g _ 3 3 [-1, 15, 16] _ (cu3.alloc _) (SlI.lit w3 _ [-1, 15, 16] _ rfl) (addr_ne (by omega)) (by omega) (by omega)).mono ?_
    rintro e w4 ⟨x4, rfl, _, hd4⟩
    have hz4 := hd4.size
    simp only [World.size_alloc] at hz4
    have pb4 := (hd4.2.block w2.heap.size (by simp; omega) (by simp; omega)).trans ((Below.heap_alloc _ _ _ (by omega)).trans pb3)
    have rb4 := (hd4.2.block w.heap.size (by simp; omega) (by simp; omega)).trans ((Below.heap_alloc _ _ _ (by omega)).trans rb3)
    obtain ⟨q0, q1, q2, q3, qf⟩ := blk4 pb4
    obtain ⟨r0, r1, r2, r3, rf⟩ := blk4 rb4
    clear hc1 hf1 hc2 hf2 hc3 hf3 pb3 pb4 rb3 rb4
    have hl4 : w.heap.size < w4.heap.size := by omega
    have hl4b : w2.heap.size < w4.heap.size := by omega
    go_wp2_with fail
    show bodyPost Try.prog Try.f63 _ _ _ _
    refine bodyPost_ret (v := .agg #[.int .i64 n, .int .i64 x4, .int .i64 z, .int .i64 p]) (by simp [results, Try.results63, go_sem, *]) rfl ⟨n, x4, z, p, rfl, trivial, ?_⟩
    repeat' (first | (with_reducible exact Drawn.refl (by with_reducible assumption)) | (with_reducible assumption) | (with_reducible refine Drawn.alloc ?_ _) | (with_reducible refine Drawn.setNew ?_ ?_ _) | (with_reducible refine Drawn.trans ?_ (by with_reducible assumption)) | go_size)
    all_goals (simp; omega)
  · go_wp2_with fail
    refine (l1PickInt_any g _ 3 3 [-1, 3, 4] _ (cu3.alloc _) (SlI.lit w3 _ [-1, 3, 4] _ rfl) (addr_ne (by omega)) (by omega) (by omega)).mono ?_
    rintro e w4 ⟨x4, rfl, _, hd4⟩
    have hz4 := hd4.size
    simp only [World.size_alloc] at hz4
    have pb4 := (hd4.2.block w2.heap.size (by simp; omega) (by simp; omega)).trans ((Below.heap_alloc _ _ _ (by omega)).trans pb3)
    have rb4 := (hd4.2.block w.heap.size (by simp; omega) (by simp; omega)).trans ((Below.heap_alloc _ _ _ (by omega)).trans rb3)
    obtain ⟨q0, q1, q2, q3, qf⟩ := blk4 pb4
    obtain ⟨r0, r1, r2, r3, rf⟩ := blk4 rb4
    clear hc1 hf1 hc2 hf2 hc3 hf3 pb3 pb4 rb3 rb4
    have hl4 : w.heap.size < w4.heap.size := by omega
    have hl4b : w2.heap.size < w4.heap.size := by omega
    go_wp2_with fail
    show bodyPost Try.prog Try.f63 _ _ _ _
    refine bodyPost_ret (v := .agg #[.int .i64 n, .int .i64 x, .int .i64 z, .int .i64 x4]) (by simp [results, Try.results63, go_sem, *]) rfl ⟨n, x, z, x4, rfl, trivial, ?_⟩
    repeat' (first | (with_reducible exact Drawn.refl (by with_reducible assumption)) | (with_reducible assumption) | (with_reducible refine Drawn.alloc ?_ _) | (with_reducible refine Drawn.setNew ?_ ?_ _) | (with_reducible refine Drawn.trans ?_ (by with_reducible assumption)) | go_size)
    all_goals (simp; omega)
  · obtain ⟨q0, q1, q2, q3, qf⟩ := blk4 pb3
    obtain ⟨r0, r1, r2, r3, rf⟩ := blk4 rb3
    clear hc1 hf1 hc2 hf2 hc3 hf3 pb3 rb3
    go_wp2_with fail
    show bodyPost Try.prog Try.f63 _ _ _ _
    refine bodyPost_ret (v := .agg #[.int .i64 n, .int .i64 x, .int .i64 z, .int .i64 p]) (by simp [results, Try.results63, go_sem, *]) rfl ⟨n, x, z, p, rfl, trivial, ?_⟩
    repeat' (first | (with_reducible exact Drawn.refl (by with_reducible assumption)) | (with_reducible assumption) | (with_reducible refine Drawn.alloc ?_ _) | (with_reducible refine Drawn.setNew ?_ ?_ _) | (with_reducible refine Drawn.trans ?_ (by with_reducible assumption)) | go_size)
    all_goals (simp; omega)
theorem drawIsHermitianPauli_any (A : Option Addr) (n c : Nat) (zs : List Int) (w : World) (hz : BytesBelow w w.heap.size A n zs) (hn : n ≤ 1048576) : Calls Try.prog 23 #[.slice A n c] w
    fun e w' => ∃ n x z p : Int, e = .returned (.agg #[.int .i64 n, .int .i64 x, .int .i64 z, .int .i64 p]) ∧ Below w.heap.size w w' := by
  go_enter Try.func23, Try.ntmps23
  go_wp2_with fail
  refine (l1New_any A n c w.heap.size zs _ (hz.keep fun k hk => Below.heap_alloc _ _ _ hk) (by simp) hn).mono ?_
  rintro e w1 ⟨g, rfl, hg, cu1, b1⟩
  obtain ⟨hc1, hf1⟩ := bcell b1
  have hz1 := b1.size
  simp only [World.size_alloc] at hz1 hg
  go_wp2_with fail
  refine (l25Bent_any g _ cu1).mono ?_
  rintro e w2 ⟨n, x, z, p, rfl, _, hd2⟩
  have b2 : Below g w1 w2 := hd2.below (Nat.le_refl _) (Nat.le_of_lt cu1.lt)
  obtain ⟨hc2, hf2⟩ := hd2.cells
  have hz2 := hd2.size
  have hl1 : w.heap.size < w1.heap.size := by omega
  have hl2 : w.heap.size < w2.heap.size := by omega
  have hne : ¬ w.heap.size = g := by omega
  go_wp2_with fail
  refine bodyPost_ret (v := .agg #[.int .i64 n, .int .i64 x, .int .i64 z, .int .i64 p]) (by simp [results, Try.results23, go_sem, *]) rfl ⟨n, x, z, p, rfl, ?_⟩
  have hb : Below w.heap.size w w2 := (((Below.refl _ _).alloc (Nat.le_refl _) _).trans (b1.mono (by simp))).trans (b2.mono (by omega))
  exact (((hb.setCell (by simp) _).setCell (by simp) _).setCell (by simp) _).setCell (by simp) _
end Go.Proofs.Ytpahkbajeniajaa
