/- The walks of the laws FnExactFormatPauli. -/
import Derived.Test.YtpahkbajeniajaaWLf
import Derived.Test.YtpahkbajeniajaaWi
namespace Go.Proofs.Ytpahkbajeniajaa
open Go.RowKit Pop
set_option maxRecDepth 100000
set_option linter.unusedVariables false
set_option linter.unusedSimpArgs false
theorem law_formatPauli (n x z p : Int) (w : World) (hn : (Lit.int .i64 n).wf = true) (hx : (Lit.int .i64 x).wf = true) (hz : (Lit.int .i64 z).wf = true) (hp : (Lit.int .i64 p).wf = true) :
    Calls Try.prog 3 #[.agg #[.int .i64 n, .int .i64 x, .int .i64 z, .int .i64 p]] w fun e w' => e = .returned (.bool true) ∧ Below w.heap.size w w' := by
  clear hn hx hz hp
  go_enter Try.func3, Try.ntmps3
  go_wp2_with fail
  refine (toPauli_any _ _ _ _ _).mono ?_
  rintro e w1 ⟨rfl, b1⟩
  obtain ⟨hc1, hf1⟩ := bcell b1
  have hz1 := b1.size
  try simp only [World.size_alloc, World.size_setCell, World.size_drew, World.heap_drewN] at hz1
  have hl1a : w.heap.size < w1.heap.size := by omega
  go_wp2_with fail
  refine (formatPauli_spec _ _ _ _ _).mono ?_
  rintro e w2 ⟨rfl, b2⟩
  obtain ⟨hc2, hf2⟩ := bcell b2
  have hz2 := b2.size
  try simp only [World.size_alloc, World.size_setCell, World.size_drew, World.heap_drewN] at hz2
  have hl2a : w.heap.size < w2.heap.size := by omega
  go_wp2_with fail
  refine (toPauli_any _ _ _ _ _).mono ?_
  rintro e w3 ⟨rfl, b3⟩
  obtain ⟨hc3, hf3⟩ := bcell b3
  have hz3 := b3.size
  try simp only [World.size_alloc, World.size_setCell, World.size_drew, World.heap_drewN] at hz3
  have hl3a : w.heap.size < w3.heap.size := by omega
  go_wp2_with fail
  refine (formatPauli_impl _ _ _ _ _).mono ?_
  rintro e w4 ⟨rfl, b4⟩
  obtain ⟨hc4, hf4⟩ := bcell b4
  have hz4 := b4.size
  try simp only [World.size_alloc, World.size_setCell, World.size_drew, World.heap_drewN] at hz4
  have hl4a : w.heap.size < w4.heap.size := by omega
  go_wp2_with fail
  go_ret
  refine ⟨rfl, ?_⟩
  repeat' (first | (with_reducible exact Below.refl _ _) | (with_reducible refine below_drewN ?_ _) | (with_reducible refine Below.drew ?_) | (with_reducible refine Below.alloc ?_ ?_ _) | (with_reducible refine Below.setCell ?_ ?_ _) | (with_reducible refine Below.trans ?_ (Below.mono (by with_reducible assumption) ?_)) | go_size | (with_reducible refine Nat.le_trans ?_ (Below.size (by with_reducible assumption))))
end Go.Proofs.Ytpahkbajeniajaa
