/- Plain laws: tables of numbers that are valid; phases at a common exponent. -/
import Derived.Test.YtflfodcgoffjkaaK16
import Derived.Test.YtflfodcgoffjkaaKPvf
namespace Go.Proofs.Ytflfodcgoffjkaa
open Go.RowKit
set_option maxRecDepth 100000
set_option linter.unusedVariables false
set_option linter.unusedSimpArgs false
theorem tb_stB {n : Nat} (hn : 0 < qcF n) {f : Nat → DQ} (hf : ∀ r, r < n → vd (f r) = true) : stB ((List.range n).map f) = true := by
  unfold stB
  rw [Bool.and_eq_true, List.all_eq_true, decide_eq_true_eq]
  refine ⟨fun y hy => ?_, by rw [List.length_map, List.length_range]; exact hn⟩
  obtain ⟨r, hr, rfl⟩ := List.mem_map.1 hy
  exact hf r (List.mem_range.1 hr)
theorem tb_mtB {n : Nat} (hn : 0 < qcF n) {g : Nat → Nat → DQ} (hg : ∀ r c, r < n → c < n → vd (g r c) = true) : mtB (tbF n g) = true := by
  unfold mtB
  rw [Bool.and_eq_true, List.all_eq_true, decide_eq_true_eq]
  refine ⟨fun row hr => ?_, ?_⟩
  · obtain ⟨r, hr2, rfl⟩ := List.mem_map.1 hr
    rw [Bool.and_eq_true, beq_iff_eq, tb_len, List.length_map, List.length_range]
    exact ⟨rfl, tb_stB hn fun c hc => hg r c (List.mem_range.1 hr2) hc⟩
  · rw [tb_len]
    rcases Nat.eq_zero_or_pos n with h | h
    · subst h; exact absurd hn (by decide)
    · omega
theorem qc_pw {N : Int} (h : 1 ≤ N ∧ N ≤ 4) : 0 < qcF (2 ^ N.toNat) := by rcases four h with rfl | rfl | rfl | rfl <;> decide
theorem ph_dq (a K : Nat) {n : Z4} (hK : K ≤ 60) (hb : bdz 1073741824 n) : phx a (dq K n) = dq K (mlz (phz a) n) := by
  refine dq_eq (ph_vd (dq_vd hK hb)) ?_
  rw [(ph_exn a _).1, (ph_exn a _).2, rtn_mlz', dq_val, ← rtn_mlz']
end Go.Proofs.Ytflfodcgoffjkaa
