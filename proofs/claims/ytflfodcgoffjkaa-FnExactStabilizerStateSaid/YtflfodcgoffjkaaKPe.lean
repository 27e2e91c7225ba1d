/- Plain laws: both reductions are the function. -/
import Derived.Test.YtflfodcgoffjkaaKPu
namespace Go.Proofs.Ytflfodcgoffjkaa
open Go.RowKit
set_option maxRecDepth 100000
set_option linter.unusedVariables false
set_option linter.unusedSimpArgs false
section
variable {N : Int} {h : 1 ≤ N ∧ N ≤ 4}
theorem bO_of {α β : Type} {x : Option α} {v : α} {k : α → Option β} (e : x = some v) : bO x k = k v := by rw [e]; rfl
theorem hw4 {k : Nat} (hk : k < 10) : IntKind.wrap .i64 ((k : Int) + 1) = ((k + 1 : Nat) : Int) := by rw [w64 (by omega) (by omega)]; omega
theorem LI.row {B k : Nat} {s : RS} (hs : LI (N := N) B k s) {j : Nat} (hj : j < 2 * N.toNat) : ∃ r : Q4, geti s.1 (j : Int) = some r ∧ Sm r.2.1 ∧ Sm r.2.2.1 ∧ (∀ k, rwX s j k = bt r.2.1 k) ∧ (∀ k, rwZ s j k = bt r.2.2.1 k) ∧ rwP s j = (r.2.2.2 == 2) := by
  obtain ⟨r, e1, e2, e3, e4⟩ := hs.1.row hj
  exact ⟨r, e1, e3, e4, fun k => by unfold rwX; rw [e2], fun k => by unfold rwZ; rw [e2], by unfold rwP; rw [e2]⟩
theorem LI.of {B k : Nat} {s : RS} (hs : RI (N := N) B s) (hB : B ≤ 900) (hk : k ≤ 4) : LI (N := N) B k s := ⟨hs.mono (by omega) (by omega), by omega⟩
theorem LI.to {B k : Nat} {s : RS} (hs : LI (N := N) B k s) (hk : k ≤ 4) : RI (N := N) (B + 8) s := hs.1.mono (by omega) (by have := hs.2; omega)
theorem find_bd (s : RS) (q : Nat) : ∀ c k, k ≤ findK s q c k ∧ findK s q c k ≤ k + c
  | 0, k => ⟨Nat.le_refl _, Nat.le_refl _⟩
  | c + 1, k => by
    unfold findK
    split
    · omega
    · have := find_bd s q c (k + 1); omega
end
end Go.Proofs.Ytflfodcgoffjkaa
