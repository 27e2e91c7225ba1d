/- Computations that end. -/
import Derived.Test.YtbkkfmcjfbbkaaaPa
namespace Go.Proofs.Ytbkkfmcjfbbkaaa
open Go.RowKit
set_option maxRecDepth 100000
set_option linter.unusedVariables false
set_option linter.unusedSimpArgs false
def Ok {α : Type} (x : Option α) (Q : α → Prop) : Prop := ∃ r, x = some r ∧ Q r
section
variable {α β : Type} {Q : α → Prop} {R : β → Prop}
theorem Ok.bO {x : Option α} {f : α → Option β} (h : Ok x Q) (k : ∀ r, Q r → Ok (f r) R) : Ok (bO x f) R := by
  obtain ⟨r, rfl, hr⟩ := h
  exact k r hr
theorem Ok.br {b : Bool} {x y : Option β} (h1 : b = true → Ok x R) (h2 : b = false → Ok y R) : Ok (br b x y) R := by
  cases b with
  | true => exact h1 rfl
  | false => exact h2 rfl
theorem Ok.gd {b : Bool} {x : Option β} (h1 : b = true) (h2 : Ok x R) : Ok (gd b x) R := by rw [h1]; exact h2
theorem Ok.some {r : α} (h : Q r) : Ok (some r) Q := ⟨r, rfl, h⟩
theorem Ok.mono {Q' : α → Prop} {x : Option α} (h : Ok x Q) (k : ∀ r, Q r → Q' r) : Ok x Q' := by
  obtain ⟨r, h1, h2⟩ := h; exact ⟨r, h1, k r h2⟩
end
theorem geti_ok {α : Type} {l : List α} {i : Int} (h : 0 ≤ i ∧ i < l.length) : Ok (geti l i) (fun q => q ∈ l) := by
  obtain ⟨k, rfl⟩ : ∃ k : Nat, i = (k : Int) := ⟨i.toNat, by omega⟩
  exact ⟨l[k], geti_lt (by omega), List.getElem_mem _⟩
end Go.Proofs.Ytbkkfmcjfbbkaaa
