/- Joined texts: Pv Pok Px. -/
import Derived.Test.YtfjopjalhllplaaKMf
import Derived.Test.YtfjopjalhllplaaK8
import Derived.Test.YtfjopjalhllplaaKGv
/- Plain laws: valid gates, Clifford gates, images. -/
namespace Go.Proofs.Ytfjopjalhllplaa
open Go.RowKit
set_option maxRecDepth 100000
set_option linter.unusedVariables false
set_option linter.unusedSimpArgs false
theorem s_ar (k : Int) : s_Arity k = some (arity k) := by
 unfold s_Arity arity
 simp only [s_in_eq, bO_some]
 by_cases h1 : 1 ≤ k ∧ k ≤ 8
 ·simp only [h1, and_self, decide_true, br_true, if_true]
 ·by_cases h2 : 9 ≤ k ∧ k ≤ 11
  ·simp only [h1, h2, and_self, decide_true, decide_false, br_true, br_false, if_true, if_false, bO_some]
  ·by_cases h3 : k = 12
   ·subst h3; rfl
   ·have : (k == 12) = false := by simpa using h3
    simp only [h1, h2, h3, this, decide_false, br_false, if_false, bO_some]
theorem ar4 (k : Int) : arity k = 0 ∨ arity k = 1 ∨ arity k = 2 ∨ arity k = 3 := by unfold arity; (repeat' split) <;> simp
theorem s_gq (k a b c : Int) : s_GateQubits k a b c = some ([a, b, c].take (arity k).toNat) := by
 unfold s_GateQubits
 rw [s_ar, bO_some]
 rcases ar4 k with h | h | h | h <;> rw [h] <;> rfl
theorem s_has (a : Int) : ∀ l : List Int, l.length ≤ 3 → s_l1HasInt l a = some (l.contains a)
 | [], _ => rfl
 | [x], _ => by
  show br (x == a) (some true) (some false) = _
  rw [List.contains_cons, BEq.comm]
  cases (a == x) <;> rfl
 | [x, y], _ => by
  show br (x == a) (some true) (br (y == a) (some true) (some false)) = _
  rw [List.contains_cons, List.contains_cons, BEq.comm (a := x), BEq.comm (a := y)]
  cases (a == x) <;> cases (a == y) <;> rfl
 | [x, y, z], _ => by
  show br (x == a) (some true) (br (y == a) (some true) (br (z == a) (some true) (some false))) = _
  rw [List.contains_cons, List.contains_cons, List.contains_cons, BEq.comm (a := x), BEq.comm (a := y), BEq.comm (a := z)]
  cases (a == x) <;> cases (a == y) <;> cases (a == z) <;> rfl
 | _ :: _ :: _ :: _ :: _, h => by simp at h
theorem g0 (a b c : Int) : geti [a, b, c] 0 = some a := rfl
theorem g1 (a b c : Int) : geti [a, b, c] 1 = some b := rfl
theorem g2 (a b c : Int) : geti [a, b, c] 2 = some c := rfl
theorem u1 : IntKind.wrap .i64 (0 + 1) = 1 := rfl
theorem u2 : IntKind.wrap .i64 (1 + 1) = 2 := rfl
theorem u3 : IntKind.wrap .i64 (2 + 1) = 3 := rfl
theorem s_rnd (n : Int) (x1 l : List Int) (m : Nat) (v q : Int) (hv : 0 ≤ v ∧ v < 3) (hg : geti l v = some q) (hx : x1.length ≤ 3) (f : Bool)
  (h1 : (x1.length : Int) ≤ v → f = (q != 0)) (h2 : v < (x1.length : Int) → f = (!(decide (0 ≤ q ∧ q ≤ IntKind.wrap .i64 (n - 1))) || (x1.take v.toNat).contains q)) :
  s_IsValidGate_l1 n x1 (m + 1) l v = br f (some false) (s_IsValidGate_l1 n x1 m l (IntKind.wrap .i64 (v + 1))) := by
 rw [s_IsValidGate_l1, hg]
 simp only [decide_eq_true hv.2, br_true, bO_some]
 by_cases hl : (x1.length : Int) ≤ v
 ·have hl2 : ¬ v < (x1.length : Int) := by omega
  rw [h1 hl]
  simp only [hl, hl2, decide_true, decide_false, br_true, br_false, bO_some, s_IsValidGate_j4]
  cases (q != 0) <;> rfl
 ·have hl2 : v < (x1.length : Int) := by omega
  rw [h2 hl2]
  have hs : slc x1 0 v = some (x1.take v.toNat) := by
   have := slc_pre (l := x1) (k := v.toNat) (by omega)
   rwa [Int.toNat_of_nonneg hv.1] at this
  simp only [hl, hl2, decide_true, decide_false, br_true, br_false, bO_some, s_IsValidGate_j4, s_in_eq, hs, s_has q (x1.take v.toNat) (by simp; omega)]
  cases decide (0 ≤ q ∧ q ≤ IntKind.wrap .i64 (n - 1)) <;> cases (x1.take v.toNat).contains q <;> rfl
theorem s_ivg (k a b c n : Int) : s_IsValidGate k a b c n = some (ivg k a b c n) := by
 unfold s_IsValidGate
 rw [s_gq, bO_some, show FU = 4194300 + 1 + 1 + 1 + 1 from rfl]
 rcases ar4 k with h | h | h | h
 ·rw [h, show ([a, b, c].take (Int.toNat 0)) = [] from rfl, s_rnd n _ _ _ 0 a (by omega) rfl (by simp) (a != 0) (fun _ => rfl) (fun hh => by simp at hh), u1, s_rnd n _ _ _ 1 b (by omega) rfl (by simp) (b != 0) (fun _ => rfl) (fun hh => by simp at hh), u2, s_rnd n _ _ _ 2 c (by omega) rfl (by simp) (c != 0) (fun _ => rfl) (fun hh => by simp at hh), u3, s_IsValidGate_l1]
  unfold ivg
  rw [h]
  by_cases hn : 1 ≤ n ∧ n ≤ 4
  ·rw [w64 (x := n - 1) (by omega) (by omega)]
   simp only [okQ, hn, and_self, s_IsValidGate_j1, s_IsValidGate_j5, s_in_eq, bO_some, br, bO]
   simp
   try grind
  ·simp only [hn, s_IsValidGate_j1, s_IsValidGate_j5, s_in_eq, bO_some, decide_false, Bool.false_and]
   simp [br, bO]
   (repeat' split) <;> rfl
 ·rw [h, show ([a, b, c].take (Int.toNat 1)) = [a] from rfl, s_rnd n _ _ _ 0 a (by omega) rfl (by simp) (!(decide (0 ≤ a ∧ a ≤ IntKind.wrap .i64 (n - 1))) || ([] : List Int).contains a) (fun hh => by simp at hh) (fun _ => rfl), u1, s_rnd n _ _ _ 1 b (by omega) rfl (by simp) (b != 0) (fun _ => rfl) (fun hh => by simp at hh), u2, s_rnd n _ _ _ 2 c (by omega) rfl (by simp) (c != 0) (fun _ => rfl) (fun hh => by simp at hh), u3, s_IsValidGate_l1]
  unfold ivg
  rw [h]
  by_cases hn : 1 ≤ n ∧ n ≤ 4
  ·rw [w64 (x := n - 1) (by omega) (by omega)]
   simp only [okQ, hn, and_self, s_IsValidGate_j1, s_IsValidGate_j5, s_in_eq, bO_some, br, bO]
   simp
   try grind
  ·simp only [hn, s_IsValidGate_j1, s_IsValidGate_j5, s_in_eq, bO_some, decide_false, Bool.false_and]
   simp [br, bO]
   (repeat' split) <;> rfl
 ·rw [h, show ([a, b, c].take (Int.toNat 2)) = [a, b] from rfl, s_rnd n _ _ _ 0 a (by omega) rfl (by simp) (!(decide (0 ≤ a ∧ a ≤ IntKind.wrap .i64 (n - 1))) || ([] : List Int).contains a) (fun hh => by simp at hh) (fun _ => rfl), u1, s_rnd n _ _ _ 1 b (by omega) rfl (by simp) (!(decide (0 ≤ b ∧ b ≤ IntKind.wrap .i64 (n - 1))) || [a].contains b) (fun hh => by simp at hh) (fun _ => rfl), u2, s_rnd n _ _ _ 2 c (by omega) rfl (by simp) (c != 0) (fun _ => rfl) (fun hh => by simp at hh), u3, s_IsValidGate_l1]
  unfold ivg
  rw [h]
  by_cases hn : 1 ≤ n ∧ n ≤ 4
  ·rw [w64 (x := n - 1) (by omega) (by omega)]
   simp only [okQ, hn, and_self, s_IsValidGate_j1, s_IsValidGate_j5, s_in_eq, bO_some, br, bO]
   simp
   try grind
  ·simp only [hn, s_IsValidGate_j1, s_IsValidGate_j5, s_in_eq, bO_some, decide_false, Bool.false_and]
   simp [br, bO]
   (repeat' split) <;> rfl
 ·rw [h, show ([a, b, c].take (Int.toNat 3)) = [a, b, c] from rfl, s_rnd n _ _ _ 0 a (by omega) rfl (by simp) (!(decide (0 ≤ a ∧ a ≤ IntKind.wrap .i64 (n - 1))) || ([] : List Int).contains a) (fun hh => by simp at hh) (fun _ => rfl), u1, s_rnd n _ _ _ 1 b (by omega) rfl (by simp) (!(decide (0 ≤ b ∧ b ≤ IntKind.wrap .i64 (n - 1))) || [a].contains b) (fun hh => by simp at hh) (fun _ => rfl), u2, s_rnd n _ _ _ 2 c (by omega) rfl (by simp) (!(decide (0 ≤ c ∧ c ≤ IntKind.wrap .i64 (n - 1))) || [a, b].contains c) (fun hh => by simp at hh) (fun _ => rfl), u3, s_IsValidGate_l1]
  unfold ivg
  rw [h]
  by_cases hn : 1 ≤ n ∧ n ≤ 4
  ·rw [w64 (x := n - 1) (by omega) (by omega)]
   simp only [okQ, hn, and_self, s_IsValidGate_j1, s_IsValidGate_j5, s_in_eq, bO_some, br, bO]
   simp
   try grind
  ·simp only [hn, s_IsValidGate_j1, s_IsValidGate_j5, s_in_eq, bO_some, decide_false, Bool.false_and]
   simp [br, bO]
   (repeat' split) <;> rfl
end Go.Proofs.Ytfjopjalhllplaa
/- Computations that end. -/
namespace Go.Proofs.Ytfjopjalhllplaa
open Go.RowKit
set_option maxRecDepth 100000
set_option linter.unusedVariables false
set_option linter.unusedSimpArgs false
def Ok {α : Type} (x : Option α) (Q : α → Prop) : Prop := ∃ r, x = some r ∧ Q r
section
variable {α β : Type} {Q : α → Prop} {R : β → Prop}
theorem Ok.bO {x : Option α} {f : α → Option β} (h : Ok x Q) (k : ∀ r, Q r → Ok (f r) R) : Ok (bO x f) R := by
 obtain ⟨r, rfl, hr⟩ := h
 exact k r hr
theorem Ok.br {b : Bool} {x y : Option β} (h1 : b = true → Ok x R) (h2 : b = false → Ok y R) : Ok (br b x y) R := by
 cases b with
 | true => exact h1 rfl
 | false => exact h2 rfl
theorem Ok.gd {b : Bool} {x : Option β} (h1 : b = true) (h2 : Ok x R) : Ok (gd b x) R := by rw [h1]; exact h2
theorem Ok.some {r : α} (h : Q r) : Ok (some r) Q := ⟨r, rfl, h⟩
theorem Ok.mono {Q' : α → Prop} {x : Option α} (h : Ok x Q) (k : ∀ r, Q r → Q' r) : Ok x Q' := by
 obtain ⟨r, h1, h2⟩ := h; exact ⟨r, h1, k r h2⟩
end
theorem geti_ok {α : Type} {l : List α} {i : Int} (h : 0 ≤ i ∧ i < l.length) : Ok (geti l i) (fun q => q ∈ l) := by
 obtain ⟨k, rfl⟩ : ∃ k : Nat, i = (k : Int) := ⟨i.toNat, by omega⟩
 exact ⟨l[k], geti_lt (by omega), List.getElem_mem _⟩
end Go.Proofs.Ytfjopjalhllplaa
/- Joined texts: Pw Px. -/
/- Plain laws: the images of X and Z under a gate. -/
namespace Go.Proofs.Ytfjopjalhllplaa
open Go.RowKit
set_option maxRecDepth 100000
set_option linter.unusedVariables false
set_option linter.unusedSimpArgs false
end Go.Proofs.Ytfjopjalhllplaa
/- Plain law: ConjugatePauli. -/
namespace Go.Proofs.Ytfjopjalhllplaa
open Go.RowKit
set_option maxRecDepth 100000
set_option linter.unusedVariables false
set_option linter.unusedSimpArgs false
theorem all_true {n : Nat} : (List.range n).all (fun _ => true) = true := List.all_eq_true.2 fun _ _ => rfl
end Go.Proofs.Ytfjopjalhllplaa
