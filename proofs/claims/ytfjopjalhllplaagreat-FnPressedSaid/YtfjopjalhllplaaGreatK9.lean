/- Joined texts: Pv Px Pt Pok. -/
import Derived.Test.YtfjopjalhllplaaGreatKMf
import Derived.Test.YtfjopjalhllplaaGreatK8
import Derived.Test.YtfjopjalhllplaaGreatKGv
import Derived.Test.YtfjopjalhllplaaGreatK3
/- Plain laws: valid gates, Clifford gates, images. -/
namespace Go.Proofs.YtfjopjalhllplaaGreat
open Go.RowKit
set_option maxRecDepth 100000
set_option linter.unusedVariables false
set_option linter.unusedSimpArgs false
theorem s_ar (k : Int) : s_Arity k = some (arity k) := by
 unfold s_Arity arity
 simp only [s_in_eq, bO_some]
 by_cases h1 : 1 ≤ k ∧ k ≤ 8
 ·simp only [h1, and_self, decide_true, br_true, if_true]
 ·by_cases h2 : 9 ≤ k ∧ k ≤ 11
  ·simp only [h1, h2, and_self, decide_true, decide_false, br_true, br_false, if_true, if_false, bO_some]
  ·by_cases h3 : k = 12
   ·subst h3; rfl
   ·have : (k == 12) = false := by simpa using h3
    simp only [h1, h2, h3, this, decide_false, br_false, if_false, bO_some]
theorem i_ar (k : Int) : i_Arity k = some (arity k) := by
 unfold i_Arity arity
 simp only [i_in_eq, bO_some]
 by_cases h1 : 1 ≤ k ∧ k ≤ 8
 ·simp only [h1, and_self, decide_true, br_true, if_true]
 ·by_cases h2 : 9 ≤ k ∧ k ≤ 11
  ·simp only [h1, h2, and_self, decide_true, decide_false, br_true, br_false, if_true, if_false, bO_some]
  ·by_cases h3 : k = 12
   ·subst h3; rfl
   ·have : (k == 12) = false := by simpa using h3
    simp only [h1, h2, h3, this, decide_false, br_false, if_false, bO_some]
theorem ar4 (k : Int) : arity k = 0 ∨ arity k = 1 ∨ arity k = 2 ∨ arity k = 3 := by unfold arity; (repeat' split) <;> simp
theorem s_gq (k a b c : Int) : s_GateQubits k a b c = some ([a, b, c].take (arity k).toNat) := by
 unfold s_GateQubits
 rw [s_ar, bO_some]
 rcases ar4 k with h | h | h | h <;> rw [h] <;> rfl
def clif (k : Int) : Bool := decide (1 ≤ k ∧ k ≤ 11) && (k != 7 && k != 8)
theorem s_clif (k a b c : Int) : s_IsClifford k a b c = some (clif k) := by
 unfold s_IsClifford s_IsClifford_j1
 rw [s_ar, bO_some]
 simp only [br_and, bO_some]
 congr 1
 rw [Bool.eq_iff_iff]
 unfold clif arity
 simp only [Bool.and_eq_true, decide_eq_true_eq, bne_iff_ne, ne_eq]
 (repeat' split) <;> omega
theorem i_clif (k a b c : Int) : i_IsClifford k a b c = some (clif k) := by
 unfold i_IsClifford i_IsClifford_j1
 rw [i_ar, bO_some]
 simp only [br_and, bO_some]
 congr 1
 rw [Bool.eq_iff_iff]
 unfold clif arity
 simp only [Bool.and_eq_true, decide_eq_true_eq, bne_iff_ne, ne_eq]
 (repeat' split) <;> omega
theorem s_has (a : Int) : ∀ l : List Int, l.length ≤ 3 → s_l1HasInt l a = some (l.contains a)
 | [], _ => rfl
 | [x], _ => by
  show br (x == a) (some true) (some false) = _
  rw [List.contains_cons, BEq.comm]
  cases (a == x) <;> rfl
 | [x, y], _ => by
  show br (x == a) (some true) (br (y == a) (some true) (some false)) = _
  rw [List.contains_cons, List.contains_cons, BEq.comm (a := x), BEq.comm (a := y)]
  cases (a == x) <;> cases (a == y) <;> rfl
 | [x, y, z], _ => by
  show br (x == a) (some true) (br (y == a) (some true) (br (z == a) (some true) (some false))) = _
  rw [List.contains_cons, List.contains_cons, List.contains_cons, BEq.comm (a := x), BEq.comm (a := y), BEq.comm (a := z)]
  cases (a == x) <;> cases (a == y) <;> cases (a == z) <;> rfl
 | _ :: _ :: _ :: _ :: _, h => by simp at h
theorem g0 (a b c : Int) : geti [a, b, c] 0 = some a := rfl
theorem g1 (a b c : Int) : geti [a, b, c] 1 = some b := rfl
theorem g2 (a b c : Int) : geti [a, b, c] 2 = some c := rfl
theorem u1 : IntKind.wrap .i64 (0 + 1) = 1 := rfl
theorem u2 : IntKind.wrap .i64 (1 + 1) = 2 := rfl
theorem u3 : IntKind.wrap .i64 (2 + 1) = 3 := rfl
theorem s_rnd (n : Int) (x1 l : List Int) (m : Nat) (v q : Int) (hv : 0 ≤ v ∧ v < 3) (hg : geti l v = some q) (hx : x1.length ≤ 3) (f : Bool)
  (h1 : (x1.length : Int) ≤ v → f = (q != 0)) (h2 : v < (x1.length : Int) → f = (!(decide (0 ≤ q ∧ q ≤ IntKind.wrap .i64 (n - 1))) || (x1.take v.toNat).contains q)) :
  s_IsValidGate_l1 n x1 (m + 1) l v = br f (some false) (s_IsValidGate_l1 n x1 m l (IntKind.wrap .i64 (v + 1))) := by
 rw [s_IsValidGate_l1, hg]
 simp only [decide_eq_true hv.2, br_true, bO_some]
 by_cases hl : (x1.length : Int) ≤ v
 ·have hl2 : ¬ v < (x1.length : Int) := by omega
  rw [h1 hl]
  simp only [hl, hl2, decide_true, decide_false, br_true, br_false, bO_some, s_IsValidGate_j4]
  cases (q != 0) <;> rfl
 ·have hl2 : v < (x1.length : Int) := by omega
  rw [h2 hl2]
  have hs : slc x1 0 v = some (x1.take v.toNat) := by
   have := slc_pre (l := x1) (k := v.toNat) (by omega)
   rwa [Int.toNat_of_nonneg hv.1] at this
  simp only [hl, hl2, decide_true, decide_false, br_true, br_false, bO_some, s_IsValidGate_j4, s_in_eq, hs, s_has q (x1.take v.toNat) (by simp; omega)]
  cases decide (0 ≤ q ∧ q ≤ IntKind.wrap .i64 (n - 1)) <;> cases (x1.take v.toNat).contains q <;> rfl
theorem s_ivg (k a b c n : Int) : s_IsValidGate k a b c n = some (ivg k a b c n) := by
 unfold s_IsValidGate
 rw [s_gq, bO_some, show FU = 4194300 + 1 + 1 + 1 + 1 from rfl]
 rcases ar4 k with h | h | h | h
 ·rw [h, show ([a, b, c].take (Int.toNat 0)) = [] from rfl, s_rnd n _ _ _ 0 a (by omega) rfl (by simp) (a != 0) (fun _ => rfl) (fun hh => by simp at hh), u1, s_rnd n _ _ _ 1 b (by omega) rfl (by simp) (b != 0) (fun _ => rfl) (fun hh => by simp at hh), u2, s_rnd n _ _ _ 2 c (by omega) rfl (by simp) (c != 0) (fun _ => rfl) (fun hh => by simp at hh), u3, s_IsValidGate_l1]
  unfold ivg
  rw [h]
  by_cases hn : 1 ≤ n ∧ n ≤ 4
  ·rw [w64 (x := n - 1) (by omega) (by omega)]
   simp only [okQ, hn, and_self, s_IsValidGate_j1, s_IsValidGate_j5, s_in_eq, bO_some, br, bO]
   simp
   try grind
  ·simp only [hn, s_IsValidGate_j1, s_IsValidGate_j5, s_in_eq, bO_some, decide_false, Bool.false_and]
   simp [br, bO]
   (repeat' split) <;> rfl
 ·rw [h, show ([a, b, c].take (Int.toNat 1)) = [a] from rfl, s_rnd n _ _ _ 0 a (by omega) rfl (by simp) (!(decide (0 ≤ a ∧ a ≤ IntKind.wrap .i64 (n - 1))) || ([] : List Int).contains a) (fun hh => by simp at hh) (fun _ => rfl), u1, s_rnd n _ _ _ 1 b (by omega) rfl (by simp) (b != 0) (fun _ => rfl) (fun hh => by simp at hh), u2, s_rnd n _ _ _ 2 c (by omega) rfl (by simp) (c != 0) (fun _ => rfl) (fun hh => by simp at hh), u3, s_IsValidGate_l1]
  unfold ivg
  rw [h]
  by_cases hn : 1 ≤ n ∧ n ≤ 4
  ·rw [w64 (x := n - 1) (by omega) (by omega)]
   simp only [okQ, hn, and_self, s_IsValidGate_j1, s_IsValidGate_j5, s_in_eq, bO_some, br, bO]
   simp
   try grind
  ·simp only [hn, s_IsValidGate_j1, s_IsValidGate_j5, s_in_eq, bO_some, decide_false, Bool.false_and]
   simp [br, bO]
   (repeat' split) <;> rfl
 ·rw [h, show ([a, b, c].take (Int.toNat 2)) = [a, b] from rfl, s_rnd n _ _ _ 0 a (by omega) rfl (by simp) (!(decide (0 ≤ a ∧ a ≤ IntKind.wrap .i64 (n - 1))) || ([] : List Int).contains a) (fun hh => by simp at hh) (fun _ => rfl), u1, s_rnd n _ _ _ 1 b (by omega) rfl (by simp) (!(decide (0 ≤ b ∧ b ≤ IntKind.wrap .i64 (n - 1))) || [a].contains b) (fun hh => by simp at hh) (fun _ => rfl), u2, s_rnd n _ _ _ 2 c (by omega) rfl (by simp) (c != 0) (fun _ => rfl) (fun hh => by simp at hh), u3, s_IsValidGate_l1]
  unfold ivg
  rw [h]
  by_cases hn : 1 ≤ n ∧ n ≤ 4
  ·rw [w64 (x := n - 1) (by omega) (by omega)]
   simp only [okQ, hn, and_self, s_IsValidGate_j1, s_IsValidGate_j5, s_in_eq, bO_some, br, bO]
   simp
   try grind
  ·simp only [hn, s_IsValidGate_j1, s_IsValidGate_j5, s_in_eq, bO_some, decide_false, Bool.false_and]
   simp [br, bO]
   (repeat' split) <;> rfl
 ·rw [h, show ([a, b, c].take (Int.toNat 3)) = [a, b, c] from rfl, s_rnd n _ _ _ 0 a (by omega) rfl (by simp) (!(decide (0 ≤ a ∧ a ≤ IntKind.wrap .i64 (n - 1))) || ([] : List Int).contains a) (fun hh => by simp at hh) (fun _ => rfl), u1, s_rnd n _ _ _ 1 b (by omega) rfl (by simp) (!(decide (0 ≤ b ∧ b ≤ IntKind.wrap .i64 (n - 1))) || [a].contains b) (fun hh => by simp at hh) (fun _ => rfl), u2, s_rnd n _ _ _ 2 c (by omega) rfl (by simp) (!(decide (0 ≤ c ∧ c ≤ IntKind.wrap .i64 (n - 1))) || [a, b].contains c) (fun hh => by simp at hh) (fun _ => rfl), u3, s_IsValidGate_l1]
  unfold ivg
  rw [h]
  by_cases hn : 1 ≤ n ∧ n ≤ 4
  ·rw [w64 (x := n - 1) (by omega) (by omega)]
   simp only [okQ, hn, and_self, s_IsValidGate_j1, s_IsValidGate_j5, s_in_eq, bO_some, br, bO]
   simp
   try grind
  ·simp only [hn, s_IsValidGate_j1, s_IsValidGate_j5, s_in_eq, bO_some, decide_false, Bool.false_and]
   simp [br, bO]
   (repeat' split) <;> rfl
end Go.Proofs.YtfjopjalhllplaaGreat
/- Joined texts: Pw Px. -/
/- Plain laws: the images of X and Z under a gate. -/
namespace Go.Proofs.YtfjopjalhllplaaGreat
open Go.RowKit
set_option maxRecDepth 100000
set_option linter.unusedVariables false
set_option linter.unusedSimpArgs false
def imgOk (N k a b v : Int) : Bool := match i_images k a b 0 N v, s_l25Image N k a b 0 v false, s_l25Image N k a b 0 v true with
 | some (x0, x1, x2, x3, z0, z1, z2, z3), some X, some Z => ((x0, x1, x2, x3) == X && (z0, z1, z2, z3) == Z) && ((vP X && X.1 == N) && (vP Z && Z.1 == N))
 | _, _, _ => false
theorem img_fin : ∀ k : Fin 12, ∀ a b v : Fin 4, ∀ N : Fin 5, ((clif k.val && ivg k.val a.val b.val 0 N.val) && decide (v.val < N.val)) = true → imgOk N.val k.val a.val b.val v.val = true := by decide +kernel
end Go.Proofs.YtfjopjalhllplaaGreat
/- Plain law: ConjugatePauli. -/
namespace Go.Proofs.YtfjopjalhllplaaGreat
open Go.RowKit
set_option maxRecDepth 100000
set_option linter.unusedVariables false
set_option linter.unusedSimpArgs false
theorem all_true {n : Nat} : (List.range n).all (fun _ => true) = true := List.all_eq_true.2 fun _ _ => rfl
theorem fin_of' {x : Int} {n : Nat} (h : 0 ≤ x ∧ x < n) : ∃ k : Fin n, x = (k.val : Int) := ⟨⟨x.toNat, by omega⟩, by show x = (x.toNat : Int); omega⟩
theorem gate_dom {k a b c N : Int} (h1 : clif k = true) (h2 : ivg k a b c N = true) : c = 0 ∧ (0 ≤ k ∧ k < 12) ∧ (0 ≤ a ∧ a < 4) ∧ (0 ≤ b ∧ b < 4) ∧ (1 ≤ N ∧ N ≤ 4) := by
 unfold clif at h1
 simp only [Bool.and_eq_true, decide_eq_true_eq, bne_iff_ne, ne_eq] at h1
 unfold ivg at h2
 rcases ar4 k with h | h | h | h <;> rw [h] at h2 <;> simp [okQ] at h2
 ·omega
 ·omega
 ·unfold arity at h; (repeat' split at h) <;> omega
theorem img_ok {k a b c N v : Int} (h1 : clif k = true) (h2 : ivg k a b c N = true) (hv : 0 ≤ v ∧ v < N) : ∃ X Z : Q4, i_images k a b c N v = some (X.1, X.2.1, X.2.2.1, X.2.2.2, Z.1, Z.2.1, Z.2.2.1, Z.2.2.2) ∧ s_l25Image N k a b c v false = some X ∧ s_l25Image N k a b c v true = some Z ∧ vP X = true ∧ X.1 = N ∧ vP Z = true ∧ Z.1 = N := by
 obtain ⟨rfl, d1, d2, d3, d4⟩ := gate_dom h1 h2
 obtain ⟨k, rfl⟩ := fin_of' (n := 12) d1
 obtain ⟨a, rfl⟩ := fin_of' (n := 4) d2
 obtain ⟨b, rfl⟩ := fin_of' (n := 4) d3
 obtain ⟨N, rfl⟩ := fin_of' (n := 5) (x := N) (by omega)
 obtain ⟨v, rfl⟩ := fin_of' (n := 4) (x := v) (by omega)
 have := img_fin k a b v N (by rw [h1, h2]; simpa using hv.2)
 unfold imgOk at this
 split at this
 ·rename_i x0 x1 x2 x3 z0 z1 z2 z3 X Z e1 e2 e3
  simp only [Bool.and_eq_true, beq_iff_eq] at this
  obtain ⟨⟨rfl, rfl⟩, ⟨g1, g2⟩, g3, g4⟩ := this
  exact ⟨_, _, e1, e2, e3, g1, g2, g3, g4⟩
 ·cases this
theorem mulC {p q : Q4} {N : Int} (hp : vP p = true) (hq : vP q = true) (e1 : p.1 = N) (e2 : q.1 = N) :
  s_MulPauli p.1 p.2.1 p.2.2.1 p.2.2.2 q.1 q.2.1 q.2.2.1 q.2.2.2 = some ((mulQ p q).1, (mulQ p q).2.1, (mulQ p q).2.2.1, (mulQ p q).2.2.2, true) ∧
  i_MulPauli p.1 p.2.1 p.2.2.1 p.2.2.2 q.1 q.2.1 q.2.2.1 q.2.2.2 = some ((mulQ p q).1, (mulQ p q).2.1, (mulQ p q).2.2.1, (mulQ p q).2.2.2, true) ∧ vP (mulQ p q) = true ∧ (mulQ p q).1 = N := by
 obtain ⟨p0, p1, p2, p3⟩ := p
 obtain ⟨q0, q1, q2, q3⟩ := q
 simp only at e1 e2
 subst e1 e2
 exact ⟨s_mul hp hq, i_mul hp hq, mulQ_vP hp hq rfl, rfl⟩
theorem in_c {k a b c N : Int} (h1 : clif k = true) (h2 : ivg k a b c N = true) (x z : Int) : ∀ (m v : Nat) (p : Q4), (v : Int) ≤ N → N - v < m → vP p = true → p.1 = N →
  ∃ r, s_ConjugatePauli_l1 N x z k a b c m v p.1 p.2.1 p.2.2.1 p.2.2.2 = some r ∧ i_ConjugatePauli_l1 N x z k a b c m v p.1 p.2.1 p.2.2.1 p.2.2.2 = some r
 | 0, v, p, hv, hm, _, _ => by omega
 | m + 1, v, p, hv, hm, hp, hN => by
  obtain ⟨_, _, _, _, d4⟩ := gate_dom h1 h2
  rw [s_ConjugatePauli_l1, i_ConjugatePauli_l1]
  by_cases e : (v : Int) = N
  ·have hlt : ¬ (v : Int) < N := by omega
   simp only [hlt, decide_false, br_false]
   exact ⟨_, rfl, rfl⟩
  ·have hlt : (v : Int) < N := by omega
   have h0 : ¬ (v : Int) < 0 := by omega
   obtain ⟨X, Z, g1, g2, g3, vX, nX, vZ, nZ⟩ := img_ok h1 h2 (v := (v : Int)) (by omega)
   have hw : IntKind.wrap .i64 ((v : Int) + 1) = ((v + 1 : Nat) : Int) := by rw [w64 (by omega) (by omega)]; omega
   simp only [hlt, decide_true, br_true, u64_s (n := (v : Int)) (by omega), h0, not_false_eq_true, gd_true, g1, g2, g3, bO_some, s_ConjugatePauli_j8, i_ConjugatePauli_j8, s_ConjugatePauli_j7, i_ConjugatePauli_j7, hw]
   obtain ⟨a1, a2, a3, a4⟩ := mulC hp vX hN nX
   obtain ⟨b1, b2, b3, b4⟩ := mulC a3 vZ a4 nZ
   obtain ⟨c1, c2, c3, c4⟩ := mulC hp vZ hN nZ
   cases (bits .and .i64 (Int.fdiv x (2 ^ min (Int.toNat (v : Int)) (IntKind.bits .i64))) 1 == 1) <;> cases (bits .and .i64 (Int.fdiv z (2 ^ min (Int.toNat (v : Int)) (IntKind.bits .i64))) 1 == 1) <;> simp only [br_true, br_false, a1, a2, b1, b2, c1, c2, bO_some]
   ·exact in_c h1 h2 x z m (v + 1) _ (by omega) (by omega) hp hN
   ·exact in_c h1 h2 x z m (v + 1) _ (by omega) (by omega) c3 c4
   ·exact in_c h1 h2 x z m (v + 1) _ (by omega) (by omega) a3 a4
   ·exact in_c h1 h2 x z m (v + 1) _ (by omega) (by omega) b3 b4
theorem conj_eq (n x z p k a b c : Int) : ∃ r, s_ConjugatePauli n x z p k a b c = some r ∧ i_ConjugatePauli n x z p k a b c = some r := by
 unfold s_ConjugatePauli i_ConjugatePauli
 simp only [s_valid, i_valid, s_ivg, i_IsValidGate, s_clif, i_clif, bO_some]
 cases h1 : vP (n, x, z, p) with
 | false => exact ⟨(0, 0, 0, 0, false), rfl, rfl⟩
 | true =>
  cases h2 : ivg k a b c n with
  | false => exact ⟨(0, 0, 0, 0, false), rfl, rfl⟩
  | true =>
   cases h3 : clif k with
   | false => exact ⟨(0, 0, 0, 0, false), rfl, rfl⟩
   | true =>
    obtain ⟨_, _, _, h4⟩ := vP_iff.1 h1
    obtain ⟨_, _, _, _, d4⟩ := gate_dom h3 h2
    have hp : vP (n, 0, 0, p) = true := by
     rcases four d4 with rfl | rfl | rfl | rfl <;> exact vP_iff.2 ⟨by omega, by decide, by decide, h4⟩
    exact in_c h3 h2 x z FU 0 (n, 0, 0, p) (by omega) (by rw [FU_eq]; omega) hp rfl
end Go.Proofs.YtfjopjalhllplaaGreat
/- Plain law: TableauApplyGate. -/
namespace Go.Proofs.YtfjopjalhllplaaGreat
open Go.RowKit
set_option maxRecDepth 100000
set_option linter.unusedVariables false
set_option linter.unusedSimpArgs false
theorem tabg_loop (N : Int) (l : List Q4) (hl : l.length ≤ 1048576) (k a b c : Int) : ∀ (m j : Nat) (v : List Q4), j ≤ l.length → l.length - j < m → v.length = j →
  ∃ r, s_TableauApplyGate_l1 N l k a b c m j v = some r ∧ i_TableauApplyGate_l1 N l k a b c m (l.length : Int) j v = some r ∧ r.2.1.length ≤ l.length
 | 0, j, v, _, h, _ => by omega
 | m + 1, j, v, hj, h, hv => by
  rw [s_TableauApplyGate_l1, i_TableauApplyGate_l1]
  by_cases e : j = l.length
  ·have hlt : ¬ (j : Int) < (l.length : Int) := by omega
   simp only [hlt, decide_false, br_false]
   exact ⟨(N, v, true), rfl, rfl, by show v.length ≤ l.length; omega⟩
  ·have hjl : j < l.length := by omega
   have hlt : (j : Int) < (l.length : Int) := by omega
   obtain ⟨r, hs, hi⟩ := conj_eq l[j].1 l[j].2.1 l[j].2.2.1 l[j].2.2.2 k a b c
   have hg : v.length + [(r.1, r.2.1, r.2.2.1, r.2.2.2.1)].length ≤ 16777216 := by simp; omega
   simp only [hlt, decide_true, br_true, geti_lt hjl, bO_some, hs, hi, hg, gd_true, w64s hjl (by omega : l.length ≤ 4194304)]
   cases r.2.2.2.2 with
   | false => exact ⟨(0, [], false), rfl, rfl, by simp⟩
   | true => exact tabg_loop N l hl k a b c m (j + 1) _ (by omega) (by omega) (by simp; omega)
theorem tabg_eq (N : Int) (l : List Q4) (hl : l.length ≤ 1048576) (k a b c : Int) : ∃ r, s_TableauApplyGate N l k a b c = some r ∧ i_TableauApplyGate N l k a b c = some r ∧ r.2.1.length ≤ l.length := by
 unfold s_TableauApplyGate i_TableauApplyGate
 rw [s_tab N l hl, i_tab N l hl, bO_some, bO_some]
 cases tB N l with
 | false =>
  simp only [Bool.not_false, br_true]
  exact ⟨(0, [], false), rfl, rfl, by simp⟩
 | true =>
  simp only [Bool.not_true, br_false]
  exact tabg_loop N l hl k a b c FU 0 [] (by omega) (by rw [FU_eq]; omega) rfl
end Go.Proofs.YtfjopjalhllplaaGreat
/- Computations that end. -/
namespace Go.Proofs.YtfjopjalhllplaaGreat
open Go.RowKit
set_option maxRecDepth 100000
set_option linter.unusedVariables false
set_option linter.unusedSimpArgs false
def Ok {α : Type} (x : Option α) (Q : α → Prop) : Prop := ∃ r, x = some r ∧ Q r
section
variable {α β : Type} {Q : α → Prop} {R : β → Prop}
theorem Ok.bO {x : Option α} {f : α → Option β} (h : Ok x Q) (k : ∀ r, Q r → Ok (f r) R) : Ok (bO x f) R := by
 obtain ⟨r, rfl, hr⟩ := h
 exact k r hr
theorem Ok.br {b : Bool} {x y : Option β} (h1 : b = true → Ok x R) (h2 : b = false → Ok y R) : Ok (br b x y) R := by
 cases b with
 | true => exact h1 rfl
 | false => exact h2 rfl
theorem Ok.gd {b : Bool} {x : Option β} (h1 : b = true) (h2 : Ok x R) : Ok (gd b x) R := by rw [h1]; exact h2
theorem Ok.some {r : α} (h : Q r) : Ok (some r) Q := ⟨r, rfl, h⟩
theorem Ok.mono {Q' : α → Prop} {x : Option α} (h : Ok x Q) (k : ∀ r, Q r → Q' r) : Ok x Q' := by
 obtain ⟨r, h1, h2⟩ := h; exact ⟨r, h1, k r h2⟩
end
theorem geti_ok {α : Type} {l : List α} {i : Int} (h : 0 ≤ i ∧ i < l.length) : Ok (geti l i) (fun q => q ∈ l) := by
 obtain ⟨k, rfl⟩ : ∃ k : Nat, i = (k : Int) := ⟨i.toNat, by omega⟩
 exact ⟨l[k], geti_lt (by omega), List.getElem_mem _⟩
end Go.Proofs.YtfjopjalhllplaaGreat
