/- Joined texts: Pza Prc Pzb Pzc. -/
import Derived.Test.YtfjopjalhllplaaK6
import Derived.Test.YtfjopjalhllplaaK15
import Derived.Test.YtfjopjalhllplaaK8
/- Plain laws: the arithmetic of both sides is that of reduced numbers. -/
namespace Go.Proofs.Ytfjopjalhllplaa
open Go.RowKit
set_option maxRecDepth 100000
set_option linter.unusedVariables false
set_option linter.unusedSimpArgs false
theorem tm2 (x : Int) : (Int.tmod x 2 != 0) = !(x % 2 == 0) := by
 have h := Int.tmod_eq_emod (a := x) (b := 2)
 rw [Bool.eq_iff_iff]
 simp only [bne_iff_ne, ne_eq, Bool.not_eq_true', beq_eq_false_iff_ne]
 rw [h]
 split <;> omega
theorem td2 {x : Int} (h : x % 2 = 0) : Int.tdiv x 2 = x / 2 := by
 rw [Int.tdiv_eq_ediv_of_dvd (by omega)]
def dvF (x : Z4) : Int × Int × Int × Int × Bool := if vz x = true ∧ dvb x = true then ((dvh x).1, (dvh x).2.1, (dvh x).2.2.1, (dvh x).2.2.2, true) else (0, 0, 0, 0, false)
/-- What functions with a success flag give back. -/
def res (o : Option DQ) : Int × Int × Int × Int × Int × Bool := match o with
 | some z => (z.1, z.2.1, z.2.2.1, z.2.2.2.1, z.2.2.2.2, true)
 | none => (0, 0, 0, 0, 0, false)
def resz (o : Option Z4) : Int × Int × Int × Int × Bool := match o with
 | some z => (z.1, z.2.1, z.2.2.1, z.2.2.2, true)
 | none => (0, 0, 0, 0, false)
theorem wmm {p q r s : Int} (hp : -((1073741824 * 1073741824 : Nat) : Int) ≤ p ∧ p ≤ ((1073741824 * 1073741824 : Nat) : Int)) (hq : -((1073741824 * 1073741824 : Nat) : Int) ≤ q ∧ q ≤ ((1073741824 * 1073741824 : Nat) : Int)) (hr : -((1073741824 * 1073741824 : Nat) : Int) ≤ r ∧ r ≤ ((1073741824 * 1073741824 : Nat) : Int)) (hs : -((1073741824 * 1073741824 : Nat) : Int) ≤ s ∧ s ≤ ((1073741824 * 1073741824 : Nat) : Int)) :
  IntKind.wrap .i64 ((IntKind.wrap .i64 ((IntKind.wrap .i64 ((IntKind.wrap .i64 p) - (IntKind.wrap .i64 q))) - (IntKind.wrap .i64 r))) - (IntKind.wrap .i64 s)) = p - q - r - s := by
 rw [w64 (x := p) (by omega) (by omega), w64 (x := q) (by omega) (by omega), w64 (x := r) (by omega) (by omega), w64 (x := s) (by omega) (by omega), w64 (x := p - q) (by omega) (by omega), w64 (x := p - q - r) (by omega) (by omega), w64 (by omega) (by omega)]
theorem wpm1 {p q r s : Int} (hp : -((1073741824 * 1073741824 : Nat) : Int) ≤ p ∧ p ≤ ((1073741824 * 1073741824 : Nat) : Int)) (hq : -((1073741824 * 1073741824 : Nat) : Int) ≤ q ∧ q ≤ ((1073741824 * 1073741824 : Nat) : Int)) (hr : -((1073741824 * 1073741824 : Nat) : Int) ≤ r ∧ r ≤ ((1073741824 * 1073741824 : Nat) : Int)) (hs : -((1073741824 * 1073741824 : Nat) : Int) ≤ s ∧ s ≤ ((1073741824 * 1073741824 : Nat) : Int)) :
  IntKind.wrap .i64 ((IntKind.wrap .i64 ((IntKind.wrap .i64 ((IntKind.wrap .i64 p) + (IntKind.wrap .i64 q))) - (IntKind.wrap .i64 r))) - (IntKind.wrap .i64 s)) = p + q - r - s := by
 rw [w64 (x := p) (by omega) (by omega), w64 (x := q) (by omega) (by omega), w64 (x := r) (by omega) (by omega), w64 (x := s) (by omega) (by omega), w64 (x := p + q) (by omega) (by omega), w64 (x := p + q - r) (by omega) (by omega), w64 (by omega) (by omega)]
theorem wpm2 {p q r s : Int} (hp : -((1073741824 * 1073741824 : Nat) : Int) ≤ p ∧ p ≤ ((1073741824 * 1073741824 : Nat) : Int)) (hq : -((1073741824 * 1073741824 : Nat) : Int) ≤ q ∧ q ≤ ((1073741824 * 1073741824 : Nat) : Int)) (hr : -((1073741824 * 1073741824 : Nat) : Int) ≤ r ∧ r ≤ ((1073741824 * 1073741824 : Nat) : Int)) (hs : -((1073741824 * 1073741824 : Nat) : Int) ≤ s ∧ s ≤ ((1073741824 * 1073741824 : Nat) : Int)) :
  IntKind.wrap .i64 ((IntKind.wrap .i64 ((IntKind.wrap .i64 ((IntKind.wrap .i64 p) + (IntKind.wrap .i64 q))) + (IntKind.wrap .i64 r))) - (IntKind.wrap .i64 s)) = p + q + r - s := by
 rw [w64 (x := p) (by omega) (by omega), w64 (x := q) (by omega) (by omega), w64 (x := r) (by omega) (by omega), w64 (x := s) (by omega) (by omega), w64 (x := p + q) (by omega) (by omega), w64 (x := p + q + r) (by omega) (by omega), w64 (by omega) (by omega)]
theorem wpp {p q r s : Int} (hp : -((1073741824 * 1073741824 : Nat) : Int) ≤ p ∧ p ≤ ((1073741824 * 1073741824 : Nat) : Int)) (hq : -((1073741824 * 1073741824 : Nat) : Int) ≤ q ∧ q ≤ ((1073741824 * 1073741824 : Nat) : Int)) (hr : -((1073741824 * 1073741824 : Nat) : Int) ≤ r ∧ r ≤ ((1073741824 * 1073741824 : Nat) : Int)) (hs : -((1073741824 * 1073741824 : Nat) : Int) ≤ s ∧ s ≤ ((1073741824 * 1073741824 : Nat) : Int)) :
  IntKind.wrap .i64 ((IntKind.wrap .i64 ((IntKind.wrap .i64 ((IntKind.wrap .i64 p) + (IntKind.wrap .i64 q))) + (IntKind.wrap .i64 r))) + (IntKind.wrap .i64 s)) = p + q + r + s := by
 rw [w64 (x := p) (by omega) (by omega), w64 (x := q) (by omega) (by omega), w64 (x := r) (by omega) (by omega), w64 (x := s) (by omega) (by omega), w64 (x := p + q) (by omega) (by omega), w64 (x := p + q + r) (by omega) (by omega), w64 (by omega) (by omega)]
theorem i_zv (x : Z4) : i_IsValidZOmega x.1 x.2.1 x.2.2.1 x.2.2.2 = some (vz x) := by
 unfold i_IsValidZOmega i_IsValidZOmega_j1
 simp only [i_in_eq, bO_some, br_and]
 unfold vz
 simp only [Bool.and_assoc]
theorem i_dv (x : Z4) : i_DivSqrt2 x.1 x.2.1 x.2.2.1 x.2.2.2 = some (dvF x) := by
 unfold i_DivSqrt2
 rw [i_zv, bO_some]
 simp only [br_or, i_DivSqrt2_j1]
 cases hv : vz x with
 | false =>
  simp only [Bool.not_false, Bool.true_or, br_true]
  unfold dvF
  rw [if_neg (by rw [hv]; simp)]
 | true =>
  obtain ⟨b1, b2, b3, b4⟩ := (vz_iff x).1 hv
  rw [w64 (x := x.2.1 - x.2.2.2) (by omega) (by omega), w64 (x := x.1 + x.2.2.1) (by omega) (by omega), w64 (x := x.2.1 + x.2.2.2) (by omega) (by omega), w64 (x := x.2.2.1 - x.1) (by omega) (by omega)]
  simp only [Bool.not_true, Bool.false_or, tm2]
  have e : (((!((x.2.1 - x.2.2.2) % 2 == 0) || !((x.1 + x.2.2.1) % 2 == 0)) || !((x.2.1 + x.2.2.2) % 2 == 0)) || !((x.2.2.1 - x.1) % 2 == 0)) = !(dvb x) := by
   unfold dvb ev4 rt
   simp only [Bool.not_and, Bool.or_assoc]
  rw [e]
  unfold dvF
  cases hd : dvb x with
  | false => simp only [Bool.not_false, br_true]; rw [if_neg (by simp)]
  | true =>
   simp only [Bool.not_true, br_false]
   rw [if_pos ⟨hv, by trivial⟩]
   unfold dvb at hd
   rw [ev4_iff] at hd
   obtain ⟨d1, d2, d3, d4⟩ := hd
   unfold rt at d1 d2 d3 d4
   simp only at d1 d2 d3 d4
   rw [td2 d1, td2 d2, td2 d3, td2 d4, w64 (x := (x.2.1 - x.2.2.2) / 2) (by omega) (by omega), w64 (x := (x.1 + x.2.2.1) / 2) (by omega) (by omega), w64 (x := (x.2.1 + x.2.2.2) / 2) (by omega) (by omega), w64 (x := (x.2.2.1 - x.1) / 2) (by omega) (by omega)]
   rfl
theorem i_vd (x : DQ) : i_IsValidDOmega x.1 x.2.1 x.2.2.1 x.2.2.2.1 x.2.2.2.2 = some (vd x) := by
 unfold i_IsValidDOmega i_IsValidDOmega_j1
 have h1 := i_dv (znm x)
 have h2 := i_zv (znm x)
 unfold znm at h1 h2
 simp only at h1 h2
 rw [h1, bO_some, h2, bO_some]
 simp only [i_in_eq, bO_some, br_and, br_or]
 have e : (dvF (x.1, x.2.1, x.2.2.1, x.2.2.2.1)).2.2.2.2 = (vz (x.1, x.2.1, x.2.2.1, x.2.2.2.1) && dvb (x.1, x.2.1, x.2.2.1, x.2.2.2.1)) := by
  unfold dvF
  cases vz (x.1, x.2.1, x.2.2.1, x.2.2.2.1) <;> cases dvb (x.1, x.2.1, x.2.2.1, x.2.2.2.1) <;> rfl
 rw [e]
 unfold vd znm zex
 cases vz (x.1, x.2.1, x.2.2.1, x.2.2.2.1) <;> cases dvb (x.1, x.2.1, x.2.2.1, x.2.2.2.1) <;> cases (x.2.2.2.2 == 0) <;> cases decide (0 ≤ x.2.2.2.2 ∧ x.2.2.2.2 ≤ 60) <;> rfl
theorem i_new_loop : ∀ (m k : Nat) (n : Z4), vz n = true → k < m → k ≤ 120 → i_NewDOmega_l1 m k n.1 n.2.1 n.2.2.1 n.2.2.2 = i_NewDOmega_j2 ((nd k n).2 : Int) (nd k n).1.1 (nd k n).1.2.1 (nd k n).1.2.2.1 (nd k n).1.2.2.2
 | 0, k, n, _, h, _ => by omega
 | m + 1, 0, n, hv, h, _ => by
  rw [i_NewDOmega_l1]
  rfl
 | m + 1, k + 1, n, hv, h, hk => by
  rw [i_NewDOmega_l1]
  have hlt : decide (0 < ((k + 1 : Nat) : Int)) = true := decide_eq_true (by omega)
  rw [hlt, br_true, i_dv, bO_some]
  cases hd : dvb n with
  | false =>
   have e1 : dvF n = (0, 0, 0, 0, false) := by unfold dvF; rw [if_neg (by rw [hd]; simp)]
   have e2 : nd (k + 1) n = (n, k + 1) := by unfold nd; rw [hd]; rfl
   rw [e1, e2]
   rfl
  | true =>
   have e1 : dvF n = ((dvh n).1, (dvh n).2.1, (dvh n).2.2.1, (dvh n).2.2.2, true) := by unfold dvF; rw [if_pos ⟨hv, hd⟩]
   have e2 : nd (k + 1) n = nd k (dvh n) := by rw [nd, if_pos hd]
   have hw : IntKind.wrap .i64 (((k + 1 : Nat) : Int) - 1) = (k : Int) := by rw [w64 (by omega) (by omega)]; omega
   rw [e1, e2]
   simp only [Bool.not_true, br_false, hw]
   exact i_new_loop m k (dvh n) ((vz_iff _).2 (bd_dv hd ((vz_iff n).1 hv))) (by omega) (by omega)
theorem i_new (n : Z4) (k : Int) (hk : 0 ≤ k ∧ k ≤ 120) : i_NewDOmega n.1 n.2.1 n.2.2.1 n.2.2.2 k = some (res (newF n k.toNat)) := by
 unfold i_NewDOmega
 rw [i_zv, bO_some]
 have hin : decide (0 ≤ k ∧ k ≤ 120) = true := decide_eq_true hk
 simp only [i_in_eq, bO_some, br_or, hin, Bool.not_true, Bool.or_false, i_NewDOmega_j1]
 cases hv : vz n with
 | false =>
  simp only [Bool.not_false, br_true]
  unfold newF
  rw [if_neg (by rw [hv]; simp)]
  rfl
 | true =>
  simp only [Bool.not_true, br_false]
  have e : ((k.toNat : Nat) : Int) = k := by omega
  have := i_new_loop FU k.toNat n hv (by rw [FU_eq]; omega) (by omega)
  rw [e] at this
  rw [this]
  unfold i_NewDOmega_j2 newF
  by_cases h60 : (nd k.toNat n).2 ≤ 60
  ·have : decide (60 < ((nd k.toNat n).2 : Int)) = false := decide_eq_false (by omega)
   rw [this, br_false, if_pos ⟨hv, h60⟩]
   rfl
  ·have : decide (60 < ((nd k.toNat n).2 : Int)) = true := decide_eq_true (by omega)
   rw [this, br_true, if_neg (fun h => h60 h.2)]
   rfl
theorem i_mulz (x y : Z4) : i_MulZOmega x.1 x.2.1 x.2.2.1 x.2.2.2 y.1 y.2.1 y.2.2.1 y.2.2.2 = some (resz (if vz x = true ∧ vz y = true ∧ vz (mlz x y) = true then some (mlz x y) else none)) := by
 unfold i_MulZOmega
 rw [i_zv, bO_some]
 simp only [i_zv, bO_some, br_or, i_MulZOmega_j1]
 by_cases hxy : vz x = true ∧ vz y = true
 ·obtain ⟨hx, hy⟩ := hxy
  obtain ⟨x1, x2, x3, x4⟩ := (vz_iff x).1 hx
  obtain ⟨y1, y2, y3, y4⟩ := (vz_iff y).1 hy
  have a1 := mul_bd (M := 1073741824) (L := 1073741824) x1 y1; have a2 := mul_bd (M := 1073741824) (L := 1073741824) x1 y2; have a3 := mul_bd (M := 1073741824) (L := 1073741824) x1 y3; have a4 := mul_bd (M := 1073741824) (L := 1073741824) x1 y4
  have b1 := mul_bd (M := 1073741824) (L := 1073741824) x2 y1; have b2 := mul_bd (M := 1073741824) (L := 1073741824) x2 y2; have b3 := mul_bd (M := 1073741824) (L := 1073741824) x2 y3; have b4 := mul_bd (M := 1073741824) (L := 1073741824) x2 y4
  have c1 := mul_bd (M := 1073741824) (L := 1073741824) x3 y1; have c2 := mul_bd (M := 1073741824) (L := 1073741824) x3 y2; have c3 := mul_bd (M := 1073741824) (L := 1073741824) x3 y3; have c4 := mul_bd (M := 1073741824) (L := 1073741824) x3 y4
  have d1 := mul_bd (M := 1073741824) (L := 1073741824) x4 y1; have d2 := mul_bd (M := 1073741824) (L := 1073741824) x4 y2; have d3 := mul_bd (M := 1073741824) (L := 1073741824) x4 y3; have d4 := mul_bd (M := 1073741824) (L := 1073741824) x4 y4
  rw [wmm a1 b4 c3 d2, wpm1 a2 b1 c4 d3, wpm2 a3 b2 c1 d4, wpp a4 b3 c2 d1, hx, hy]
  simp only [Bool.not_true, Bool.or_self, br_false]
  unfold i_checked
  have hc := i_zv (mlz x y)
  unfold mlz at hc
  simp only at hc
  rw [hc, bO_some]
  have e : vz (mlz x y) = vz (x.1 * y.1 - x.2.1 * y.2.2.2 - x.2.2.1 * y.2.2.1 - x.2.2.2 * y.2.1, x.1 * y.2.1 + x.2.1 * y.1 - x.2.2.1 * y.2.2.2 - x.2.2.2 * y.2.2.1, x.1 * y.2.2.1 + x.2.1 * y.2.1 + x.2.2.1 * y.1 - x.2.2.2 * y.2.2.2, x.1 * y.2.2.2 + x.2.1 * y.2.2.1 + x.2.2.1 * y.2.1 + x.2.2.2 * y.1) := rfl
  rw [← e]
  cases hm : vz (mlz x y) with
  | false =>
   rw [if_neg (by rintro ⟨_, _, h⟩; cases h)]
   rfl
  | true =>
   rw [if_pos ⟨by trivial, by trivial, by trivial⟩]
   rfl
 ·rw [if_neg (fun h => hxy ⟨h.1, h.2.1⟩)]
  have : (!vz x || !vz y) = true := by
   cases hx : vz x with
   | false => rfl
   | true => cases hy : vz y with
    | false => rfl
    | true => exact absurd ⟨hx, hy⟩ hxy
  rw [this]
  rfl
theorem s_zv (x : Z4) : s_IsValidZOmega x.1 x.2.1 x.2.2.1 x.2.2.2 = some (vz x) := by
 unfold s_IsValidZOmega s_IsValidZOmega_j1 s_l2Near
 simp only [s_in_eq, bO_some, br_and]
 unfold vz
 simp only [Bool.and_assoc]
theorem s_dv (x : Z4) : s_DivSqrt2 x.1 x.2.1 x.2.2.1 x.2.2.2 = some (dvF x) := by
 unfold s_DivSqrt2
 rw [s_zv, bO_some]
 simp only [br_or, s_DivSqrt2_j1]
 cases hv : vz x with
 | false =>
  simp only [Bool.not_false, br_true]
  unfold dvF
  rw [if_neg (by rw [hv]; simp)]
 | true =>
  obtain ⟨b1, b2, b3, b4⟩ := (vz_iff x).1 hv
  rw [w64 (x := x.2.1 - x.2.2.2) (by omega) (by omega), w64 (x := x.1 + x.2.2.1) (by omega) (by omega), w64 (x := x.2.1 + x.2.2.2) (by omega) (by omega), w64 (x := x.2.2.1 - x.1) (by omega) (by omega)]
  simp only [Bool.not_true, br_false, tm2]
  have e : (((!((x.2.1 - x.2.2.2) % 2 == 0) || !((x.1 + x.2.2.1) % 2 == 0)) || !((x.2.1 + x.2.2.2) % 2 == 0)) || !((x.2.2.1 - x.1) % 2 == 0)) = !(dvb x) := by
   unfold dvb ev4 rt
   simp only [Bool.not_and, Bool.or_assoc]
  rw [e]
  unfold dvF
  cases hd : dvb x with
  | false => simp only [Bool.not_false, br_true]; rw [if_neg (by simp)]
  | true =>
   simp only [Bool.not_true, br_false]
   rw [if_pos ⟨hv, by trivial⟩]
   unfold dvb at hd
   rw [ev4_iff] at hd
   obtain ⟨d1, d2, d3, d4⟩ := hd
   unfold rt at d1 d2 d3 d4
   simp only at d1 d2 d3 d4
   rw [td2 d1, td2 d2, td2 d3, td2 d4, w64 (x := (x.2.1 - x.2.2.2) / 2) (by omega) (by omega), w64 (x := (x.1 + x.2.2.1) / 2) (by omega) (by omega), w64 (x := (x.2.1 + x.2.2.2) / 2) (by omega) (by omega), w64 (x := (x.2.2.1 - x.1) / 2) (by omega) (by omega)]
   rfl
theorem s_vd (x : DQ) : s_IsValidDOmega x.1 x.2.1 x.2.2.1 x.2.2.2.1 x.2.2.2.2 = some (vd x) := by
 unfold s_IsValidDOmega s_IsValidDOmega_j1
 have h1 := s_dv (znm x)
 have h2 := s_zv (znm x)
 unfold znm at h1 h2
 simp only at h1 h2
 rw [h1, bO_some, h2, bO_some]
 simp only [s_in_eq, bO_some, br_and, br_or]
 have e : (dvF (x.1, x.2.1, x.2.2.1, x.2.2.2.1)).2.2.2.2 = (vz (x.1, x.2.1, x.2.2.1, x.2.2.2.1) && dvb (x.1, x.2.1, x.2.2.1, x.2.2.2.1)) := by
  unfold dvF
  cases vz (x.1, x.2.1, x.2.2.1, x.2.2.2.1) <;> cases dvb (x.1, x.2.1, x.2.2.1, x.2.2.2.1) <;> rfl
 rw [e]
 unfold vd znm zex
 cases vz (x.1, x.2.1, x.2.2.1, x.2.2.2.1) <;> cases dvb (x.1, x.2.1, x.2.2.1, x.2.2.2.1) <;> cases (x.2.2.2.2 == 0) <;> cases decide (0 ≤ x.2.2.2.2 ∧ x.2.2.2.2 ≤ 60) <;> rfl
theorem s_new_loop : ∀ (m k : Nat) (n : Z4), vz n = true → k < m → k ≤ 120 → s_NewDOmega_l1 m k n.1 n.2.1 n.2.2.1 n.2.2.2 = s_NewDOmega_j2 ((nd k n).2 : Int) (nd k n).1.1 (nd k n).1.2.1 (nd k n).1.2.2.1 (nd k n).1.2.2.2
 | 0, k, n, _, h, _ => by omega
 | m + 1, 0, n, hv, h, _ => by
  rw [s_NewDOmega_l1]
  rfl
 | m + 1, k + 1, n, hv, h, hk => by
  rw [s_NewDOmega_l1]
  have hlt : decide (0 < ((k + 1 : Nat) : Int)) = true := decide_eq_true (by omega)
  rw [hlt, br_true, s_dv, bO_some]
  cases hd : dvb n with
  | false =>
   have e1 : dvF n = (0, 0, 0, 0, false) := by unfold dvF; rw [if_neg (by rw [hd]; simp)]
   have e2 : nd (k + 1) n = (n, k + 1) := by unfold nd; rw [hd]; rfl
   rw [e1, e2]
   rfl
  | true =>
   have e1 : dvF n = ((dvh n).1, (dvh n).2.1, (dvh n).2.2.1, (dvh n).2.2.2, true) := by unfold dvF; rw [if_pos ⟨hv, hd⟩]
   have e2 : nd (k + 1) n = nd k (dvh n) := by rw [nd, if_pos hd]
   have hw : IntKind.wrap .i64 (((k + 1 : Nat) : Int) - 1) = (k : Int) := by rw [w64 (by omega) (by omega)]; omega
   rw [e1, e2]
   simp only [Bool.not_true, br_false, hw]
   exact s_new_loop m k (dvh n) ((vz_iff _).2 (bd_dv hd ((vz_iff n).1 hv))) (by omega) (by omega)
theorem s_new (n : Z4) (k : Int) (hk : 0 ≤ k ∧ k ≤ 120) : s_NewDOmega n.1 n.2.1 n.2.2.1 n.2.2.2 k = some (res (newF n k.toNat)) := by
 unfold s_NewDOmega
 rw [s_zv, bO_some]
 have hin : decide (0 ≤ k ∧ k ≤ 120) = true := decide_eq_true hk
 simp only [s_in_eq, bO_some, br_or, hin, Bool.not_true, Bool.or_false, s_NewDOmega_j1]
 cases hv : vz n with
 | false =>
  simp only [Bool.not_false, br_true]
  unfold newF
  rw [if_neg (by rw [hv]; simp)]
  rfl
 | true =>
  simp only [Bool.not_true, br_false]
  have e : ((k.toNat : Nat) : Int) = k := by omega
  have := s_new_loop FU k.toNat n hv (by rw [FU_eq]; omega) (by omega)
  rw [e] at this
  rw [this]
  unfold s_NewDOmega_j2 newF
  by_cases h60 : (nd k.toNat n).2 ≤ 60
  ·have : decide (60 < ((nd k.toNat n).2 : Int)) = false := decide_eq_false (by omega)
   rw [this, br_false, if_pos ⟨hv, h60⟩]
   rfl
  ·have : decide (60 < ((nd k.toNat n).2 : Int)) = true := decide_eq_true (by omega)
   rw [this, br_true, if_neg (fun h => h60 h.2)]
   rfl
theorem s_mulz (x y : Z4) : s_MulZOmega x.1 x.2.1 x.2.2.1 x.2.2.2 y.1 y.2.1 y.2.2.1 y.2.2.2 = some (resz (if vz x = true ∧ vz y = true ∧ vz (mlz x y) = true then some (mlz x y) else none)) := by
 unfold s_MulZOmega
 rw [s_zv, bO_some]
 simp only [s_zv, bO_some, br_or, s_MulZOmega_j1]
 by_cases hxy : vz x = true ∧ vz y = true
 ·obtain ⟨hx, hy⟩ := hxy
  obtain ⟨x1, x2, x3, x4⟩ := (vz_iff x).1 hx
  obtain ⟨y1, y2, y3, y4⟩ := (vz_iff y).1 hy
  have a1 := mul_bd (M := 1073741824) (L := 1073741824) x1 y1; have a2 := mul_bd (M := 1073741824) (L := 1073741824) x1 y2; have a3 := mul_bd (M := 1073741824) (L := 1073741824) x1 y3; have a4 := mul_bd (M := 1073741824) (L := 1073741824) x1 y4
  have b1 := mul_bd (M := 1073741824) (L := 1073741824) x2 y1; have b2 := mul_bd (M := 1073741824) (L := 1073741824) x2 y2; have b3 := mul_bd (M := 1073741824) (L := 1073741824) x2 y3; have b4 := mul_bd (M := 1073741824) (L := 1073741824) x2 y4
  have c1 := mul_bd (M := 1073741824) (L := 1073741824) x3 y1; have c2 := mul_bd (M := 1073741824) (L := 1073741824) x3 y2; have c3 := mul_bd (M := 1073741824) (L := 1073741824) x3 y3; have c4 := mul_bd (M := 1073741824) (L := 1073741824) x3 y4
  have d1 := mul_bd (M := 1073741824) (L := 1073741824) x4 y1; have d2 := mul_bd (M := 1073741824) (L := 1073741824) x4 y2; have d3 := mul_bd (M := 1073741824) (L := 1073741824) x4 y3; have d4 := mul_bd (M := 1073741824) (L := 1073741824) x4 y4
  rw [wmm a1 b4 c3 d2, wpm1 a2 b1 c4 d3, wpm2 a3 b2 c1 d4, wpp a4 b3 c2 d1, hx, hy]
  simp only [Bool.not_true, Bool.or_self, br_false]
  unfold s_l2If
  have hc := s_zv (mlz x y)
  unfold mlz at hc
  simp only at hc
  rw [hc, bO_some]
  have e : vz (mlz x y) = vz (x.1 * y.1 - x.2.1 * y.2.2.2 - x.2.2.1 * y.2.2.1 - x.2.2.2 * y.2.1, x.1 * y.2.1 + x.2.1 * y.1 - x.2.2.1 * y.2.2.2 - x.2.2.2 * y.2.2.1, x.1 * y.2.2.1 + x.2.1 * y.2.1 + x.2.2.1 * y.1 - x.2.2.2 * y.2.2.2, x.1 * y.2.2.2 + x.2.1 * y.2.2.1 + x.2.2.1 * y.2.1 + x.2.2.2 * y.1) := rfl
  rw [← e]
  cases hm : vz (mlz x y) with
  | false =>
   rw [if_neg (by rintro ⟨_, _, h⟩; cases h)]
   rfl
  | true =>
   rw [if_pos ⟨by trivial, by trivial, by trivial⟩]
   rfl
 ·rw [if_neg (fun h => hxy ⟨h.1, h.2.1⟩)]
  have : (!vz x || !vz y) = true := by
   cases hx : vz x with
   | false => rfl
   | true => cases hy : vz y with
    | false => rfl
    | true => exact absurd ⟨hx, hy⟩ hxy
  rw [this]
  rfl
theorem s_addz (x y : Z4) : s_AddZOmega x.1 x.2.1 x.2.2.1 x.2.2.2 y.1 y.2.1 y.2.2.1 y.2.2.2 = some (resz (if vz x = true ∧ vz y = true ∧ vz (adz x y) = true then some (adz x y) else none)) := by
 unfold s_AddZOmega
 rw [s_zv, bO_some]
 simp only [s_zv, bO_some, br_or, s_AddZOmega_j1]
 by_cases hxy : vz x = true ∧ vz y = true
 ·obtain ⟨hx, hy⟩ := hxy
  obtain ⟨x1, x2, x3, x4⟩ := (vz_iff x).1 hx
  obtain ⟨y1, y2, y3, y4⟩ := (vz_iff y).1 hy
  rw [w64 (x := x.1 + y.1) (by omega) (by omega), w64 (x := x.2.1 + y.2.1) (by omega) (by omega), w64 (x := x.2.2.1 + y.2.2.1) (by omega) (by omega), w64 (x := x.2.2.2 + y.2.2.2) (by omega) (by omega), hx, hy]
  simp only [Bool.not_true, Bool.or_self, br_false]
  unfold s_l2If
  have hc := s_zv (adz x y)
  have e : vz (adz x y) = vz (x.1 + y.1, x.2.1 + y.2.1, x.2.2.1 + y.2.2.1, x.2.2.2 + y.2.2.2) := rfl
  unfold adz at hc
  simp only at hc
  rw [hc, bO_some, ← e]
  cases hm : vz (adz x y) with
  | false =>
   rw [if_neg (by rintro ⟨_, _, h⟩; cases h)]
   rfl
  | true =>
   rw [if_pos ⟨by trivial, by trivial, by trivial⟩]
   rfl
 ·rw [if_neg (fun h => hxy ⟨h.1, h.2.1⟩)]
  have : (!vz x || !vz y) = true := by
   cases hx : vz x with
   | false => rfl
   | true => cases hy : vz y with
    | false => rfl
    | true => exact absurd ⟨hx, hy⟩ hxy
  rw [this]
  rfl
theorem mlz_rt (x : Z4) : mlz x (0, 1, 0, -1) = rt x := by unfold mlz rt; apply z_ext <;> simp only <;> omega
theorem rtn_s (k : Nat) (x : Z4) : rtn (k + 1) x = rtn k (rt x) := by rw [show rtn (k + 1) x = rt (rtn k x) from rfl]; exact rtn_swap 1 k x
theorem rt_vz {k : Nat} {x : Z4} (h : vz (rt x) = false) : vz (rtn (k + 1) x) = false := by
 rw [Bool.eq_false_iff]
 intro e
 rw [rtn_s] at e
 have := (vz_iff _).2 (rtn_bd k ((vz_iff _).1 e))
 rw [h] at this
 cases this
/-- n raised by k roots, if it stays small. -/
def upz (n : Z4) (k : Nat) : Option Z4 := if vz (rtn k n) = true then some (rtn k n) else none
theorem s_up_loop (t : Nat) : ∀ (m i : Nat) (n : Z4), i ≤ t → t - i < m → t ≤ 1000 → vz n = true → s_l3Up_l1 (t : Int) m i n.1 n.2.1 n.2.2.1 n.2.2.2 = some (resz (upz n (t - i)))
 | 0, i, n, _, h, _, _ => by omega
 | m + 1, i, n, hi, h, ht, hv => by
  rw [s_l3Up_l1]
  by_cases e : i = t
  ·have hlt : decide ((i : Int) < (t : Int)) = false := decide_eq_false (by omega)
   rw [hlt, br_false, e, Nat.sub_self]
   unfold upz
   rw [if_pos (show vz (rtn 0 n) = true from hv)]
   rfl
  ·have hlt : decide ((i : Int) < (t : Int)) = true := decide_eq_true (by omega)
   have hm := s_mulz n (0, 1, 0, -1)
   simp only at hm
   rw [hlt, br_true, hm, bO_some, mlz_rt, w64 (by omega) (by omega), show (i : Int) + 1 = ((i + 1 : Nat) : Int) by omega]
   have hs : t - i = (t - (i + 1)) + 1 := by omega
   have h01 : vz (0, 1, 0, -1) = true := by decide
   cases hr : vz (rt n) with
   | false =>
    rw [if_neg (by rintro ⟨_, _, h⟩; cases h), hs]
    unfold upz
    rw [if_neg (by rw [rt_vz hr]; simp)]
    rfl
   | true =>
    rw [if_pos ⟨hv, h01, by trivial⟩]
    simp only [resz, Bool.not_true, br_false]
    rw [s_up_loop t m (i + 1) (rt n) (by omega) (by omega) ht hr, hs]
    unfold upz
    rw [rtn_s]
    rfl
theorem s_up (n : Z4) (t : Nat) (ht : t ≤ 1000) (hv : vz n = true) : s_l3Up n.1 n.2.1 n.2.2.1 n.2.2.2 (t : Int) = some (resz (upz n t)) := by
 unfold s_l3Up
 have := s_up_loop t FU 0 n (by omega) (by rw [FU_eq]; omega) ht hv
 rw [Nat.sub_zero] at this
 exact this
theorem zex_n {x : DQ} (h : vd x = true) : x.2.2.2.2 = (zexn x : Int) ∧ zexn x ≤ 60 := by
 obtain ⟨_, h2, _⟩ := (vd_iff x).1 h
 unfold zexn
 unfold zex at *
 omega
theorem s_max (a b : Int) : s_l1Max a b = some (max a b) := by
 unfold s_l1Max
 by_cases h : b < a
 ·rw [decide_eq_true h, br_true, Int.max_eq_left (by omega)]
 ·rw [decide_eq_false h, br_false, Int.max_eq_right (by omega)]
theorem s_add (x y : DQ) : s_AddDOmega x.1 x.2.1 x.2.2.1 x.2.2.2.1 x.2.2.2.2 y.1 y.2.1 y.2.2.1 y.2.2.2.1 y.2.2.2.2 = some (res (if vd x = true ∧ vd y = true then addF x y else none)) := by
 unfold s_AddDOmega
 rw [s_vd, bO_some]
 simp only [s_vd, bO_some, br_or, s_AddDOmega_j1]
 by_cases hxy : vd x = true ∧ vd y = true
 ·rw [if_pos hxy]
  obtain ⟨hx, hy⟩ := hxy
  obtain ⟨ex1, ex2⟩ := zex_n hx
  obtain ⟨ey1, ey2⟩ := zex_n hy
  rw [hx, hy, ex1, ey1]
  simp only [Bool.not_true, Bool.or_self, br_false, s_max, bO_some]
  have hm : max (zexn x : Int) (zexn y : Int) = ((max (zexn x) (zexn y) : Nat) : Int) := by omega
  have hK : max (zexn x) (zexn y) ≤ 60 := Nat.max_le.2 ⟨ex2, ey2⟩
  have hKx : zexn x ≤ max (zexn x) (zexn y) := Nat.le_max_left ..
  have hKy : zexn y ≤ max (zexn x) (zexn y) := Nat.le_max_right ..
  rw [hm]
  unfold addF
  simp only
  generalize max (zexn x) (zexn y) = K at *
  have u1 := s_up (znm x) (K - zexn x) (by omega) ((vd_iff x).1 hx).1
  have u2 := s_up (znm y) (K - zexn y) (by omega) ((vd_iff y).1 hy).1
  unfold znm at u1 u2
  simp only at u1 u2
  rw [w64 (x := (K : Int) - (zexn x : Int)) (by omega) (by omega), w64 (x := (K : Int) - (zexn y : Int)) (by omega) (by omega), show (K : Int) - (zexn x : Int) = ((K - zexn x : Nat) : Int) by omega, show (K : Int) - (zexn y : Int) = ((K - zexn y : Nat) : Int) by omega, u1, bO_some, u2, bO_some]
  have f1 : upz (x.1, x.2.1, x.2.2.1, x.2.2.2.1) (K - zexn x) = if vz (upF x K) = true then some (upF x K) else none := rfl
  have f2 : upz (y.1, y.2.1, y.2.2.1, y.2.2.2.1) (K - zexn y) = if vz (upF y K) = true then some (upF y K) else none := rfl
  rw [f1, f2]
  generalize upF x K = a
  generalize upF y K = b
  have hz0 : vz (0, 0, 0, 0) = true := by decide
  have key : ∀ (p q : Z4) (b1 b2 : Bool), (b1 && b2) = false → bO (s_AddZOmega p.1 p.2.1 p.2.2.1 p.2.2.2 q.1 q.2.1 q.2.2.1 q.2.2.2) (fun x8 => s_AddDOmega_j2 (K : Int) x8 ((!b1 || !b2) || !x8.2.2.2.2)) = some (0, 0, 0, 0, 0, false) := by
   intro p q b1 b2 hb
   rw [s_addz, bO_some]
   have : (!b1 || !b2) = true := by cases b1 <;> cases b2 <;> first | rfl | cases hb
   rw [this, Bool.true_or]
   rfl
  cases ha : vz a with
  | false =>
   simp only [Bool.false_eq_true, false_and, if_false]
   cases hb : vz b with
   | false => exact key (0, 0, 0, 0) (0, 0, 0, 0) false false rfl
   | true => exact key (0, 0, 0, 0) b false true rfl
  | true =>
   cases hb : vz b with
   | false =>
    simp only [Bool.false_eq_true, and_false, false_and, if_false]
    exact key a (0, 0, 0, 0) true false rfl
   | true =>
    simp only [if_true, resz, true_and, Bool.not_true, Bool.or_self, Bool.false_or]
    rw [s_addz, bO_some, ha, hb]
    simp only [true_and]
    unfold s_AddDOmega_j2
    cases hs : vz (adz a b) with
    | false =>
     simp only [Bool.false_eq_true, if_false, resz, Bool.not_false, br_true]
     rfl
    | true =>
     simp only [if_true, resz, Bool.not_true, br_false]
     have hn := s_new (adz a b) (K : Int) (by omega)
     rw [hn, bO_some]
     rfl
 ·rw [if_neg hxy]
  have : (!vd x || !vd y) = true := by
   cases hx : vd x with
   | false => rfl
   | true => cases hy : vd y with
    | false => rfl
    | true => exact absurd ⟨hx, hy⟩ hxy
  rw [this]
  rfl
theorem i_mul' (x y : DQ) : i_MulDOmega x.1 x.2.1 x.2.2.1 x.2.2.2.1 x.2.2.2.2 y.1 y.2.1 y.2.2.1 y.2.2.2.1 y.2.2.2.2 = some (res (if vd x = true ∧ vd y = true then mulF x y else none)) := by
 unfold i_MulDOmega
 rw [i_vd, bO_some]
 simp only [i_vd, bO_some, br_or, i_MulDOmega_j1]
 by_cases hxy : vd x = true ∧ vd y = true
 ·rw [if_pos hxy]
  obtain ⟨hx, hy⟩ := hxy
  obtain ⟨ex1, ex2⟩ := zex_n hx
  obtain ⟨ey1, ey2⟩ := zex_n hy
  rw [hx, hy]
  simp only [Bool.not_true, Bool.or_self, br_false]
  have hm := i_mulz (znm x) (znm y)
  rw [((vd_iff x).1 hx).1, ((vd_iff y).1 hy).1] at hm
  simp only [true_and] at hm
  unfold mulF
  have e1 : i_MulZOmega x.1 x.2.1 x.2.2.1 x.2.2.2.1 y.1 y.2.1 y.2.2.1 y.2.2.2.1 = _ := hm
  rw [e1, bO_some]
  cases hs : vz (mlz (znm x) (znm y)) with
  | false =>
   simp only [Bool.false_eq_true, if_false, resz, Bool.not_false, br_true]
   rfl
  | true =>
   simp only [if_true, resz, Bool.not_true, br_false]
   have hn := i_new (mlz (znm x) (znm y)) ((zexn x + zexn y : Nat) : Int) (by omega)
   rw [Int.toNat_natCast] at hn
   rw [ex1, ey1, w64 (by omega) (by omega), show (zexn x : Int) + (zexn y : Int) = ((zexn x + zexn y : Nat) : Int) by omega, hn, bO_some]
 ·rw [if_neg hxy]
  have : (!vd x || !vd y) = true := by
   cases hx : vd x with
   | false => rfl
   | true => cases hy : vd y with
    | false => rfl
    | true => exact absurd ⟨hx, hy⟩ hxy
  rw [this]
  rfl
theorem s_mul' (x y : DQ) : s_MulDOmega x.1 x.2.1 x.2.2.1 x.2.2.2.1 x.2.2.2.2 y.1 y.2.1 y.2.2.1 y.2.2.2.1 y.2.2.2.2 = some (res (if vd x = true ∧ vd y = true then mulF x y else none)) := by
 unfold s_MulDOmega
 have hm := s_mulz (znm x) (znm y)
 have e1 : s_MulZOmega x.1 x.2.1 x.2.2.1 x.2.2.2.1 y.1 y.2.1 y.2.2.1 y.2.2.2.1 = _ := hm
 rw [e1, bO_some, s_vd, bO_some]
 simp only [s_vd, bO_some, br_or, s_MulDOmega_j1]
 by_cases hxy : vd x = true ∧ vd y = true
 ·rw [if_pos hxy]
  obtain ⟨hx, hy⟩ := hxy
  obtain ⟨ex1, ex2⟩ := zex_n hx
  obtain ⟨ey1, ey2⟩ := zex_n hy
  rw [hx, hy, ((vd_iff x).1 hx).1, ((vd_iff y).1 hy).1]
  simp only [Bool.not_true, Bool.or_self, Bool.false_or, true_and]
  unfold mulF
  cases hs : vz (mlz (znm x) (znm y)) with
  | false =>
   simp only [Bool.false_eq_true, if_false, resz, Bool.not_false, br_true]
   rfl
  | true =>
   simp only [if_true, resz, Bool.not_true, br_false]
   have hn := s_new (mlz (znm x) (znm y)) ((zexn x + zexn y : Nat) : Int) (by omega)
   rw [Int.toNat_natCast] at hn
   rw [ex1, ey1, w64 (by omega) (by omega), show (zexn x : Int) + (zexn y : Int) = ((zexn x + zexn y : Nat) : Int) by omega, hn, bO_some]
 ·rw [if_neg hxy]
  have : (!vd x || !vd y) = true := by
   cases hx : vd x with
   | false => rfl
   | true => cases hy : vd y with
    | false => rfl
    | true => exact absurd ⟨hx, hy⟩ hxy
  rw [this, Bool.true_or]
  rfl
end Go.Proofs.Ytfjopjalhllplaa
/- Plain laws: matrices of Pauli operators: what they do to a state, and their products. -/
namespace Go.Proofs.Ytfjopjalhllplaa
open Go.RowKit
set_option maxRecDepth 100000
set_option linter.unusedVariables false
set_option linter.unusedSimpArgs false
end Go.Proofs.Ytfjopjalhllplaa
/- Plain laws: states, matrices and sums of products of both sides. -/
namespace Go.Proofs.Ytfjopjalhllplaa
open Go.RowKit
set_option maxRecDepth 100000
set_option linter.unusedVariables false
set_option linter.unusedSimpArgs false
/-- A valid state. -/
def qcF (n : Nat) : Int := if n = 2 then 1 else if n = 4 then 2 else if n = 8 then 3 else if n = 16 then 4 else 0
def stB (v : List DQ) : Bool := v.all vd && decide (0 < qcF v.length)
def gBv {α : Type} (f : α → Bool) (v : List α) (k : Nat) : Bool := match v[k]? with
 | some q => f q
 | none => false
theorem gBv_eq {α : Type} (f : α → Bool) {v : List α} {k : Nat} (h : k < v.length) : gBv f v k = f v[k] := by unfold gBv; rw [List.getElem?_eq_getElem h]
theorem all_get {α : Type} (v : List α) (f : α → Bool) : (List.range v.length).all (gBv f v) = v.all f := by
 rw [Bool.eq_iff_iff, List.all_eq_true, List.all_eq_true]
 constructor
 ·intro h q hq
  obtain ⟨i, hi, rfl⟩ := List.getElem_of_mem hq
  have := h i (List.mem_range.2 hi)
  rw [gBv_eq f hi] at this
  exact this
 ·intro h k hk
  have hk := List.mem_range.1 hk
  rw [gBv_eq f hk]
  exact h _ (List.getElem_mem hk)
def resl (o : Option (List DQ)) : List DQ × Bool := match o with
 | some r => (r, true)
 | none => ([], false)
theorem qcF_5 (n : Nat) : (if (n : Int) = 2 then (1 : Int) else if (n : Int) = 4 then 2 else if (n : Int) = 8 then 3 else if (n : Int) = 16 then 4 else 0) = qcF n := by
 unfold qcF
 by_cases h2 : n = 2
 ·subst h2; rfl
 by_cases h4 : n = 4
 ·subst h4; rfl
 by_cases h8 : n = 8
 ·subst h8; rfl
 by_cases h16 : n = 16
 ·subst h16; rfl
 rw [if_neg (by omega), if_neg (by omega), if_neg (by omega), if_neg (by omega), if_neg h2, if_neg h4, if_neg h8, if_neg h16]
theorem d0_eq (q : DQ) : ((q.1 == 0) && ((q.2.1 == 0) && ((q.2.2.1 == 0) && ((q.2.2.2.1 == 0) && (q.2.2.2.2 == 0))))) = decide (q = d0) := by
 obtain ⟨a, b, c, d, e⟩ := q
 rw [Bool.eq_iff_iff]
 simp [d0]
theorem s_qc (v : List DQ) : s_QubitCount v = some (qcF v.length) := by
 unfold s_QubitCount
 have st : ∀ (m : Nat) (j : Nat), 1 ≤ j ∧ j ≤ 4 → s_QubitCount_l1 v (m + 1) (j : Int) = br ((v.length : Int) == (2 : Int) ^ j) (some (j : Int)) (s_QubitCount_l1 v m ((j + 1 : Nat) : Int)) := by
  intro m j hj
  have : j = 1 ∨ j = 2 ∨ j = 3 ∨ j = 4 := by omega
  rw [s_QubitCount_l1]
  rcases this with rfl | rfl | rfl | rfl <;> rfl
 have s5 : ∀ m, s_QubitCount_l1 v (m + 1) ((5 : Nat) : Int) = some 0 := by
  intro m
  rw [s_QubitCount_l1]
  rfl
 obtain ⟨k, hk⟩ : ∃ k, FU = ((((k + 1) + 1) + 1) + 1) + 1 := ⟨4194299, rfl⟩
 have h1 := st ((((k + 1) + 1) + 1) + 1) 1 (by omega)
 have h2 := st (((k + 1) + 1) + 1) 2 (by omega)
 have h3 := st ((k + 1) + 1) 3 (by omega)
 have h4 := st (k + 1) 4 (by omega)
 have h5 := s5 k
 rw [hk]
 show s_QubitCount_l1 v (((((k + 1) + 1) + 1) + 1) + 1) ((1 : Nat) : Int) = _
 rw [h1, h2, h3, h4, h5, ← qcF_5]
 generalize (v.length : Int) = L
 show br (L == 2) (some 1) (br (L == 4) (some 2) (br (L == 8) (some 3) (br (L == 16) (some 4) (some 0)))) = _
 by_cases e2 : L = 2
 ·subst e2; rfl
 by_cases e4 : L = 4
 ·subst e4; rfl
 by_cases e8 : L = 8
 ·subst e8; rfl
 by_cases e16 : L = 16
 ·subst e16; rfl
 have c2 : (L == 2) = false := by simpa using e2
 have c4 : (L == 4) = false := by simpa using e4
 have c8 : (L == 8) = false := by simpa using e8
 have c16 : (L == 16) = false := by simpa using e16
 rw [c2, c4, c8, c16, if_neg e2, if_neg e4, if_neg e8, if_neg e16]
 rfl
theorem s_st (v : List DQ) (hl : v.length ≤ 4000000) : s_IsValidState v = some (stB v) := by
 unfold s_IsValidState
 unfold stB
 rw [← all_get]
 rw [loop_all0 (fun m k => s_IsValidState_l1 v m k) v.length (gBv vd v) hl (fun m k hk => ?_) (some (decide (0 < qcF v.length))) (fun m => ?_)]
 ·cases (List.range v.length).all (gBv vd v) <;> rfl
 ·have hlt : decide ((k : Int) < (v.length : Int)) = true := decide_eq_true (by omega)
  show s_IsValidState_l1 v (m + 1) (k : Int) = _
  rw [s_IsValidState_l1, hlt, br_true, geti_lt hk, bO_some, s_vd, bO_some, w64s hk (by omega), gBv_eq vd hk]
  cases vd v[k] <;> rfl
 ·have hlt : decide ((v.length : Int) < (v.length : Int)) = false := decide_eq_false (by omega)
  show s_IsValidState_l1 v (m + 1) (v.length : Int) = _
  rw [s_IsValidState_l1, hlt, br_false]
  unfold s_IsValidState_j1
  rw [s_qc, bO_some]
end Go.Proofs.Ytfjopjalhllplaa
/- Plain laws: the matrices of Pauli operators of both sides. -/
namespace Go.Proofs.Ytfjopjalhllplaa
open Go.RowKit
set_option maxRecDepth 100000
set_option linter.unusedVariables false
set_option linter.unusedSimpArgs false
end Go.Proofs.Ytfjopjalhllplaa
