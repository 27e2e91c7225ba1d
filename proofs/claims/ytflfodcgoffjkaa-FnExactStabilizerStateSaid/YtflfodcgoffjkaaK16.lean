/- Joined texts: Pza Prc Pzb Pzc Pze. -/
import Derived.Test.YtflfodcgoffjkaaK6
import Derived.Test.YtflfodcgoffjkaaK15
import Derived.Test.YtflfodcgoffjkaaK8
import Derived.Test.YtflfodcgoffjkaaK6b
import Derived.Test.YtflfodcgoffjkaaKPh
/- Plain laws: the arithmetic of both sides is that of reduced numbers. -/
namespace Go.Proofs.Ytflfodcgoffjkaa
open Go.RowKit
set_option maxRecDepth 100000
set_option linter.unusedVariables false
set_option linter.unusedSimpArgs false
theorem tm2 (x : Int) : (Int.tmod x 2 != 0) = !(x % 2 == 0) := by
  have h := Int.tmod_eq_emod (a := x) (b := 2)
  rw [Bool.eq_iff_iff]
  simp only [bne_iff_ne, ne_eq, Bool.not_eq_true', beq_eq_false_iff_ne]
  rw [h]
  split <;> omega
theorem td2 {x : Int} (h : x % 2 = 0) : Int.tdiv x 2 = x / 2 := by
  rw [Int.tdiv_eq_ediv_of_dvd (by omega)]
def dvF (x : Z4) : Int × Int × Int × Int × Bool := if vz x = true ∧ dvb x = true then ((dvh x).1, (dvh x).2.1, (dvh x).2.2.1, (dvh x).2.2.2, true) else (0, 0, 0, 0, false)
/-- What functions with a success flag give back. -/
def res (o : Option DQ) : Int × Int × Int × Int × Int × Bool := match o with
  | some z => (z.1, z.2.1, z.2.2.1, z.2.2.2.1, z.2.2.2.2, true)
  | none => (0, 0, 0, 0, 0, false)
def resz (o : Option Z4) : Int × Int × Int × Int × Bool := match o with
  | some z => (z.1, z.2.1, z.2.2.1, z.2.2.2, true)
  | none => (0, 0, 0, 0, false)
theorem wmm {p q r s : Int} (hp : -((1073741824 * 1073741824 : Nat) : Int) ≤ p ∧ p ≤ ((1073741824 * 1073741824 : Nat) : Int)) (hq : -((1073741824 * 1073741824 : Nat) : Int) ≤ q ∧ q ≤ ((1073741824 * 1073741824 : Nat) : Int)) (hr : -((1073741824 * 1073741824 : Nat) : Int) ≤ r ∧ r ≤ ((1073741824 * 1073741824 : Nat) : Int)) (hs : -((1073741824 * 1073741824 : Nat) : Int) ≤ s ∧ s ≤ ((1073741824 * 1073741824 : Nat) : Int)) :
    IntKind.wrap .i64 ((IntKind.wrap .i64 ((IntKind.wrap .i64 ((IntKind.wrap .i64 p) - (IntKind.wrap .i64 q))) - (IntKind.wrap .i64 r))) - (IntKind.wrap .i64 s)) = p - q - r - s := by
  rw [w64 (x := p) (by omega) (by omega), w64 (x := q) (by omega) (by omega), w64 (x := r) (by omega) (by omega), w64 (x := s) (by omega) (by omega), w64 (x := p - q) (by omega) (by omega), w64 (x := p - q - r) (by omega) (by omega), w64 (by omega) (by omega)]
theorem wpm1 {p q r s : Int} (hp : -((1073741824 * 1073741824 : Nat) : Int) ≤ p ∧ p ≤ ((1073741824 * 1073741824 : Nat) : Int)) (hq : -((1073741824 * 1073741824 : Nat) : Int) ≤ q ∧ q ≤ ((1073741824 * 1073741824 : Nat) : Int)) (hr : -((1073741824 * 1073741824 : Nat) : Int) ≤ r ∧ r ≤ ((1073741824 * 1073741824 : Nat) : Int)) (hs : -((1073741824 * 1073741824 : Nat) : Int) ≤ s ∧ s ≤ ((1073741824 * 1073741824 : Nat) : Int)) :
    IntKind.wrap .i64 ((IntKind.wrap .i64 ((IntKind.wrap .i64 ((IntKind.wrap .i64 p) + (IntKind.wrap .i64 q))) - (IntKind.wrap .i64 r))) - (IntKind.wrap .i64 s)) = p + q - r - s := by
  rw [w64 (x := p) (by omega) (by omega), w64 (x := q) (by omega) (by omega), w64 (x := r) (by omega) (by omega), w64 (x := s) (by omega) (by omega), w64 (x := p + q) (by omega) (by omega), w64 (x := p + q - r) (by omega) (by omega), w64 (by omega) (by omega)]
theorem wpm2 {p q r s : Int} (hp : -((1073741824 * 1073741824 : Nat) : Int) ≤ p ∧ p ≤ ((1073741824 * 1073741824 : Nat) : Int)) (hq : -((1073741824 * 1073741824 : Nat) : Int) ≤ q ∧ q ≤ ((1073741824 * 1073741824 : Nat) : Int)) (hr : -((1073741824 * 1073741824 : Nat) : Int) ≤ r ∧ r ≤ ((1073741824 * 1073741824 : Nat) : Int)) (hs : -((1073741824 * 1073741824 : Nat) : Int) ≤ s ∧ s ≤ ((1073741824 * 1073741824 : Nat) : Int)) :
    IntKind.wrap .i64 ((IntKind.wrap .i64 ((IntKind.wrap .i64 ((IntKind.wrap .i64 p) + (IntKind.wrap .i64 q))) + (IntKind.wrap .i64 r))) - (IntKind.wrap .i64 s)) = p + q + r - s := by
  rw [w64 (x := p) (by omega) (by omega), w64 (x := q) (by omega) (by omega), w64 (x := r) (by omega) (by omega), w64 (x := s) (by omega) (by omega), w64 (x := p + q) (by omega) (by omega), w64 (x := p + q + r) (by omega) (by omega), w64 (by omega) (by omega)]
theorem wpp {p q r s : Int} (hp : -((1073741824 * 1073741824 : Nat) : Int) ≤ p ∧ p ≤ ((1073741824 * 1073741824 : Nat) : Int)) (hq : -((1073741824 * 1073741824 : Nat) : Int) ≤ q ∧ q ≤ ((1073741824 * 1073741824 : Nat) : Int)) (hr : -((1073741824 * 1073741824 : Nat) : Int) ≤ r ∧ r ≤ ((1073741824 * 1073741824 : Nat) : Int)) (hs : -((1073741824 * 1073741824 : Nat) : Int) ≤ s ∧ s ≤ ((1073741824 * 1073741824 : Nat) : Int)) :
    IntKind.wrap .i64 ((IntKind.wrap .i64 ((IntKind.wrap .i64 ((IntKind.wrap .i64 p) + (IntKind.wrap .i64 q))) + (IntKind.wrap .i64 r))) + (IntKind.wrap .i64 s)) = p + q + r + s := by
  rw [w64 (x := p) (by omega) (by omega), w64 (x := q) (by omega) (by omega), w64 (x := r) (by omega) (by omega), w64 (x := s) (by omega) (by omega), w64 (x := p + q) (by omega) (by omega), w64 (x := p + q + r) (by omega) (by omega), w64 (by omega) (by omega)]
theorem i_zv (x : Z4) : i_IsValidZOmega x.1 x.2.1 x.2.2.1 x.2.2.2 = some (vz x) := by
  unfold i_IsValidZOmega i_IsValidZOmega_j1
  simp only [i_in_eq, bO_some, br_and]
  unfold vz
  simp only [Bool.and_assoc]
theorem i_dv (x : Z4) : i_DivSqrt2 x.1 x.2.1 x.2.2.1 x.2.2.2 = some (dvF x) := by
  unfold i_DivSqrt2
  rw [i_zv, bO_some]
  simp only [br_or, i_DivSqrt2_j1]
  cases hv : vz x with
  | false =>
    simp only [Bool.not_false, Bool.true_or, br_true]
    unfold dvF
    rw [if_neg (by rw [hv]; simp)]
  | true =>
    obtain ⟨b1, b2, b3, b4⟩ := (vz_iff x).1 hv
    rw [w64 (x := x.2.1 - x.2.2.2) (by omega) (by omega), w64 (x := x.1 + x.2.2.1) (by omega) (by omega), w64 (x := x.2.1 + x.2.2.2) (by omega) (by omega), w64 (x := x.2.2.1 - x.1) (by omega) (by omega)]
    simp only [Bool.not_true, Bool.false_or, tm2]
    have e : (((!((x.2.1 - x.2.2.2) % 2 == 0) || !((x.1 + x.2.2.1) % 2 == 0)) || !((x.2.1 + x.2.2.2) % 2 == 0)) || !((x.2.2.1 - x.1) % 2 == 0)) = !(dvb x) := by
      unfold dvb ev4 rt
      simp only [Bool.not_and, Bool.or_assoc]
    rw [e]
    unfold dvF
    cases hd : dvb x with
    | false => simp only [Bool.not_false, br_true]; rw [if_neg (by simp)]
    | true =>
      simp only [Bool.not_true, br_false]
      rw [if_pos ⟨hv, by trivial⟩]
      unfold dvb at hd
      rw [ev4_iff] at hd
      obtain ⟨d1, d2, d3, d4⟩ := hd
      unfold rt at d1 d2 d3 d4
      simp only at d1 d2 d3 d4
      rw [td2 d1, td2 d2, td2 d3, td2 d4, w64 (x := (x.2.1 - x.2.2.2) / 2) (by omega) (by omega), w64 (x := (x.1 + x.2.2.1) / 2) (by omega) (by omega), w64 (x := (x.2.1 + x.2.2.2) / 2) (by omega) (by omega), w64 (x := (x.2.2.1 - x.1) / 2) (by omega) (by omega)]
      rfl
theorem i_vd (x : DQ) : i_IsValidDOmega x.1 x.2.1 x.2.2.1 x.2.2.2.1 x.2.2.2.2 = some (vd x) := by
  unfold i_IsValidDOmega i_IsValidDOmega_j1
  have h1 := i_dv (znm x)
  have h2 := i_zv (znm x)
  unfold znm at h1 h2
  simp only at h1 h2
  rw [h1, bO_some, h2, bO_some]
  simp only [i_in_eq, bO_some, br_and, br_or]
  have e : (dvF (x.1, x.2.1, x.2.2.1, x.2.2.2.1)).2.2.2.2 = (vz (x.1, x.2.1, x.2.2.1, x.2.2.2.1) && dvb (x.1, x.2.1, x.2.2.1, x.2.2.2.1)) := by
    unfold dvF
    cases vz (x.1, x.2.1, x.2.2.1, x.2.2.2.1) <;> cases dvb (x.1, x.2.1, x.2.2.1, x.2.2.2.1) <;> rfl
  rw [e]
  unfold vd znm zex
  cases vz (x.1, x.2.1, x.2.2.1, x.2.2.2.1) <;> cases dvb (x.1, x.2.1, x.2.2.1, x.2.2.2.1) <;> cases (x.2.2.2.2 == 0) <;> cases decide (0 ≤ x.2.2.2.2 ∧ x.2.2.2.2 ≤ 60) <;> rfl
theorem i_new_loop : ∀ (m k : Nat) (n : Z4), vz n = true → k < m → k ≤ 120 → i_NewDOmega_l1 m k n.1 n.2.1 n.2.2.1 n.2.2.2 = i_NewDOmega_j2 ((nd k n).2 : Int) (nd k n).1.1 (nd k n).1.2.1 (nd k n).1.2.2.1 (nd k n).1.2.2.2
  | 0, k, n, _, h, _ => by omega
  | m + 1, 0, n, hv, h, _ => by
    rw [i_NewDOmega_l1]
    rfl
  | m + 1, k + 1, n, hv, h, hk => by
    rw [i_NewDOmega_l1]
    have hlt : decide (0 < ((k + 1 : Nat) : Int)) = true := decide_eq_true (by omega)
    rw [hlt, br_true, i_dv, bO_some]
    cases hd : dvb n with
    | false =>
      have e1 : dvF n = (0, 0, 0, 0, false) := by unfold dvF; rw [if_neg (by rw [hd]; simp)]
      have e2 : nd (k + 1) n = (n, k + 1) := by unfold nd; rw [hd]; rfl
      rw [e1, e2]
      rfl
    | true =>
      have e1 : dvF n = ((dvh n).1, (dvh n).2.1, (dvh n).2.2.1, (dvh n).2.2.2, true) := by unfold dvF; rw [if_pos ⟨hv, hd⟩]
      have e2 : nd (k + 1) n = nd k (dvh n) := by rw [nd, if_pos hd]
      have hw : IntKind.wrap .i64 (((k + 1 : Nat) : Int) - 1) = (k : Int) := by rw [w64 (by omega) (by omega)]; omega
      rw [e1, e2]
      simp only [Bool.not_true, br_false, hw]
      exact i_new_loop m k (dvh n) ((vz_iff _).2 (bd_dv hd ((vz_iff n).1 hv))) (by omega) (by omega)
theorem i_new (n : Z4) (k : Int) (hk : 0 ≤ k ∧ k ≤ 120) : i_NewDOmega n.1 n.2.1 n.2.2.1 n.2.2.2 k = some (res (newF n k.toNat)) := by
  unfold i_NewDOmega
  rw [i_zv, bO_some]
  have hin : decide (0 ≤ k ∧ k ≤ 120) = true := decide_eq_true hk
  simp only [i_in_eq, bO_some, br_or, hin, Bool.not_true, Bool.or_false, i_NewDOmega_j1]
  cases hv : vz n with
  | false =>
    simp only [Bool.not_false, br_true]
    unfold newF
    rw [if_neg (by rw [hv]; simp)]
    rfl
  | true =>
    simp only [Bool.not_true, br_false]
    have e : ((k.toNat : Nat) : Int) = k := by omega
    have := i_new_loop FU k.toNat n hv (by rw [FU_eq]; omega) (by omega)
    rw [e] at this
    rw [this]
    unfold i_NewDOmega_j2 newF
    by_cases h60 : (nd k.toNat n).2 ≤ 60
    · have : decide (60 < ((nd k.toNat n).2 : Int)) = false := decide_eq_false (by omega)
      rw [this, br_false, if_pos ⟨hv, h60⟩]
      rfl
    · have : decide (60 < ((nd k.toNat n).2 : Int)) = true := decide_eq_true (by omega)
      rw [this, br_true, if_neg (fun h => h60 h.2)]
      rfl
theorem i_mulz (x y : Z4) : i_MulZOmega x.1 x.2.1 x.2.2.1 x.2.2.2 y.1 y.2.1 y.2.2.1 y.2.2.2 = some (resz (if vz x = true ∧ vz y = true ∧ vz (mlz x y) = true then some (mlz x y) else none)) := by
  unfold i_MulZOmega
  rw [i_zv, bO_some]
  simp only [i_zv, bO_some, br_or, i_MulZOmega_j1]
  by_cases hxy : vz x = true ∧ vz y = true
  · obtain ⟨hx, hy⟩ := hxy
    obtain ⟨x1, x2, x3, x4⟩ := (vz_iff x).1 hx
    obtain ⟨y1, y2, y3, y4⟩ := (vz_iff y).1 hy
    have a1 := mul_bd (M := 1073741824) (L := 1073741824) x1 y1; have a2 := mul_bd (M := 1073741824) (L := 1073741824) x1 y2; have a3 := mul_bd (M := 1073741824) (L := 1073741824) x1 y3; have a4 := mul_bd (M := 1073741824) (L := 1073741824) x1 y4
    have b1 := mul_bd (M := 1073741824) (L := 1073741824) x2 y1; have b2 := mul_bd (M := 1073741824) (L := 1073741824) x2 y2; have b3 := mul_bd (M := 1073741824) (L := 1073741824) x2 y3; have b4 := mul_bd (M := 1073741824) (L := 1073741824) x2 y4
    have c1 := mul_bd (M := 1073741824) (L := 1073741824) x3 y1; have c2 := mul_bd (M := 1073741824) (L := 1073741824) x3 y2; have c3 := mul_bd (M := 1073741824) (L := 1073741824) x3 y3; have c4 := mul_bd (M := 1073741824) (L := 1073741824) x3 y4
    have d1 := mul_bd (M := 1073741824) (L := 1073741824) x4 y1; have d2 := mul_bd (M := 1073741824) (L := 1073741824) x4 y2; have d3 := mul_bd (M := 1073741824) (L := 1073741824) x4 y3; have d4 := mul_bd (M := 1073741824) (L := 1073741824) x4 y4
    rw [wmm a1 b4 c3 d2, wpm1 a2 b1 c4 d3, wpm2 a3 b2 c1 d4, wpp a4 b3 c2 d1, hx, hy]
    simp only [Bool.not_true, Bool.or_self, br_false]
    unfold i_checked
    have hc := i_zv (mlz x y)
    unfold mlz at hc
    simp only at hc
    rw [hc, bO_some]
    have e : vz (mlz x y) = vz (x.1 * y.1 - x.2.1 * y.2.2.2 - x.2.2.1 * y.2.2.1 - x.2.2.2 * y.2.1, x.1 * y.2.1 + x.2.1 * y.1 - x.2.2.1 * y.2.2.2 - x.2.2.2 * y.2.2.1, x.1 * y.2.2.1 + x.2.1 * y.2.1 + x.2.2.1 * y.1 - x.2.2.2 * y.2.2.2, x.1 * y.2.2.2 + x.2.1 * y.2.2.1 + x.2.2.1 * y.2.1 + x.2.2.2 * y.1) := rfl
    rw [← e]
    cases hm : vz (mlz x y) with
    | false =>
      rw [if_neg (by rintro ⟨_, _, h⟩; cases h)]
      rfl
    | true =>
      rw [if_pos ⟨by trivial, by trivial, by trivial⟩]
      rfl
  · rw [if_neg (fun h => hxy ⟨h.1, h.2.1⟩)]
    have : (!vz x || !vz y) = true := by
      cases hx : vz x with
      | false => rfl
      | true => cases hy : vz y with
        | false => rfl
        | true => exact absurd ⟨hx, hy⟩ hxy
    rw [this]
    rfl
theorem i_addz (x y : Z4) : i_AddZOmega x.1 x.2.1 x.2.2.1 x.2.2.2 y.1 y.2.1 y.2.2.1 y.2.2.2 = some (resz (if vz x = true ∧ vz y = true ∧ vz (adz x y) = true then some (adz x y) else none)) := by
  unfold i_AddZOmega
  rw [i_zv, bO_some]
  simp only [i_zv, bO_some, br_or, i_AddZOmega_j1]
  by_cases hxy : vz x = true ∧ vz y = true
  · obtain ⟨hx, hy⟩ := hxy
    obtain ⟨x1, x2, x3, x4⟩ := (vz_iff x).1 hx
    obtain ⟨y1, y2, y3, y4⟩ := (vz_iff y).1 hy
    rw [w64 (x := x.1 + y.1) (by omega) (by omega), w64 (x := x.2.1 + y.2.1) (by omega) (by omega), w64 (x := x.2.2.1 + y.2.2.1) (by omega) (by omega), w64 (x := x.2.2.2 + y.2.2.2) (by omega) (by omega), hx, hy]
    simp only [Bool.not_true, Bool.or_self, br_false]
    unfold i_checked
    have hc := i_zv (adz x y)
    have e : vz (adz x y) = vz (x.1 + y.1, x.2.1 + y.2.1, x.2.2.1 + y.2.2.1, x.2.2.2 + y.2.2.2) := rfl
    unfold adz at hc
    simp only at hc
    rw [hc, bO_some, ← e]
    cases hm : vz (adz x y) with
    | false =>
      rw [if_neg (by rintro ⟨_, _, h⟩; cases h)]
      rfl
    | true =>
      rw [if_pos ⟨by trivial, by trivial, by trivial⟩]
      rfl
  · rw [if_neg (fun h => hxy ⟨h.1, h.2.1⟩)]
    have : (!vz x || !vz y) = true := by
      cases hx : vz x with
      | false => rfl
      | true => cases hy : vz y with
        | false => rfl
        | true => exact absurd ⟨hx, hy⟩ hxy
    rw [this]
    rfl
theorem s_zv (x : Z4) : s_IsValidZOmega x.1 x.2.1 x.2.2.1 x.2.2.2 = some (vz x) := by
  unfold s_IsValidZOmega s_IsValidZOmega_j1 s_l2Near
  simp only [s_in_eq, bO_some, br_and]
  unfold vz
  simp only [Bool.and_assoc]
theorem s_dv (x : Z4) : s_DivSqrt2 x.1 x.2.1 x.2.2.1 x.2.2.2 = some (dvF x) := by
  unfold s_DivSqrt2
  rw [s_zv, bO_some]
  simp only [br_or, s_DivSqrt2_j1]
  cases hv : vz x with
  | false =>
    simp only [Bool.not_false, br_true]
    unfold dvF
    rw [if_neg (by rw [hv]; simp)]
  | true =>
    obtain ⟨b1, b2, b3, b4⟩ := (vz_iff x).1 hv
    rw [w64 (x := x.2.1 - x.2.2.2) (by omega) (by omega), w64 (x := x.1 + x.2.2.1) (by omega) (by omega), w64 (x := x.2.1 + x.2.2.2) (by omega) (by omega), w64 (x := x.2.2.1 - x.1) (by omega) (by omega)]
    simp only [Bool.not_true, br_false, tm2]
    have e : (((!((x.2.1 - x.2.2.2) % 2 == 0) || !((x.1 + x.2.2.1) % 2 == 0)) || !((x.2.1 + x.2.2.2) % 2 == 0)) || !((x.2.2.1 - x.1) % 2 == 0)) = !(dvb x) := by
      unfold dvb ev4 rt
      simp only [Bool.not_and, Bool.or_assoc]
    rw [e]
    unfold dvF
    cases hd : dvb x with
    | false => simp only [Bool.not_false, br_true]; rw [if_neg (by simp)]
    | true =>
      simp only [Bool.not_true, br_false]
      rw [if_pos ⟨hv, by trivial⟩]
      unfold dvb at hd
      rw [ev4_iff] at hd
      obtain ⟨d1, d2, d3, d4⟩ := hd
      unfold rt at d1 d2 d3 d4
      simp only at d1 d2 d3 d4
      rw [td2 d1, td2 d2, td2 d3, td2 d4, w64 (x := (x.2.1 - x.2.2.2) / 2) (by omega) (by omega), w64 (x := (x.1 + x.2.2.1) / 2) (by omega) (by omega), w64 (x := (x.2.1 + x.2.2.2) / 2) (by omega) (by omega), w64 (x := (x.2.2.1 - x.1) / 2) (by omega) (by omega)]
      rfl
theorem s_vd (x : DQ) : s_IsValidDOmega x.1 x.2.1 x.2.2.1 x.2.2.2.1 x.2.2.2.2 = some (vd x) := by
  unfold s_IsValidDOmega s_IsValidDOmega_j1
  have h1 := s_dv (znm x)
  have h2 := s_zv (znm x)
  unfold znm at h1 h2
  simp only at h1 h2
  rw [h1, bO_some, h2, bO_some]
  simp only [s_in_eq, bO_some, br_and, br_or]
  have e : (dvF (x.1, x.2.1, x.2.2.1, x.2.2.2.1)).2.2.2.2 = (vz (x.1, x.2.1, x.2.2.1, x.2.2.2.1) && dvb (x.1, x.2.1, x.2.2.1, x.2.2.2.1)) := by
    unfold dvF
    cases vz (x.1, x.2.1, x.2.2.1, x.2.2.2.1) <;> cases dvb (x.1, x.2.1, x.2.2.1, x.2.2.2.1) <;> rfl
  rw [e]
  unfold vd znm zex
  cases vz (x.1, x.2.1, x.2.2.1, x.2.2.2.1) <;> cases dvb (x.1, x.2.1, x.2.2.1, x.2.2.2.1) <;> cases (x.2.2.2.2 == 0) <;> cases decide (0 ≤ x.2.2.2.2 ∧ x.2.2.2.2 ≤ 60) <;> rfl
theorem s_new_loop : ∀ (m k : Nat) (n : Z4), vz n = true → k < m → k ≤ 120 → s_NewDOmega_l1 m k n.1 n.2.1 n.2.2.1 n.2.2.2 = s_NewDOmega_j2 ((nd k n).2 : Int) (nd k n).1.1 (nd k n).1.2.1 (nd k n).1.2.2.1 (nd k n).1.2.2.2
  | 0, k, n, _, h, _ => by omega
  | m + 1, 0, n, hv, h, _ => by
    rw [s_NewDOmega_l1]
    rfl
  | m + 1, k + 1, n, hv, h, hk => by
    rw [s_NewDOmega_l1]
    have hlt : decide (0 < ((k + 1 : Nat) : Int)) = true := decide_eq_true (by omega)
    rw [hlt, br_true, s_dv, bO_some]
    cases hd : dvb n with
    | false =>
      have e1 : dvF n = (0, 0, 0, 0, false) := by unfold dvF; rw [if_neg (by rw [hd]; simp)]
      have e2 : nd (k + 1) n = (n, k + 1) := by unfold nd; rw [hd]; rfl
      rw [e1, e2]
      rfl
    | true =>
      have e1 : dvF n = ((dvh n).1, (dvh n).2.1, (dvh n).2.2.1, (dvh n).2.2.2, true) := by unfold dvF; rw [if_pos ⟨hv, hd⟩]
      have e2 : nd (k + 1) n = nd k (dvh n) := by rw [nd, if_pos hd]
      have hw : IntKind.wrap .i64 (((k + 1 : Nat) : Int) - 1) = (k : Int) := by rw [w64 (by omega) (by omega)]; omega
      rw [e1, e2]
      simp only [Bool.not_true, br_false, hw]
      exact s_new_loop m k (dvh n) ((vz_iff _).2 (bd_dv hd ((vz_iff n).1 hv))) (by omega) (by omega)
theorem s_new (n : Z4) (k : Int) (hk : 0 ≤ k ∧ k ≤ 120) : s_NewDOmega n.1 n.2.1 n.2.2.1 n.2.2.2 k = some (res (newF n k.toNat)) := by
  unfold s_NewDOmega
  rw [s_zv, bO_some]
  have hin : decide (0 ≤ k ∧ k ≤ 120) = true := decide_eq_true hk
  simp only [s_in_eq, bO_some, br_or, hin, Bool.not_true, Bool.or_false, s_NewDOmega_j1]
  cases hv : vz n with
  | false =>
    simp only [Bool.not_false, br_true]
    unfold newF
    rw [if_neg (by rw [hv]; simp)]
    rfl
  | true =>
    simp only [Bool.not_true, br_false]
    have e : ((k.toNat : Nat) : Int) = k := by omega
    have := s_new_loop FU k.toNat n hv (by rw [FU_eq]; omega) (by omega)
    rw [e] at this
    rw [this]
    unfold s_NewDOmega_j2 newF
    by_cases h60 : (nd k.toNat n).2 ≤ 60
    · have : decide (60 < ((nd k.toNat n).2 : Int)) = false := decide_eq_false (by omega)
      rw [this, br_false, if_pos ⟨hv, h60⟩]
      rfl
    · have : decide (60 < ((nd k.toNat n).2 : Int)) = true := decide_eq_true (by omega)
      rw [this, br_true, if_neg (fun h => h60 h.2)]
      rfl
theorem s_mulz (x y : Z4) : s_MulZOmega x.1 x.2.1 x.2.2.1 x.2.2.2 y.1 y.2.1 y.2.2.1 y.2.2.2 = some (resz (if vz x = true ∧ vz y = true ∧ vz (mlz x y) = true then some (mlz x y) else none)) := by
  unfold s_MulZOmega
  rw [s_zv, bO_some]
  simp only [s_zv, bO_some, br_or, s_MulZOmega_j1]
  by_cases hxy : vz x = true ∧ vz y = true
  · obtain ⟨hx, hy⟩ := hxy
    obtain ⟨x1, x2, x3, x4⟩ := (vz_iff x).1 hx
    obtain ⟨y1, y2, y3, y4⟩ := (vz_iff y).1 hy
    have a1 := mul_bd (M := 1073741824) (L := 1073741824) x1 y1; have a2 := mul_bd (M := 1073741824) (L := 1073741824) x1 y2; have a3 := mul_bd (M := 1073741824) (L := 1073741824) x1 y3; have a4 := mul_bd (M := 1073741824) (L := 1073741824) x1 y4
    have b1 := mul_bd (M := 1073741824) (L := 1073741824) x2 y1; have b2 := mul_bd (M := 1073741824) (L := 1073741824) x2 y2; have b3 := mul_bd (M := 1073741824) (L := 1073741824) x2 y3; have b4 := mul_bd (M := 1073741824) (L := 1073741824) x2 y4
    have c1 := mul_bd (M := 1073741824) (L := 1073741824) x3 y1; have c2 := mul_bd (M := 1073741824) (L := 1073741824) x3 y2; have c3 := mul_bd (M := 1073741824) (L := 1073741824) x3 y3; have c4 := mul_bd (M := 1073741824) (L := 1073741824) x3 y4
    have d1 := mul_bd (M := 1073741824) (L := 1073741824) x4 y1; have d2 := mul_bd (M := 1073741824) (L := 1073741824) x4 y2; have d3 := mul_bd (M := 1073741824) (L := 1073741824) x4 y3; have d4 := mul_bd (M := 1073741824) (L := 1073741824) x4 y4
    rw [wmm a1 b4 c3 d2, wpm1 a2 b1 c4 d3, wpm2 a3 b2 c1 d4, wpp a4 b3 c2 d1, hx, hy]
    simp only [Bool.not_true, Bool.or_self, br_false]
    unfold s_l2If
    have hc := s_zv (mlz x y)
    unfold mlz at hc
    simp only at hc
    rw [hc, bO_some]
    have e : vz (mlz x y) = vz (x.1 * y.1 - x.2.1 * y.2.2.2 - x.2.2.1 * y.2.2.1 - x.2.2.2 * y.2.1, x.1 * y.2.1 + x.2.1 * y.1 - x.2.2.1 * y.2.2.2 - x.2.2.2 * y.2.2.1, x.1 * y.2.2.1 + x.2.1 * y.2.1 + x.2.2.1 * y.1 - x.2.2.2 * y.2.2.2, x.1 * y.2.2.2 + x.2.1 * y.2.2.1 + x.2.2.1 * y.2.1 + x.2.2.2 * y.1) := rfl
    rw [← e]
    cases hm : vz (mlz x y) with
    | false =>
      rw [if_neg (by rintro ⟨_, _, h⟩; cases h)]
      rfl
    | true =>
      rw [if_pos ⟨by trivial, by trivial, by trivial⟩]
      rfl
  · rw [if_neg (fun h => hxy ⟨h.1, h.2.1⟩)]
    have : (!vz x || !vz y) = true := by
      cases hx : vz x with
      | false => rfl
      | true => cases hy : vz y with
        | false => rfl
        | true => exact absurd ⟨hx, hy⟩ hxy
    rw [this]
    rfl
theorem s_addz (x y : Z4) : s_AddZOmega x.1 x.2.1 x.2.2.1 x.2.2.2 y.1 y.2.1 y.2.2.1 y.2.2.2 = some (resz (if vz x = true ∧ vz y = true ∧ vz (adz x y) = true then some (adz x y) else none)) := by
  unfold s_AddZOmega
  rw [s_zv, bO_some]
  simp only [s_zv, bO_some, br_or, s_AddZOmega_j1]
  by_cases hxy : vz x = true ∧ vz y = true
  · obtain ⟨hx, hy⟩ := hxy
    obtain ⟨x1, x2, x3, x4⟩ := (vz_iff x).1 hx
    obtain ⟨y1, y2, y3, y4⟩ := (vz_iff y).1 hy
    rw [w64 (x := x.1 + y.1) (by omega) (by omega), w64 (x := x.2.1 + y.2.1) (by omega) (by omega), w64 (x := x.2.2.1 + y.2.2.1) (by omega) (by omega), w64 (x := x.2.2.2 + y.2.2.2) (by omega) (by omega), hx, hy]
    simp only [Bool.not_true, Bool.or_self, br_false]
    unfold s_l2If
    have hc := s_zv (adz x y)
    have e : vz (adz x y) = vz (x.1 + y.1, x.2.1 + y.2.1, x.2.2.1 + y.2.2.1, x.2.2.2 + y.2.2.2) := rfl
    unfold adz at hc
    simp only at hc
    rw [hc, bO_some, ← e]
    cases hm : vz (adz x y) with
    | false =>
      rw [if_neg (by rintro ⟨_, _, h⟩; cases h)]
      rfl
    | true =>
      rw [if_pos ⟨by trivial, by trivial, by trivial⟩]
      rfl
  · rw [if_neg (fun h => hxy ⟨h.1, h.2.1⟩)]
    have : (!vz x || !vz y) = true := by
      cases hx : vz x with
      | false => rfl
      | true => cases hy : vz y with
        | false => rfl
        | true => exact absurd ⟨hx, hy⟩ hxy
    rw [this]
    rfl
theorem mlz_rt (x : Z4) : mlz x (0, 1, 0, -1) = rt x := by unfold mlz rt; apply z_ext <;> simp only <;> omega
theorem rtn_s (k : Nat) (x : Z4) : rtn (k + 1) x = rtn k (rt x) := by rw [show rtn (k + 1) x = rt (rtn k x) from rfl]; exact rtn_swap 1 k x
theorem rt_vz {k : Nat} {x : Z4} (h : vz (rt x) = false) : vz (rtn (k + 1) x) = false := by
  rw [Bool.eq_false_iff]
  intro e
  rw [rtn_s] at e
  have := (vz_iff _).2 (rtn_bd k ((vz_iff _).1 e))
  rw [h] at this
  cases this
/-- n raised by k roots, if it stays small. -/
def upz (n : Z4) (k : Nat) : Option Z4 := if vz (rtn k n) = true then some (rtn k n) else none
theorem s_up_loop (t : Nat) : ∀ (m i : Nat) (n : Z4), i ≤ t → t - i < m → t ≤ 1000 → vz n = true → s_l3Up_l1 (t : Int) m i n.1 n.2.1 n.2.2.1 n.2.2.2 = some (resz (upz n (t - i)))
  | 0, i, n, _, h, _, _ => by omega
  | m + 1, i, n, hi, h, ht, hv => by
    rw [s_l3Up_l1]
    by_cases e : i = t
    · have hlt : decide ((i : Int) < (t : Int)) = false := decide_eq_false (by omega)
      rw [hlt, br_false, e, Nat.sub_self]
      unfold upz
      rw [if_pos (show vz (rtn 0 n) = true from hv)]
      rfl
    · have hlt : decide ((i : Int) < (t : Int)) = true := decide_eq_true (by omega)
      have hm := s_mulz n (0, 1, 0, -1)
      simp only at hm
      rw [hlt, br_true, hm, bO_some, mlz_rt, w64 (by omega) (by omega), show (i : Int) + 1 = ((i + 1 : Nat) : Int) by omega]
      have hs : t - i = (t - (i + 1)) + 1 := by omega
      have h01 : vz (0, 1, 0, -1) = true := by decide
      cases hr : vz (rt n) with
      | false =>
        rw [if_neg (by rintro ⟨_, _, h⟩; cases h), hs]
        unfold upz
        rw [if_neg (by rw [rt_vz hr]; simp)]
        rfl
      | true =>
        rw [if_pos ⟨hv, h01, by trivial⟩]
        simp only [resz, Bool.not_true, br_false]
        rw [s_up_loop t m (i + 1) (rt n) (by omega) (by omega) ht hr, hs]
        unfold upz
        rw [rtn_s]
        rfl
theorem s_up (n : Z4) (t : Nat) (ht : t ≤ 1000) (hv : vz n = true) : s_l3Up n.1 n.2.1 n.2.2.1 n.2.2.2 (t : Int) = some (resz (upz n t)) := by
  unfold s_l3Up
  have := s_up_loop t FU 0 n (by omega) (by rw [FU_eq]; omega) ht hv
  rw [Nat.sub_zero] at this
  exact this
theorem zex_n {x : DQ} (h : vd x = true) : x.2.2.2.2 = (zexn x : Int) ∧ zexn x ≤ 60 := by
  obtain ⟨_, h2, _⟩ := (vd_iff x).1 h
  unfold zexn
  unfold zex at *
  omega
theorem s_max (a b : Int) : s_l1Max a b = some (max a b) := by
  unfold s_l1Max
  by_cases h : b < a
  · rw [decide_eq_true h, br_true, Int.max_eq_left (by omega)]
  · rw [decide_eq_false h, br_false, Int.max_eq_right (by omega)]
theorem s_add (x y : DQ) : s_AddDOmega x.1 x.2.1 x.2.2.1 x.2.2.2.1 x.2.2.2.2 y.1 y.2.1 y.2.2.1 y.2.2.2.1 y.2.2.2.2 = some (res (if vd x = true ∧ vd y = true then addF x y else none)) := by
  unfold s_AddDOmega
  rw [s_vd, bO_some]
  simp only [s_vd, bO_some, br_or, s_AddDOmega_j1]
  by_cases hxy : vd x = true ∧ vd y = true
  · rw [if_pos hxy]
    obtain ⟨hx, hy⟩ := hxy
    obtain ⟨ex1, ex2⟩ := zex_n hx
    obtain ⟨ey1, ey2⟩ := zex_n hy
    rw [hx, hy, ex1, ey1]
    simp only [Bool.not_true, Bool.or_self, br_false, s_max, bO_some]
    have hm : max (zexn x : Int) (zexn y : Int) = ((max (zexn x) (zexn y) : Nat) : Int) := by omega
    have hK : max (zexn x) (zexn y) ≤ 60 := Nat.max_le.2 ⟨ex2, ey2⟩
    have hKx : zexn x ≤ max (zexn x) (zexn y) := Nat.le_max_left ..
    have hKy : zexn y ≤ max (zexn x) (zexn y) := Nat.le_max_right ..
    rw [hm]
    unfold addF
    simp only
    generalize max (zexn x) (zexn y) = K at *
    have u1 := s_up (znm x) (K - zexn x) (by omega) ((vd_iff x).1 hx).1
    have u2 := s_up (znm y) (K - zexn y) (by omega) ((vd_iff y).1 hy).1
    unfold znm at u1 u2
    simp only at u1 u2
    rw [w64 (x := (K : Int) - (zexn x : Int)) (by omega) (by omega), w64 (x := (K : Int) - (zexn y : Int)) (by omega) (by omega), show (K : Int) - (zexn x : Int) = ((K - zexn x : Nat) : Int) by omega, show (K : Int) - (zexn y : Int) = ((K - zexn y : Nat) : Int) by omega, u1, bO_some, u2, bO_some]
    have f1 : upz (x.1, x.2.1, x.2.2.1, x.2.2.2.1) (K - zexn x) = if vz (upF x K) = true then some (upF x K) else none := rfl
    have f2 : upz (y.1, y.2.1, y.2.2.1, y.2.2.2.1) (K - zexn y) = if vz (upF y K) = true then some (upF y K) else none := rfl
    rw [f1, f2]
    generalize upF x K = a
    generalize upF y K = b
    have hz0 : vz (0, 0, 0, 0) = true := by decide
    have key : ∀ (p q : Z4) (b1 b2 : Bool), (b1 && b2) = false → bO (s_AddZOmega p.1 p.2.1 p.2.2.1 p.2.2.2 q.1 q.2.1 q.2.2.1 q.2.2.2) (fun x8 => s_AddDOmega_j2 (K : Int) x8 ((!b1 || !b2) || !x8.2.2.2.2)) = some (0, 0, 0, 0, 0, false) := by
      intro p q b1 b2 hb
      rw [s_addz, bO_some]
      have : (!b1 || !b2) = true := by cases b1 <;> cases b2 <;> first | rfl | cases hb
      rw [this, Bool.true_or]
      rfl
    cases ha : vz a with
    | false =>
      simp only [Bool.false_eq_true, false_and, if_false]
      cases hb : vz b with
      | false => exact key (0, 0, 0, 0) (0, 0, 0, 0) false false rfl
      | true => exact key (0, 0, 0, 0) b false true rfl
    | true =>
      cases hb : vz b with
      | false =>
        simp only [Bool.false_eq_true, and_false, false_and, if_false]
        exact key a (0, 0, 0, 0) true false rfl
      | true =>
        simp only [if_true, resz, true_and, Bool.not_true, Bool.or_self, Bool.false_or]
        rw [s_addz, bO_some, ha, hb]
        simp only [true_and]
        unfold s_AddDOmega_j2
        cases hs : vz (adz a b) with
        | false =>
          simp only [Bool.false_eq_true, if_false, resz, Bool.not_false, br_true]
          rfl
        | true =>
          simp only [if_true, resz, Bool.not_true, br_false]
          have hn := s_new (adz a b) (K : Int) (by omega)
          rw [hn, bO_some]
          rfl
  · rw [if_neg hxy]
    have : (!vd x || !vd y) = true := by
      cases hx : vd x with
      | false => rfl
      | true => cases hy : vd y with
        | false => rfl
        | true => exact absurd ⟨hx, hy⟩ hxy
    rw [this]
    rfl
theorem i_up_loop (N : Z4) (T : Nat) : ∀ (m k : Nat) (n : Z4), k ≤ T → T - k < m → T ≤ 1000 → vz n = true → i_AddDOmega_l1 N.1 N.2.1 N.2.2.1 N.2.2.2 (T : Int) m k n.1 n.2.1 n.2.2.1 n.2.2.2 =
    (match upz n (T - k) with | some z => i_AddDOmega_j3 N.1 N.2.1 N.2.2.1 N.2.2.2 (T : Int) z.1 z.2.1 z.2.2.1 z.2.2.2 | none => some (0, 0, 0, 0, 0, false))
  | 0, k, n, _, h, _, _ => by omega
  | m + 1, k, n, hk, h, hT, hv => by
    rw [i_AddDOmega_l1]
    by_cases e : k = T
    · have hlt : decide ((k : Int) < (T : Int)) = false := decide_eq_false (by omega)
      rw [hlt, br_false, e, Nat.sub_self]
      unfold upz
      rw [if_pos (show vz (rtn 0 n) = true from hv)]
      rfl
    · have hlt : decide ((k : Int) < (T : Int)) = true := decide_eq_true (by omega)
      have hm := i_mulz n (0, 1, 0, -1)
      simp only at hm
      have hro : i_root = some (0, 1, 0, -1) := rfl
      rw [hlt, br_true, hro, bO_some]
      simp only
      rw [hm, bO_some, mlz_rt, w64 (by omega) (by omega), show (k : Int) + 1 = ((k + 1 : Nat) : Int) by omega]
      have hs : T - k = (T - (k + 1)) + 1 := by omega
      have h01 : vz (0, 1, 0, -1) = true := by decide
      cases hr : vz (rt n) with
      | false =>
        rw [if_neg (by rintro ⟨_, _, h⟩; cases h), hs]
        unfold upz
        rw [if_neg (by rw [rt_vz hr]; simp)]
        rfl
      | true =>
        rw [if_pos ⟨hv, h01, by trivial⟩]
        simp only [resz, Bool.not_true, br_false]
        rw [i_up_loop N T m (k + 1) (rt n) (by omega) (by omega) hT hr, hs]
        unfold upz
        rw [rtn_s]
theorem i_add_j2 {x y : DQ} (hx : vd x = true) (hy : vd y = true) (hle : zexn y ≤ zexn x) : i_AddDOmega_j2 x.1 x.2.1 x.2.2.1 x.2.2.2.1 x.2.2.2.2 y.1 y.2.1 y.2.2.1 y.2.2.2.1 y.2.2.2.2 = some (res (addF x y)) := by
  obtain ⟨ex1, ex2⟩ := zex_n hx
  obtain ⟨ey1, ey2⟩ := zex_n hy
  unfold i_AddDOmega_j2
  rw [ex1, ey1]
  have hl := i_up_loop (znm x) (zexn x) FU (zexn y) (znm y) hle (by rw [FU_eq]; omega) (by omega) ((vd_iff y).1 hy).1
  unfold znm at hl
  simp only at hl
  rw [hl]
  have hK : max (zexn x) (zexn y) = zexn x := Nat.max_eq_left hle
  unfold addF
  simp only [hK]
  have f2 : upz (y.1, y.2.1, y.2.2.1, y.2.2.2.1) (zexn x - zexn y) = if vz (upF y (zexn x)) = true then some (upF y (zexn x)) else none := rfl
  have f1 : upF x (zexn x) = znm x := by unfold upF; rw [Nat.sub_self]; rfl
  rw [f2, f1]
  generalize upF y (zexn x) = b
  have hvx := ((vd_iff x).1 hx).1
  rw [hvx]
  cases hb : vz b with
  | false =>
    simp only [Bool.false_eq_true, and_false, false_and, if_false]
    rfl
  | true =>
    simp only [if_true, true_and]
    unfold i_AddDOmega_j3
    have ha := i_addz (znm x) b
    rw [hvx, hb] at ha
    simp only [true_and] at ha
    unfold znm at ha
    simp only at ha
    rw [ha, bO_some]
    have en : adz (znm x) b = adz (x.1, x.2.1, x.2.2.1, x.2.2.2.1) b := rfl
    rw [en]
    cases hs : vz (adz (x.1, x.2.1, x.2.2.1, x.2.2.2.1) b) with
    | false =>
      simp only [Bool.false_eq_true, if_false, resz, Bool.not_false, br_true]
      rfl
    | true =>
      simp only [if_true, resz, Bool.not_true, br_false]
      have hn := i_new (adz (x.1, x.2.1, x.2.2.1, x.2.2.2.1) b) (zexn x : Int) (by omega)
      rw [hn, bO_some]
      rfl
theorem i_add (x y : DQ) : i_AddDOmega x.1 x.2.1 x.2.2.1 x.2.2.2.1 x.2.2.2.2 y.1 y.2.1 y.2.2.1 y.2.2.2.1 y.2.2.2.2 = some (res (if vd x = true ∧ vd y = true then addF x y else none)) := by
  unfold i_AddDOmega
  rw [i_vd, bO_some]
  simp only [i_vd, bO_some, br_or, i_AddDOmega_j1]
  by_cases hxy : vd x = true ∧ vd y = true
  · rw [if_pos hxy]
    obtain ⟨hx, hy⟩ := hxy
    obtain ⟨ex1, ex2⟩ := zex_n hx
    obtain ⟨ey1, ey2⟩ := zex_n hy
    rw [hx, hy]
    simp only [Bool.not_true, Bool.or_self, br_false]
    by_cases hlt : x.2.2.2.2 < y.2.2.2.2
    · rw [decide_eq_true hlt, br_true, i_add_j2 hy hx (by omega), add_comm']
    · rw [decide_eq_false hlt, br_false, i_add_j2 hx hy (by omega)]
  · rw [if_neg hxy]
    have : (!vd x || !vd y) = true := by
      cases hx : vd x with
      | false => rfl
      | true => cases hy : vd y with
        | false => rfl
        | true => exact absurd ⟨hx, hy⟩ hxy
    rw [this]
    rfl
theorem i_mul' (x y : DQ) : i_MulDOmega x.1 x.2.1 x.2.2.1 x.2.2.2.1 x.2.2.2.2 y.1 y.2.1 y.2.2.1 y.2.2.2.1 y.2.2.2.2 = some (res (if vd x = true ∧ vd y = true then mulF x y else none)) := by
  unfold i_MulDOmega
  rw [i_vd, bO_some]
  simp only [i_vd, bO_some, br_or, i_MulDOmega_j1]
  by_cases hxy : vd x = true ∧ vd y = true
  · rw [if_pos hxy]
    obtain ⟨hx, hy⟩ := hxy
    obtain ⟨ex1, ex2⟩ := zex_n hx
    obtain ⟨ey1, ey2⟩ := zex_n hy
    rw [hx, hy]
    simp only [Bool.not_true, Bool.or_self, br_false]
    have hm := i_mulz (znm x) (znm y)
    rw [((vd_iff x).1 hx).1, ((vd_iff y).1 hy).1] at hm
    simp only [true_and] at hm
    unfold mulF
    have e1 : i_MulZOmega x.1 x.2.1 x.2.2.1 x.2.2.2.1 y.1 y.2.1 y.2.2.1 y.2.2.2.1 = _ := hm
    rw [e1, bO_some]
    cases hs : vz (mlz (znm x) (znm y)) with
    | false =>
      simp only [Bool.false_eq_true, if_false, resz, Bool.not_false, br_true]
      rfl
    | true =>
      simp only [if_true, resz, Bool.not_true, br_false]
      have hn := i_new (mlz (znm x) (znm y)) ((zexn x + zexn y : Nat) : Int) (by omega)
      rw [Int.toNat_natCast] at hn
      rw [ex1, ey1, w64 (by omega) (by omega), show (zexn x : Int) + (zexn y : Int) = ((zexn x + zexn y : Nat) : Int) by omega, hn, bO_some]
  · rw [if_neg hxy]
    have : (!vd x || !vd y) = true := by
      cases hx : vd x with
      | false => rfl
      | true => cases hy : vd y with
        | false => rfl
        | true => exact absurd ⟨hx, hy⟩ hxy
    rw [this]
    rfl
theorem s_mul' (x y : DQ) : s_MulDOmega x.1 x.2.1 x.2.2.1 x.2.2.2.1 x.2.2.2.2 y.1 y.2.1 y.2.2.1 y.2.2.2.1 y.2.2.2.2 = some (res (if vd x = true ∧ vd y = true then mulF x y else none)) := by
  unfold s_MulDOmega
  have hm := s_mulz (znm x) (znm y)
  have e1 : s_MulZOmega x.1 x.2.1 x.2.2.1 x.2.2.2.1 y.1 y.2.1 y.2.2.1 y.2.2.2.1 = _ := hm
  rw [e1, bO_some, s_vd, bO_some]
  simp only [s_vd, bO_some, br_or, s_MulDOmega_j1]
  by_cases hxy : vd x = true ∧ vd y = true
  · rw [if_pos hxy]
    obtain ⟨hx, hy⟩ := hxy
    obtain ⟨ex1, ex2⟩ := zex_n hx
    obtain ⟨ey1, ey2⟩ := zex_n hy
    rw [hx, hy, ((vd_iff x).1 hx).1, ((vd_iff y).1 hy).1]
    simp only [Bool.not_true, Bool.or_self, Bool.false_or, true_and]
    unfold mulF
    cases hs : vz (mlz (znm x) (znm y)) with
    | false =>
      simp only [Bool.false_eq_true, if_false, resz, Bool.not_false, br_true]
      rfl
    | true =>
      simp only [if_true, resz, Bool.not_true, br_false]
      have hn := s_new (mlz (znm x) (znm y)) ((zexn x + zexn y : Nat) : Int) (by omega)
      rw [Int.toNat_natCast] at hn
      rw [ex1, ey1, w64 (by omega) (by omega), show (zexn x : Int) + (zexn y : Int) = ((zexn x + zexn y : Nat) : Int) by omega, hn, bO_some]
  · rw [if_neg hxy]
    have : (!vd x || !vd y) = true := by
      cases hx : vd x with
      | false => rfl
      | true => cases hy : vd y with
        | false => rfl
        | true => exact absurd ⟨hx, hy⟩ hxy
    rw [this, Bool.true_or]
    rfl
end Go.Proofs.Ytflfodcgoffjkaa
/- Plain laws: matrices of Pauli operators: what they do to a state, and their products. -/
namespace Go.Proofs.Ytflfodcgoffjkaa
open Go.RowKit
set_option maxRecDepth 100000
set_option linter.unusedVariables false
set_option linter.unusedSimpArgs false
/-- The matrix of a Pauli operator. -/
def pe (q : Q4) (c : Nat) : Nat := (q.2.2.2 + 2 * pc (an q.2.2.1 (c : Int))).toNat
def pmE (q : Q4) (r c : Nat) : DQ := if c ^^^ q.2.1.toNat = r then ph4 (pe q c) else d0
def pmR (q : Q4) (r : Nat) : List DQ := (List.range (2 ^ q.1.toNat)).map (pmE q r)
def pmL (q : Q4) : List (List DQ) := (List.range (2 ^ q.1.toNat)).map (pmR q)
def apF : List (List DQ) → List DQ → Option (List DQ)
  | [], _ => some []
  | row :: m, v => (dotF d0 row v).bind fun z => (apF m v).bind fun r => some (z :: r)
theorem apF_map {α : Type} (f : α → List DQ) (g : α → DQ) (v : List DQ) : ∀ (l : List α), (∀ r ∈ l, dotF d0 (f r) v = some (g r)) → apF (l.map f) v = some (l.map g)
  | [], _ => rfl
  | a :: l, h => by
    rw [List.map_cons, apF, h a (List.mem_cons_self ..), Option.bind_some, apF_map f g v l (fun r hr => h r (List.mem_cons_of_mem _ hr))]
    rfl
def pix (q : Q4) (r : Nat) : Nat := r ^^^ q.2.1.toNat
def atp (q : Q4) (v : List DQ) (r : Nat) : DQ := phx (pe q (pix q r)) (v[pix q r]?.getD d0)
/-- A Pauli operator on a state. -/
def apP (q : Q4) (v : List DQ) : List DQ := (List.range (2 ^ q.1.toNat)).map (atp q v)
theorem pix_lt {q : Q4} (hq : vP q = true) {r : Nat} (hr : r < 2 ^ q.1.toNat) : pix q r < 2 ^ q.1.toNat := by
  obtain ⟨n, x, z, p⟩ := q
  obtain ⟨h1, h2, h3, h4⟩ := vP_iff.1 hq
  refine Nat.xor_lt_two_pow hr ?_
  show x.toNat < 2 ^ n.toNat
  have e : ((2 ^ n.toNat : Nat) : Int) = 2 ^ n.toNat := by simp
  omega
theorem pix_pix (q : Q4) (r : Nat) : pix q (pix q r) = r := by unfold pix; rw [Nat.xor_assoc, Nat.xor_self, Nat.xor_zero]
theorem pix_eq {q : Q4} {r c : Nat} : c ^^^ q.2.1.toNat = r ↔ c = pix q r := by
  unfold pix
  constructor
  · rintro rfl; rw [Nat.xor_assoc, Nat.xor_self, Nat.xor_zero]
  · rintro rfl; rw [Nat.xor_assoc, Nat.xor_self, Nat.xor_zero]
theorem dot_pm {q : Q4} (hq : vP q = true) {v : List DQ} (hv : v.length = 2 ^ q.1.toNat) (hd : ∀ x ∈ v, vd x = true) {r : Nat} (hr : r < 2 ^ q.1.toNat) : dotF d0 (pmR q r) v = some (atp q v r) := by
  have hx := pix_lt hq hr
  have hxv : pix q r < v.length := by omega
  have hg : v[pix q r]? = some v[pix q r] := List.getElem?_eq_getElem hxv
  have e : (pmR q r)[pix q r]? = some (ph4 (pe q (pix q r))) := by
    unfold pmR
    rw [List.getElem?_map, List.getElem?_range hx]
    show some (pmE q r (pix q r)) = _
    unfold pmE
    rw [if_pos (pix_eq.2 rfl)]
  rw [dot_single _ v (pix q r) _ _ e hg ?_]
  · rw [ph_mul (hd _ (List.getElem_mem hxv))]
    unfold atp
    rw [hg]; rfl
  · intro i x hi hx
    unfold pmR at hx
    rw [List.getElem?_map] at hx
    by_cases hil : i < 2 ^ q.1.toNat
    · rw [List.getElem?_range hil] at hx
      injection hx with hx
      rw [← hx]
      unfold pmE
      rw [if_neg (fun h => hi (pix_eq.1 h))]
    · rw [List.getElem?_eq_none (by simpa using hil)] at hx
      cases hx
theorem ap_pm {q : Q4} (hq : vP q = true) {v : List DQ} (hv : v.length = 2 ^ q.1.toNat) (hd : ∀ x ∈ v, vd x = true) : apF (pmL q) v = some (apP q v) :=
  apF_map (pmR q) (atp q v) v _ fun r hr => dot_pm hq hv hd (List.mem_range.1 hr)
theorem pm_vd (q : Q4) (r c : Nat) : vd (pmE q r c) = true := by
  unfold pmE; split
  · exact ph_vd4 _
  · exact vd_d0
theorem ap_len (q : Q4) (v : List DQ) : (apP q v).length = 2 ^ q.1.toNat := by simp [apP]
theorem ap_get (q : Q4) (v : List DQ) {r : Nat} (hr : r < 2 ^ q.1.toNat) : (apP q v)[r]? = some (atp q v r) := by
  unfold apP; rw [List.getElem?_map, List.getElem?_range hr]; rfl
theorem ap_vd {q : Q4} {v : List DQ} (hd : ∀ x ∈ v, vd x = true) : ∀ x ∈ apP q v, vd x = true := by
  intro x hx
  obtain ⟨r, _, rfl⟩ := List.mem_map.1 hx
  unfold atp
  refine ph_vd ?_
  cases h : v[pix q r]? with
  | none => exact vd_d0
  | some y => exact hd y (List.mem_of_getElem? h)
theorem pc_xo_fin3 : ∀ a b k : Fin 16, (pc (an (xo (a.val : Int) (b.val : Int)) (k.val : Int)) - pc (an (a.val : Int) (k.val : Int)) - pc (an (b.val : Int) (k.val : Int))) % 2 = 0 := by decide +kernel
/-- The product of two. -/
theorem pm_mul {a b : Q4} (ha : vP a = true) (hb : vP b = true) (hab : a.1 = b.1) {r k : Nat} (hr : r < 2 ^ a.1.toNat) (hk : k < 2 ^ a.1.toNat) : phx (pe a (pix a r)) (pmE b (pix a r) k) = pmE (mulQ a b) r k := by
  obtain ⟨n, x, z, p⟩ := a
  obtain ⟨m, y, w, s⟩ := b
  obtain rfl : n = m := hab
  obtain ⟨sx, sz, hp⟩ := vP_sm ha
  obtain ⟨sy, sw, hs⟩ := vP_sm hb
  have hn := (vP_iff.1 ha).1
  have hk16 : k < 16 := by
    have := pow_le hn
    have e : ((2 ^ n.toNat : Nat) : Int) = 2 ^ n.toNat := by simp
    have hk : k < 2 ^ n.toNat := hk
    omega
  have hk' : Sm (k : Int) := ⟨by omega, by omega⟩
  unfold pmE mulQ
  simp only
  have ex : (xo x y).toNat = x.toNat ^^^ y.toNat := by unfold xo; simp
  have e1 : (k ^^^ y.toNat = pix (n, x, z, p) r) ↔ (k ^^^ (xo x y).toNat = r) := by
    rw [ex]
    unfold pix
    simp only
    constructor
    · intro h
      rw [Nat.xor_comm x.toNat, ← Nat.xor_assoc, h, Nat.xor_assoc, Nat.xor_self, Nat.xor_zero]
    · rintro rfl
      rw [Nat.xor_comm x.toNat, ← Nat.xor_assoc, Nat.xor_assoc, Nat.xor_self, Nat.xor_zero]
  by_cases h : k ^^^ y.toNat = pix (n, x, z, p) r
  · rw [if_pos h, if_pos (e1.1 h), ph_ph4, ← h]
    refine ph4_congr ?_
    unfold pe
    simp only
    have c1 : ((k ^^^ y.toNat : Nat) : Int) = xo (k : Int) y := by unfold xo; simp
    have p1 := pc_xo sz hk' sy
    obtain ⟨fz, rz⟩ := sz.fin
    obtain ⟨fw, rw'⟩ := sw.fin
    have p2 := pc_xo_fin3 fz fw ⟨k, hk16⟩
    rw [← rz, ← rw'] at p2
    simp only at p2
    rw [c1]
    have q1 := pc_bd (an z (xo (k : Int) y))
    have q2 := pc_bd (an w (k : Int))
    have q3 := pc_bd (an (xo z w) (k : Int))
    have q4 := pc_bd (an z y)
    have q5 := pc_bd (an z (k : Int))
    omega
  · rw [if_neg h, if_neg (fun h' => h (e1.2 h')), ph_d0]
end Go.Proofs.Ytflfodcgoffjkaa
/- Plain laws: states, matrices and sums of products of both sides. -/
namespace Go.Proofs.Ytflfodcgoffjkaa
open Go.RowKit
set_option maxRecDepth 100000
set_option linter.unusedVariables false
set_option linter.unusedSimpArgs false
/-- A valid state. -/
def qcF (n : Nat) : Int := if n = 2 then 1 else if n = 4 then 2 else if n = 8 then 3 else if n = 16 then 4 else 0
def stB (v : List DQ) : Bool := v.all vd && decide (0 < qcF v.length)
theorem qc_pos {n : Nat} (h : 0 < qcF n) : n ≤ 16 := by unfold qcF at h; (repeat' split at h) <;> omega
def gBv {α : Type} (f : α → Bool) (v : List α) (k : Nat) : Bool := match v[k]? with
  | some q => f q
  | none => false
theorem gBv_eq {α : Type} (f : α → Bool) {v : List α} {k : Nat} (h : k < v.length) : gBv f v k = f v[k] := by unfold gBv; rw [List.getElem?_eq_getElem h]
theorem all_get {α : Type} (v : List α) (f : α → Bool) : (List.range v.length).all (gBv f v) = v.all f := by
  rw [Bool.eq_iff_iff, List.all_eq_true, List.all_eq_true]
  constructor
  · intro h q hq
    obtain ⟨i, hi, rfl⟩ := List.getElem_of_mem hq
    have := h i (List.mem_range.2 hi)
    rw [gBv_eq f hi] at this
    exact this
  · intro h k hk
    have hk := List.mem_range.1 hk
    rw [gBv_eq f hk]
    exact h _ (List.getElem_mem hk)
def mtB (m : List (List DQ)) : Bool := m.all (fun row => row.length == m.length && stB row) && decide (0 < (m.length : Int))
def resl (o : Option (List DQ)) : List DQ × Bool := match o with
  | some r => (r, true)
  | none => ([], false)
theorem qcF_5 (n : Nat) : (if (n : Int) = 2 then (1 : Int) else if (n : Int) = 4 then 2 else if (n : Int) = 8 then 3 else if (n : Int) = 16 then 4 else 0) = qcF n := by
  unfold qcF
  by_cases h2 : n = 2
  · subst h2; rfl
  by_cases h4 : n = 4
  · subst h4; rfl
  by_cases h8 : n = 8
  · subst h8; rfl
  by_cases h16 : n = 16
  · subst h16; rfl
  rw [if_neg (by omega), if_neg (by omega), if_neg (by omega), if_neg (by omega), if_neg h2, if_neg h4, if_neg h8, if_neg h16]
theorem d0_eq (q : DQ) : ((q.1 == 0) && ((q.2.1 == 0) && ((q.2.2.1 == 0) && ((q.2.2.2.1 == 0) && (q.2.2.2.2 == 0))))) = decide (q = d0) := by
  obtain ⟨a, b, c, d, e⟩ := q
  rw [Bool.eq_iff_iff]
  simp [d0]
theorem i_qc (v : List DQ) : i_QubitCount v = some (qcF v.length) := by
  unfold i_QubitCount
  have st : ∀ (m : Nat) (j : Nat), 1 ≤ j ∧ j ≤ 4 → i_QubitCount_l1 v (m + 1) (j : Int) = br ((v.length : Int) == (2 : Int) ^ j) (some (j : Int)) (i_QubitCount_l1 v m ((j + 1 : Nat) : Int)) := by
    intro m j hj
    have : j = 1 ∨ j = 2 ∨ j = 3 ∨ j = 4 := by omega
    rw [i_QubitCount_l1]
    rcases this with rfl | rfl | rfl | rfl <;> rfl
  have s5 : ∀ m, i_QubitCount_l1 v (m + 1) ((5 : Nat) : Int) = some 0 := by
    intro m
    rw [i_QubitCount_l1]
    rfl
  obtain ⟨k, hk⟩ : ∃ k, FU = ((((k + 1) + 1) + 1) + 1) + 1 := ⟨4194299, rfl⟩
  have h1 := st ((((k + 1) + 1) + 1) + 1) 1 (by omega)
  have h2 := st (((k + 1) + 1) + 1) 2 (by omega)
  have h3 := st ((k + 1) + 1) 3 (by omega)
  have h4 := st (k + 1) 4 (by omega)
  have h5 := s5 k
  rw [hk]
  show i_QubitCount_l1 v (((((k + 1) + 1) + 1) + 1) + 1) ((1 : Nat) : Int) = _
  rw [h1, h2, h3, h4, h5, ← qcF_5]
  generalize (v.length : Int) = L
  show br (L == 2) (some 1) (br (L == 4) (some 2) (br (L == 8) (some 3) (br (L == 16) (some 4) (some 0)))) = _
  by_cases e2 : L = 2
  · subst e2; rfl
  by_cases e4 : L = 4
  · subst e4; rfl
  by_cases e8 : L = 8
  · subst e8; rfl
  by_cases e16 : L = 16
  · subst e16; rfl
  have c2 : (L == 2) = false := by simpa using e2
  have c4 : (L == 4) = false := by simpa using e4
  have c8 : (L == 8) = false := by simpa using e8
  have c16 : (L == 16) = false := by simpa using e16
  rw [c2, c4, c8, c16, if_neg e2, if_neg e4, if_neg e8, if_neg e16]
  rfl
theorem s_qc (v : List DQ) : s_QubitCount v = some (qcF v.length) := by
  unfold s_QubitCount
  have st : ∀ (m : Nat) (j : Nat), 1 ≤ j ∧ j ≤ 4 → s_QubitCount_l1 v (m + 1) (j : Int) = br ((v.length : Int) == (2 : Int) ^ j) (some (j : Int)) (s_QubitCount_l1 v m ((j + 1 : Nat) : Int)) := by
    intro m j hj
    have : j = 1 ∨ j = 2 ∨ j = 3 ∨ j = 4 := by omega
    rw [s_QubitCount_l1]
    rcases this with rfl | rfl | rfl | rfl <;> rfl
  have s5 : ∀ m, s_QubitCount_l1 v (m + 1) ((5 : Nat) : Int) = some 0 := by
    intro m
    rw [s_QubitCount_l1]
    rfl
  obtain ⟨k, hk⟩ : ∃ k, FU = ((((k + 1) + 1) + 1) + 1) + 1 := ⟨4194299, rfl⟩
  have h1 := st ((((k + 1) + 1) + 1) + 1) 1 (by omega)
  have h2 := st (((k + 1) + 1) + 1) 2 (by omega)
  have h3 := st ((k + 1) + 1) 3 (by omega)
  have h4 := st (k + 1) 4 (by omega)
  have h5 := s5 k
  rw [hk]
  show s_QubitCount_l1 v (((((k + 1) + 1) + 1) + 1) + 1) ((1 : Nat) : Int) = _
  rw [h1, h2, h3, h4, h5, ← qcF_5]
  generalize (v.length : Int) = L
  show br (L == 2) (some 1) (br (L == 4) (some 2) (br (L == 8) (some 3) (br (L == 16) (some 4) (some 0)))) = _
  by_cases e2 : L = 2
  · subst e2; rfl
  by_cases e4 : L = 4
  · subst e4; rfl
  by_cases e8 : L = 8
  · subst e8; rfl
  by_cases e16 : L = 16
  · subst e16; rfl
  have c2 : (L == 2) = false := by simpa using e2
  have c4 : (L == 4) = false := by simpa using e4
  have c8 : (L == 8) = false := by simpa using e8
  have c16 : (L == 16) = false := by simpa using e16
  rw [c2, c4, c8, c16, if_neg e2, if_neg e4, if_neg e8, if_neg e16]
  rfl
theorem i_st (v : List DQ) (hl : v.length ≤ 4000000) : i_IsValidState v = some (stB v) := by
  unfold i_IsValidState
  rw [i_qc, bO_some]
  unfold stB
  by_cases h0 : qcF v.length = 0
  · rw [h0]
    simp only [beq_self_eq_true, br_true, Int.lt_irrefl, decide_false, Bool.and_false]
  · have c : (qcF v.length == 0) = false := by simpa using h0
    have hp : 0 < qcF v.length := by unfold qcF at h0 ⊢; (repeat' split) <;> simp_all
    rw [c, br_false, decide_eq_true hp, Bool.and_true, ← all_get]
    rw [loop_all0 (fun m k => i_IsValidState_l1 v m (v.length : Int) k) v.length (gBv vd v) hl (fun m k hk => ?_) (some true) (fun m => ?_)]
    · cases (List.range v.length).all (gBv vd v) <;> rfl
    · have hlt : decide ((k : Int) < (v.length : Int)) = true := decide_eq_true (by omega)
      show i_IsValidState_l1 v (m + 1) (v.length : Int) (k : Int) = _
      rw [i_IsValidState_l1, hlt, br_true, geti_lt hk, bO_some, i_vd, bO_some, w64s hk (by omega), gBv_eq vd hk]
      cases vd v[k] <;> rfl
    · have hlt : decide ((v.length : Int) < (v.length : Int)) = false := decide_eq_false (by omega)
      show i_IsValidState_l1 v (m + 1) (v.length : Int) (v.length : Int) = _
      rw [i_IsValidState_l1, hlt, br_false]
      rfl
theorem s_st (v : List DQ) (hl : v.length ≤ 4000000) : s_IsValidState v = some (stB v) := by
  unfold s_IsValidState
  unfold stB
  rw [← all_get]
  rw [loop_all0 (fun m k => s_IsValidState_l1 v m k) v.length (gBv vd v) hl (fun m k hk => ?_) (some (decide (0 < qcF v.length))) (fun m => ?_)]
  · cases (List.range v.length).all (gBv vd v) <;> rfl
  · have hlt : decide ((k : Int) < (v.length : Int)) = true := decide_eq_true (by omega)
    show s_IsValidState_l1 v (m + 1) (k : Int) = _
    rw [s_IsValidState_l1, hlt, br_true, geti_lt hk, bO_some, s_vd, bO_some, w64s hk (by omega), gBv_eq vd hk]
    cases vd v[k] <;> rfl
  · have hlt : decide ((v.length : Int) < (v.length : Int)) = false := decide_eq_false (by omega)
    show s_IsValidState_l1 v (m + 1) (v.length : Int) = _
    rw [s_IsValidState_l1, hlt, br_false]
    unfold s_IsValidState_j1
    rw [s_qc, bO_some]
theorem i_mt (m : List (List DQ)) (hl : m.length ≤ 4000000) (hr : ∀ r ∈ m, r.length ≤ 4000000) : i_IsValidMatrix m = some (mtB m) := by
  unfold i_IsValidMatrix mtB
  rw [← all_get]
  rw [loop_all0 (fun k i => i_IsValidMatrix_l1 m k (m.length : Int) i) m.length (gBv (fun row => row.length == m.length && stB row) m) hl (fun k i hk => ?_) (some (decide (0 < (m.length : Int)))) (fun k => ?_)]
  · cases (List.range m.length).all (gBv (fun row => row.length == m.length && stB row) m) <;> rfl
  · have hlt : decide ((i : Int) < (m.length : Int)) = true := decide_eq_true (by omega)
    show i_IsValidMatrix_l1 m (k + 1) (m.length : Int) (i : Int) = _
    rw [i_IsValidMatrix_l1, hlt, br_true, geti_lt hk, bO_some, i_st _ (hr _ (List.getElem_mem hk)), bO_some, br_or, gBv_eq (fun row => row.length == m.length && stB row) hk]
    unfold i_IsValidMatrix_j4
    rw [w64s hk (by omega)]
    by_cases e : m[i].length = m.length
    · have c1 : ((m[i].length : Int) != (m.length : Int)) = false := by rw [e]; simp
      have c2 : (m[i].length == m.length) = true := by simpa using e
      simp only [c1, c2, Bool.false_or, Bool.true_and]
      cases stB m[i] <;> rfl
    · have c1 : ((m[i].length : Int) != (m.length : Int)) = true := by simp; omega
      have c2 : (m[i].length == m.length) = false := by simpa using e
      simp only [c1, c2, Bool.true_or, Bool.false_and]
      rfl
  · have hlt : decide ((m.length : Int) < (m.length : Int)) = false := decide_eq_false (by omega)
    show i_IsValidMatrix_l1 m (k + 1) (m.length : Int) (m.length : Int) = _
    rw [i_IsValidMatrix_l1, hlt, br_false]
    rfl
theorem s_mt (m : List (List DQ)) (hl : m.length ≤ 4000000) (hr : ∀ r ∈ m, r.length ≤ 4000000) : s_IsValidMatrix m = some (mtB m) := by
  unfold s_IsValidMatrix mtB
  rw [← all_get]
  rw [loop_all0 (fun k i => s_IsValidMatrix_l1 m k i) m.length (gBv (fun row => row.length == m.length && stB row) m) hl (fun k i hk => ?_) (some (decide (0 < (m.length : Int)))) (fun k => ?_)]
  · cases (List.range m.length).all (gBv (fun row => row.length == m.length && stB row) m) <;> rfl
  · have hlt : decide ((i : Int) < (m.length : Int)) = true := decide_eq_true (by omega)
    show s_IsValidMatrix_l1 m (k + 1) (i : Int) = _
    rw [s_IsValidMatrix_l1, hlt, br_true, geti_lt hk, bO_some, s_st _ (hr _ (List.getElem_mem hk)), bO_some, br_or, gBv_eq (fun row => row.length == m.length && stB row) hk]
    unfold s_IsValidMatrix_j4
    rw [w64s hk (by omega)]
    by_cases e : m[i].length = m.length
    · have c1 : ((m[i].length : Int) != (m.length : Int)) = false := by rw [e]; simp
      have c2 : (m[i].length == m.length) = true := by simpa using e
      simp only [c1, c2, Bool.false_or, Bool.true_and]
      cases stB m[i] <;> rfl
    · have c1 : ((m[i].length : Int) != (m.length : Int)) = true := by simp; omega
      have c2 : (m[i].length == m.length) = false := by simpa using e
      simp only [c1, c2, Bool.true_or, Bool.false_and]
      rfl
  · have hlt : decide ((m.length : Int) < (m.length : Int)) = false := decide_eq_false (by omega)
    show s_IsValidMatrix_l1 m (k + 1) (m.length : Int) = _
    rw [s_IsValidMatrix_l1, hlt, br_false]
    rfl
theorem i_dot_eq (row v : List DQ) (hl : row.length ≤ 4000000) (hlen : row.length = v.length) (hr : ∀ x ∈ row, vd x = true) (hv : ∀ x ∈ v, vd x = true) : i_dot row v = some (res (dotF d0 row v)) := by
  unfold i_dot
  have key : ∀ (m i : Nat) (s : DQ), i ≤ row.length → row.length - i < m → vd s = true → i_dot_l1 row v m (row.length : Int) i s.1 s.2.1 s.2.2.1 s.2.2.2.1 s.2.2.2.2 = some (res (dotF s (row.drop i) (v.drop i))) := by
    intro m
    induction m with
    | zero => intro i s _ h; omega
    | succ m ih =>
      intro i s hi hm hs
      rw [i_dot_l1]
      by_cases e : i = row.length
      · have hlt : decide ((i : Int) < (row.length : Int)) = false := decide_eq_false (by omega)
        rw [hlt, br_false, List.drop_eq_nil_of_le (by omega)]
        rfl
      · have hil : i < row.length := by omega
        have hiv : i < v.length := by omega
        have hlt : decide ((i : Int) < (row.length : Int)) = true := decide_eq_true (by omega)
        have v1 := hr _ (List.getElem_mem hil)
        have v2 := hv _ (List.getElem_mem hiv)
        rw [hlt, br_true, geti_lt hil, bO_some, geti_lt hiv, bO_some, i_mul', bO_some, if_pos ⟨v1, v2⟩, List.drop_eq_getElem_cons hil, List.drop_eq_getElem_cons hiv]
        unfold dotF
        cases hmu : mulF row[i] v[i] with
        | none =>
          have ha := i_add s d0
          unfold d0 at ha
          simp only at ha
          simp only [res]
          rw [ha, bO_some]
          rfl
        | some p =>
          have vp := (mul_val hmu).1
          have ha := i_add s p
          rw [if_pos ⟨hs, vp⟩] at ha
          simp only [res]
          rw [ha, bO_some]
          cases had : addF s p with
          | none =>
            rw [Option.bind_some, had]
            rfl
          | some z =>
            rw [Option.bind_some, had, Option.bind_some]
            simp only [res, Bool.not_true, br_false, bO_some, i_dot_j4]
            rw [w64s hil (by omega)]
            exact ih (i + 1) z (by omega) (by omega) (add_val had).1
  exact key FU 0 d0 (by omega) (by rw [FU_eq]; omega) vd_d0
theorem s_dot_eq (row v : List DQ) (hl : row.length ≤ 4000000) (hlen : row.length = v.length) (hr : ∀ x ∈ row, vd x = true) (hv : ∀ x ∈ v, vd x = true) : s_l7Row row v = some (res (dotF d0 row v)) := by
  unfold s_l7Row
  have key : ∀ (m i : Nat) (s : DQ), i ≤ row.length → row.length - i < m → vd s = true → s_l7Row_l1 row v m i s.1 s.2.1 s.2.2.1 s.2.2.2.1 s.2.2.2.2 = some (res (dotF s (row.drop i) (v.drop i))) := by
    intro m
    induction m with
    | zero => intro i s _ h; omega
    | succ m ih =>
      intro i s hi hm hs
      rw [s_l7Row_l1]
      by_cases e : i = row.length
      · have hlt : decide ((i : Int) < (row.length : Int)) = false := decide_eq_false (by omega)
        rw [hlt, br_false, List.drop_eq_nil_of_le (by omega)]
        rfl
      · have hil : i < row.length := by omega
        have hiv : i < v.length := by omega
        have hlt : decide ((i : Int) < (row.length : Int)) = true := decide_eq_true (by omega)
        have v1 := hr _ (List.getElem_mem hil)
        have v2 := hv _ (List.getElem_mem hiv)
        rw [hlt, br_true, geti_lt hil, bO_some, geti_lt hiv, bO_some, br_or, d0_eq, d0_eq, List.drop_eq_getElem_cons hil, List.drop_eq_getElem_cons hiv]
        unfold dotF s_l7Row_j9
        by_cases h0 : row[i] = d0 ∨ v[i] = d0
        · have c : (decide (row[i] = d0) || decide (v[i] = d0)) = true := by simpa using h0
          have hm0 : mulF row[i] v[i] = some d0 := by
            rcases h0 with h | h
            · rw [h, mul_0l]
            · rw [h, mul_0r]
          rw [c, br_true, hm0, Option.bind_some, add_0r hs, Option.bind_some]
          unfold s_l7Row_j8
          rw [w64s hil (by omega)]
          exact ih (i + 1) s (by omega) (by omega) hs
        · have c : (decide (row[i] = d0) || decide (v[i] = d0)) = false := by simpa using h0
          rw [c, br_false, geti_lt hil, bO_some, geti_lt hiv, bO_some, s_mul', bO_some, if_pos ⟨v1, v2⟩]
          cases hmu : mulF row[i] v[i] with
          | none =>
            have ha := s_add s d0
            unfold d0 at ha
            simp only at ha
            simp only [res]
            rw [ha, bO_some]
            rfl
          | some p =>
            have vp := (mul_val hmu).1
            have ha := s_add s p
            rw [if_pos ⟨hs, vp⟩] at ha
            simp only [res]
            rw [ha, bO_some]
            cases had : addF s p with
            | none =>
              rw [Option.bind_some, had]
              rfl
            | some z =>
              rw [Option.bind_some, had, Option.bind_some]
              simp only [res, Bool.not_true, br_false, bO_some, s_l7Row_j10, s_l7Row_j8]
              rw [w64s hil (by omega)]
              exact ih (i + 1) z (by omega) (by omega) (add_val had).1
  exact key FU 0 d0 (by omega) (by rw [FU_eq]; omega) vd_d0
theorem st_inv {v : List DQ} (h : stB v = true) : (∀ x ∈ v, vd x = true) ∧ v.length ≤ 16 := by
  unfold stB at h
  rw [Bool.and_eq_true, List.all_eq_true, decide_eq_true_eq] at h
  exact ⟨h.1, qc_pos h.2⟩
theorem mt_inv {m : List (List DQ)} (h : mtB m = true) : ∀ r ∈ m, r.length = m.length ∧ stB r = true := by
  unfold mtB at h
  rw [Bool.and_eq_true, List.all_eq_true] at h
  intro r hr
  have := h.1 r hr
  simp only [Bool.and_eq_true, beq_iff_eq] at this
  exact this
def apM (m : List (List DQ)) (v : List DQ) : Option (List DQ) := if (mtB m = true ∧ stB v = true) ∧ m.length = v.length then apF m v else none
theorem i_apply (m : List (List DQ)) (v : List DQ) (hl : m.length ≤ 1048576) (hr : ∀ r ∈ m, r.length ≤ 1048576) (hv : v.length ≤ 1048576) : i_ApplyMatrix m v = some (resl (apM m v)) := by
  unfold i_ApplyMatrix
  rw [i_mt m (by omega) (fun r h => by have := hr r h; omega), i_st v (by omega), bO_some]
  simp only [bO_some, br_or]
  unfold i_ApplyMatrix_j1 apM
  by_cases hg : (mtB m = true ∧ stB v = true) ∧ m.length = v.length
  · rw [if_pos hg]
    obtain ⟨⟨h1, h2⟩, h3⟩ := hg
    obtain ⟨hvd, h16⟩ := st_inv h2
    have hne : ((m.length : Int) != (v.length : Int)) = false := by rw [h3]; simp
    rw [h1, h2, hne]
    simp only [Bool.not_true, Bool.or_self, br_false]
    have key : ∀ (k i : Nat) (out : List DQ), i ≤ m.length → m.length - i < k → out.length = i → i_ApplyMatrix_l1 m v k (m.length : Int) i out = some (resl ((apF (m.drop i) v).map (out ++ ·))) := by
      intro k
      induction k with
      | zero => intro i out _ h; omega
      | succ k ih =>
        intro i out hi hk ho
        rw [i_ApplyMatrix_l1]
        by_cases e : i = m.length
        · have hlt : decide ((i : Int) < (m.length : Int)) = false := decide_eq_false (by omega)
          rw [hlt, br_false, List.drop_eq_nil_of_le (by omega)]
          simp only [i_ApplyMatrix_j2, apF, Option.map_some, List.append_nil]
          rfl
        · have hil : i < m.length := by omega
          have hlt : decide ((i : Int) < (m.length : Int)) = true := decide_eq_true (by omega)
          obtain ⟨r1, r2⟩ := mt_inv h1 _ (List.getElem_mem hil)
          rw [hlt, br_true, geti_lt hil, bO_some, i_dot_eq _ v (by omega) (by omega) (st_inv r2).1 hvd, bO_some, List.drop_eq_getElem_cons hil]
          unfold apF
          cases hd : dotF d0 m[i] v with
          | none => rfl
          | some z =>
            simp only [res, Bool.not_true, br_false, Option.bind_some]
            rw [show decide (out.length + [((z.1, z.2.1, z.2.2.1, z.2.2.2.1, z.2.2.2.2) : DQ)].length ≤ 16777216) = true from decide_eq_true (by simp; omega), gd_true, w64s hil (by omega), ih (i + 1) _ (by omega) (by omega) (by simp; omega)]
            cases apF (m.drop (i + 1)) v with
            | none => rfl
            | some r =>
              simp only [Option.bind_some, Option.map_some, List.append_assoc, List.singleton_append]
    have hk := key FU 0 [] (by omega) (by rw [FU_eq]; omega) rfl
    rw [List.drop_zero] at hk
    refine Eq.trans hk ?_
    cases apF m v <;> rfl
  · rw [if_neg hg]
    have : ((!mtB m || !stB v) || ((m.length : Int) != (v.length : Int))) = true := by
      cases h1 : mtB m with
      | false => rfl
      | true =>
        cases h2 : stB v with
        | false => rfl
        | true =>
          have : m.length ≠ v.length := fun h3 => hg ⟨⟨h1, h2⟩, h3⟩
          simp
          omega
    rw [this]
    rfl
theorem s_apply (m : List (List DQ)) (v : List DQ) (hl : m.length ≤ 1048576) (hr : ∀ r ∈ m, r.length ≤ 1048576) (hv : v.length ≤ 1048576) : s_ApplyMatrix m v = some (resl (apM m v)) := by
  unfold s_ApplyMatrix
  rw [s_mt m (by omega) (fun r h => by have := hr r h; omega), s_st v (by omega), bO_some]
  simp only [bO_some, br_or]
  unfold s_ApplyMatrix_j1 apM
  by_cases hg : (mtB m = true ∧ stB v = true) ∧ m.length = v.length
  · rw [if_pos hg]
    obtain ⟨⟨h1, h2⟩, h3⟩ := hg
    obtain ⟨hvd, h16⟩ := st_inv h2
    have hne : ((m.length : Int) != (v.length : Int)) = false := by rw [h3]; simp
    rw [h1, h2, hne]
    simp only [Bool.not_true, Bool.or_self, br_false]
    have key : ∀ (k i : Nat) (out : List DQ), i ≤ m.length → m.length - i < k → out.length = i → s_ApplyMatrix_l1 m v k i out = some (resl ((apF (m.drop i) v).map (out ++ ·))) := by
      intro k
      induction k with
      | zero => intro i out _ h; omega
      | succ k ih =>
        intro i out hi hk ho
        rw [s_ApplyMatrix_l1]
        by_cases e : i = m.length
        · have hlt : decide ((i : Int) < (m.length : Int)) = false := decide_eq_false (by omega)
          rw [hlt, br_false, List.drop_eq_nil_of_le (by omega)]
          simp only [s_ApplyMatrix_j2, apF, Option.map_some, List.append_nil]
          rfl
        · have hil : i < m.length := by omega
          have hlt : decide ((i : Int) < (m.length : Int)) = true := decide_eq_true (by omega)
          obtain ⟨r1, r2⟩ := mt_inv h1 _ (List.getElem_mem hil)
          rw [hlt, br_true, geti_lt hil, bO_some, s_dot_eq _ v (by omega) (by omega) (st_inv r2).1 hvd, bO_some, List.drop_eq_getElem_cons hil]
          unfold apF
          cases hd : dotF d0 m[i] v with
          | none => rfl
          | some z =>
            simp only [res, Bool.not_true, br_false, Option.bind_some]
            rw [show decide (out.length + [((z.1, z.2.1, z.2.2.1, z.2.2.2.1, z.2.2.2.2) : DQ)].length ≤ 16777216) = true from decide_eq_true (by simp; omega), gd_true, w64s hil (by omega), ih (i + 1) _ (by omega) (by omega) (by simp; omega)]
            cases apF (m.drop (i + 1)) v with
            | none => rfl
            | some r =>
              simp only [Option.bind_some, Option.map_some, List.append_assoc, List.singleton_append]
    have hk := key FU 0 [] (by omega) (by rw [FU_eq]; omega) rfl
    rw [List.drop_zero] at hk
    refine Eq.trans hk ?_
    cases apF m v <;> rfl
  · rw [if_neg hg]
    have : ((!mtB m || !stB v) || ((m.length : Int) != (v.length : Int))) = true := by
      cases h1 : mtB m with
      | false => rfl
      | true =>
        cases h2 : stB v with
        | false => rfl
        | true =>
          have : m.length ≠ v.length := fun h3 => hg ⟨⟨h1, h2⟩, h3⟩
          simp
          omega
    rw [this]
    rfl
theorem eqs_step {a b : List DQ} (h : a.length = b.length) : (List.range a.length).all (fun k => a[k]? == b[k]?) = (a == b) := by
  rw [Bool.eq_iff_iff, List.all_eq_true, beq_iff_eq]
  constructor
  · intro hh
    refine List.ext_getElem? fun k => ?_
    by_cases hk : k < a.length
    · exact eq_of_beq (hh k (List.mem_range.2 hk))
    · rw [List.getElem?_eq_none (by omega), List.getElem?_eq_none (by omega)]
  · intro hh k _; rw [hh]; exact beq_self_eq_true _
end Go.Proofs.Ytflfodcgoffjkaa
/- Plain laws: the matrices of Pauli operators of both sides. -/
namespace Go.Proofs.Ytflfodcgoffjkaa
open Go.RowKit
set_option maxRecDepth 100000
set_option linter.unusedVariables false
set_option linter.unusedSimpArgs false
/-- A table of numbers. -/
def tbF (n : Nat) (g : Nat → Nat → DQ) : List (List DQ) := (List.range n).map fun a => (List.range n).map (g a)
theorem rg_get {α : Type} {n k : Nat} (f : Nat → α) (h : k < n) : geti ((List.range n).map f) (k : Int) = some (f k) := geti_nat (by rw [List.getElem?_map, List.getElem?_range h]; rfl)
theorem tb_get {n k : Nat} (g : Nat → Nat → DQ) (h : k < n) : geti (tbF n g) (k : Int) = some ((List.range n).map (g k)) := rg_get _ h
theorem tb_len (n : Nat) (g : Nat → Nat → DQ) : (tbF n g).length = n := by simp [tbF]
theorem rg_snoc {α : Type} (f : Nat → α) (k : Nat) : (List.range k).map f ++ [f k] = (List.range (k + 1)).map f := by rw [List.range_succ, List.map_append]; rfl
theorem s_col {n k : Nat} (g : Nat → Nat → DQ) (hn : n ≤ 4000) (h : k < n) : s_l7Column (tbF n g) (k : Int) = some ((List.range n).map fun a => g a k) := by
  unfold s_l7Column
  have key : ∀ (m i : Nat), i ≤ n → n - i < m → s_l7Column_l1 (tbF n g) (k : Int) m i ((List.range i).map fun a => g a k) = some ((List.range n).map fun a => g a k) := by
    intro m
    induction m with
    | zero => intro i _ h; omega
    | succ m ih =>
      intro i hi hm
      rw [s_l7Column_l1, tb_len]
      by_cases e : i = n
      · have hlt : decide ((i : Int) < (n : Int)) = false := decide_eq_false (by omega)
        rw [hlt, br_false, e]
        rfl
      · have hil : i < n := by omega
        have hlt : decide ((i : Int) < (n : Int)) = true := decide_eq_true (by omega)
        rw [hlt, br_true, tb_get g hil, bO_some, rg_get (g i) h, bO_some, show decide (((List.range i).map fun a => g a k).length + [(((g i k).1, (g i k).2.1, (g i k).2.2.1, (g i k).2.2.2.1, (g i k).2.2.2.2) : DQ)].length ≤ 16777216) = true from decide_eq_true (by simp; omega), gd_true, w64s hil (by omega)]
        have := ih (i + 1) (by omega) (by omega)
        rw [← rg_snoc] at this
        exact this
  exact key FU 0 (by omega) (by rw [FU_eq]; omega)
theorem s_cols {n : Nat} (g : Nat → Nat → DQ) (hn : n ≤ 4000) : s_l7Columns (tbF n g) = some (tbF n fun a b => g b a) := by
  unfold s_l7Columns
  have key : ∀ (m i : Nat), i ≤ n → n - i < m → s_l7Columns_l1 (tbF n g) m i ((List.range i).map fun a => (List.range n).map fun b => g b a) = some (tbF n fun a b => g b a) := by
    intro m
    induction m with
    | zero => intro i _ h; omega
    | succ m ih =>
      intro i hi hm
      rw [s_l7Columns_l1, tb_len]
      by_cases e : i = n
      · have hlt : decide ((i : Int) < (n : Int)) = false := decide_eq_false (by omega)
        rw [hlt, br_false, e]
        rfl
      · have hil : i < n := by omega
        have hlt : decide ((i : Int) < (n : Int)) = true := decide_eq_true (by omega)
        rw [hlt, br_true, s_col g hn hil, bO_some, show decide (((List.range i).map fun a => (List.range n).map fun b => g b a).length + [(List.range n).map fun a => g a i].length ≤ 16777216) = true from decide_eq_true (by simp; omega), gd_true, w64s hil (by omega)]
        have := ih (i + 1) (by omega) (by omega)
        rw [← rg_snoc] at this
        exact this
  exact key FU 0 (by omega) (by rw [FU_eq]; omega)
theorem i_flip {n : Nat} (g : Nat → Nat → DQ) (hn : n ≤ 4000) : i_flipped (tbF n g) = some (tbF n fun a b => g b a) := by
  unfold i_flipped
  have inner : ∀ (i : Nat) (out : List (List DQ)) (kl : Int → Int → List (List DQ) → Option (List (List DQ))), i < n → out.length ≤ 4000 → ∀ (m j : Nat), j ≤ n → n - j < m →
      i_flipped_l4 (tbF n g) (n : Int) (i : Int) out kl m (n : Int) j ((List.range j).map fun a => g a i) = kl (n : Int) ((i + 1 : Nat) : Int) (out ++ [(List.range n).map fun a => g a i]) := by
    intro i out kl hi ho m
    induction m with
    | zero => intro j _ h; omega
    | succ m ih =>
      intro j hj hm
      rw [i_flipped_l4]
      by_cases e : j = n
      · have hlt : decide ((j : Int) < (n : Int)) = false := decide_eq_false (by omega)
        rw [hlt, br_false, e]
        unfold i_flipped_j7 i_flipped_j6
        rw [show decide (out.length + [(List.range n).map fun a => g a i].length ≤ 16777216) = true from decide_eq_true (by simp; omega), gd_true, w64s hi (by omega)]
      · have hjl : j < n := by omega
        have hlt : decide ((j : Int) < (n : Int)) = true := decide_eq_true (by omega)
        rw [hlt, br_true, tb_get g hjl, bO_some, rg_get (g j) hi, bO_some, show decide (((List.range j).map fun a => g a i).length + [(((g j i).1, (g j i).2.1, (g j i).2.2.1, (g j i).2.2.2.1, (g j i).2.2.2.2) : DQ)].length ≤ 16777216) = true from decide_eq_true (by simp; omega), gd_true, w64s hjl (by omega)]
        have := ih (j + 1) (by omega) (by omega)
        rw [← rg_snoc] at this
        exact this
  have key : ∀ (m i : Nat), i ≤ n → n - i < m → i_flipped_l1 (tbF n g) m (n : Int) i ((List.range i).map fun a => (List.range n).map fun b => g b a) = some (tbF n fun a b => g b a) := by
    intro m
    induction m with
    | zero => intro i _ h; omega
    | succ m ih =>
      intro i hi hm
      rw [i_flipped_l1, tb_len]
      by_cases e : i = n
      · have hlt : decide ((i : Int) < (n : Int)) = false := decide_eq_false (by omega)
        rw [hlt, br_false, e]
        rfl
      · have hil : i < n := by omega
        have hlt : decide ((i : Int) < (n : Int)) = true := decide_eq_true (by omega)
        rw [hlt, br_true]
        have h1 := inner i ((List.range i).map fun a => (List.range n).map fun b => g b a) (i_flipped_l1 (tbF n g) m) hil (by simp; omega) FU 0 (by omega) (by rw [FU_eq]; omega)
        refine Eq.trans h1 ?_
        have := ih (i + 1) (by omega) (by omega)
        rw [← rg_snoc] at this
        exact this
  have := key FU 0 (by omega) (by rw [FU_eq]; omega)
  rw [tb_len]
  exact this
/-- A column as it is made. -/
theorem set_col {n c : Nat} (q : DQ) (hc : c < n) : (List.replicate n ((0, 0, 0, 0, 0) : Int × Int × Int × Int × Int)).set c q = (List.range n).map fun r => if c = r then q else d0 := by
  refine List.ext_getElem? fun r => ?_
  rw [List.getElem?_set, List.getElem?_map]
  by_cases hr : r < n
  · rw [List.getElem?_range hr, List.getElem?_replicate]
    by_cases e : c = r
    · subst e
      rw [if_pos rfl, if_pos (by simpa using hr)]
      show some q = some (if c = c then q else d0)
      rw [if_pos rfl]
    · rw [if_neg e, if_pos hr]
      show some (0, 0, 0, 0, 0) = some (if c = r then q else d0)
      rw [if_neg e]
      rfl
  · rw [if_neg (by omega), List.getElem?_eq_none (by simpa using hr), List.getElem?_eq_none (by simpa using hr)]
    rfl
theorem pf_i : ∀ p : Fin 4, ∀ c : Fin 5, i_PhaseFactor (IntKind.wrap .i64 ((IntKind.wrap .i64 (2 * (p.val : Int))) + (IntKind.wrap .i64 (4 * (c.val : Int))))) = some (ph4 ((p.val : Int) + 2 * (c.val : Int)).toNat) := by decide +kernel
theorem pf_s : ∀ p : Fin 4, ∀ c : Fin 5, s_PhaseFactor (IntKind.wrap .i64 ((IntKind.wrap .i64 (2 * (p.val : Int))) + (IntKind.wrap .i64 (4 * (c.val : Int))))) = some (ph4 ((p.val : Int) + 2 * (c.val : Int)).toNat) := by decide +kernel
theorem pf_i' {p c : Int} (hp : 0 ≤ p ∧ p ≤ 3) (hc : 0 ≤ c ∧ c ≤ 4) : i_PhaseFactor (IntKind.wrap .i64 ((IntKind.wrap .i64 (2 * p)) + (IntKind.wrap .i64 (4 * c)))) = some (ph4 (p + 2 * c).toNat) := by
  obtain ⟨a, rfl⟩ : ∃ a : Fin 4, p = (a.val : Int) := ⟨⟨p.toNat, by omega⟩, by simp; omega⟩
  obtain ⟨b, rfl⟩ : ∃ b : Fin 5, c = (b.val : Int) := ⟨⟨c.toNat, by omega⟩, by simp; omega⟩
  exact pf_i a b
theorem pf_s' {p c : Int} (hp : 0 ≤ p ∧ p ≤ 3) (hc : 0 ≤ c ∧ c ≤ 4) : s_PhaseFactor (IntKind.wrap .i64 ((IntKind.wrap .i64 (2 * p)) + (IntKind.wrap .i64 (4 * c)))) = some (ph4 (p + 2 * c).toNat) := by
  obtain ⟨a, rfl⟩ : ∃ a : Fin 4, p = (a.val : Int) := ⟨⟨p.toNat, by omega⟩, by simp; omega⟩
  obtain ⟨b, rfl⟩ : ∃ b : Fin 5, c = (b.val : Int) := ⟨⟨c.toNat, by omega⟩, by simp; omega⟩
  exact pf_s a b
theorem sh_i {n : Int} (h : 1 ≤ n ∧ n ≤ 4) : IntKind.wrap .i64 (1 * 2 ^ min (Int.toNat n) (IntKind.bits .i64)) = ((2 ^ n.toNat : Nat) : Int) := by
  rcases four h with rfl | rfl | rfl | rfl <;> rfl
theorem u64_4 {n : Int} (h : 1 ≤ n ∧ n ≤ 4) : IntKind.wrap .u64 n = n := by
  rcases four h with rfl | rfl | rfl | rfl <;> rfl
theorem pw16 {n : Int} (h : 1 ≤ n ∧ n ≤ 4) : 2 ^ n.toNat ≤ 16 := by
  rcases four h with rfl | rfl | rfl | rfl <;> decide
theorem pm_tb (q : Q4) : pmL q = tbF (2 ^ q.1.toNat) (fun r c => pmE q r c) := rfl
/-- What is needed of one column. -/
theorem col_facts {n x z p : Int} (hv : vP (n, x, z, p) = true) {i : Nat} (hi : i < 2 ^ n.toNat) : Sm (i : Int) ∧ (bits .xor .i64 (i : Int) x = (((i ^^^ x.toNat : Nat)) : Int) ∧ i ^^^ x.toNat < 2 ^ n.toNat) ∧ (0 ≤ pc (an z (i : Int)) ∧ pc (an z (i : Int)) ≤ 4) := by
  obtain ⟨h1, h2, h3, h4⟩ := vP_iff.1 hv
  obtain ⟨sx, sz, sp⟩ := vP_sm hv
  have := pw16 h1
  have si : Sm (i : Int) := ⟨by omega, by omega⟩
  refine ⟨si, ⟨?_, ?_⟩, pc_bd _⟩
  · rw [xor_eq si sx]
    unfold xo
    simp
  · refine Nat.xor_lt_two_pow hi ?_
    have e : ((2 ^ n.toNat : Nat) : Int) = 2 ^ n.toNat := by simp
    exact (Int.toNat_lt h2.1).2 (by rw [e]; exact h2.2)
theorem i_pm {n x z p : Int} (hv : vP (n, x, z, p) = true) : i_PauliMatrix n x z p = some (pmL (n, x, z, p)) := by
  obtain ⟨h1, h2, h3, h4⟩ := vP_iff.1 hv
  obtain ⟨sx, sz, sp⟩ := vP_sm hv
  have h16 := pw16 h1
  unfold i_PauliMatrix
  rw [i_valid, bO_some, hv]
  simp only [Bool.not_true, br_false]
  have hn0 : decide (¬ n < 0) = true := decide_eq_true (by omega)
  have key : ∀ (m i : Nat), i ≤ 2 ^ n.toNat → 2 ^ n.toNat - i < m → i_PauliMatrix_l1 n x z p m i ((List.range i).map fun c => (List.range (2 ^ n.toNat)).map fun r => pmE (n, x, z, p) r c) = some (pmL (n, x, z, p)) := by
    intro m
    induction m with
    | zero => intro i _ h; omega
    | succ m ih =>
      intro i hi hm
      rw [i_PauliMatrix_l1, hn0, gd_true, sh_i h1]
      by_cases e : i = 2 ^ n.toNat
      · have hlt : decide ((i : Int) < ((2 ^ n.toNat : Nat) : Int)) = false := decide_eq_false (by omega)
        rw [hlt, br_false, e]
        unfold i_PauliMatrix_j1
        have hf := i_flip (n := 2 ^ n.toNat) (fun c r => pmE (n, x, z, p) r c) (by omega)
        unfold tbF at hf
        rw [hf, bO_some]
        rfl
      · have hil : i < 2 ^ n.toNat := by omega
        have hlt : decide ((i : Int) < ((2 ^ n.toNat : Nat) : Int)) = true := decide_eq_true (by omega)
        obtain ⟨si, ⟨c1, c2⟩, c3⟩ := col_facts hv hil
        have hb : decide (0 ≤ ((2 ^ n.toNat : Nat) : Int) ∧ ((2 ^ n.toNat : Nat) : Int) ≤ 1048576) = true := decide_eq_true (by omega)
        rw [hlt, br_true, gd_true, hb, gd_true, and_eq sz si, i_ones_eq (an_sm sz si), bO_some, pf_i' sp c3, bO_some, c1, Int.toNat_natCast]
        have hg : geti (List.replicate (2 ^ n.toNat) ((0, 0, 0, 0, 0) : Int × Int × Int × Int × Int)) ((i ^^^ x.toNat : Nat) : Int) = some (0, 0, 0, 0, 0) := geti_nat (by rw [List.getElem?_replicate, if_pos c2])
        rw [hg, bO_some, Int.toNat_natCast, set_col _ c2, w64s hil (by omega)]
        rw [show decide (((List.range i).map fun c => (List.range (2 ^ n.toNat)).map fun r => pmE (n, x, z, p) r c).length + [(List.range (2 ^ n.toNat)).map fun r => if i ^^^ x.toNat = r then ((ph4 (p + 2 * pc (an z (i : Int))).toNat).1, (ph4 (p + 2 * pc (an z (i : Int))).toNat).2.1, (ph4 (p + 2 * pc (an z (i : Int))).toNat).2.2.1, (ph4 (p + 2 * pc (an z (i : Int))).toNat).2.2.2.1, (ph4 (p + 2 * pc (an z (i : Int))).toNat).2.2.2.2) else d0].length ≤ 16777216) = true from decide_eq_true (by simp; omega), gd_true]
        have := ih (i + 1) (by omega) (by omega)
        rw [← rg_snoc] at this
        exact this
  exact key FU 0 (Nat.zero_le _) (by rw [FU_eq]; omega)
theorem i_pm_no {n x z p : Int} (hv : vP (n, x, z, p) = false) : i_PauliMatrix n x z p = some [] := by
  unfold i_PauliMatrix
  rw [i_valid, bO_some, hv]
  rfl
theorem s_pm {n x z p : Int} (hv : vP (n, x, z, p) = true) : s_PauliMatrix n x z p = some (pmL (n, x, z, p)) := by
  obtain ⟨h1, h2, h3, h4⟩ := vP_iff.1 hv
  obtain ⟨sx, sz, sp⟩ := vP_sm hv
  have h16 := pw16 h1
  unfold s_PauliMatrix
  have hn0 : decide (¬ n < 0) = true := decide_eq_true (by omega)
  have key : ∀ (m i : Nat), i ≤ 2 ^ n.toNat → 2 ^ n.toNat - i < m → s_PauliMatrix_l1 n x z p m i ((List.range i).map fun c => (List.range (2 ^ n.toNat)).map fun r => pmE (n, x, z, p) r c) = some (pmL (n, x, z, p)) := by
    intro m
    induction m with
    | zero => intro i _ h; omega
    | succ m ih =>
      intro i hi hm
      rw [s_PauliMatrix_l1, s_valid, bO_some, hv, br_true, u64_4 h1, hn0, gd_true, bO_some, sh_i h1]
      unfold s_PauliMatrix_j4
      by_cases e : i = 2 ^ n.toNat
      · have hlt : decide ((i : Int) < ((2 ^ n.toNat : Nat) : Int)) = false := decide_eq_false (by omega)
        rw [hlt, br_false, e]
        unfold s_PauliMatrix_j1
        have hf := s_cols (n := 2 ^ n.toNat) (fun c r => pmE (n, x, z, p) r c) (by omega)
        unfold tbF at hf
        rw [hf, bO_some]
        rfl
      · have hil : i < 2 ^ n.toNat := by omega
        have hlt : decide ((i : Int) < ((2 ^ n.toNat : Nat) : Int)) = true := decide_eq_true (by omega)
        obtain ⟨si, ⟨c1, c2⟩, c3⟩ := col_facts hv hil
        have hb : decide (0 ≤ ((2 ^ n.toNat : Nat) : Int) ∧ ((2 ^ n.toNat : Nat) : Int) ≤ 1048576) = true := decide_eq_true (by omega)
        have ha : an (i : Int) z = an z (i : Int) := by unfold an; rw [Nat.and_comm]
        rw [hlt, br_true, u64_4 h1, hn0, gd_true, sh_i h1, hb, gd_true, and_eq si sz, ha, s_ones_eq (an_sm sz si), bO_some, pf_s' sp c3, bO_some, c1, Int.toNat_natCast]
        have hg : geti (List.replicate (2 ^ n.toNat) ((0, 0, 0, 0, 0) : Int × Int × Int × Int × Int)) ((i ^^^ x.toNat : Nat) : Int) = some (0, 0, 0, 0, 0) := geti_nat (by rw [List.getElem?_replicate, if_pos c2])
        rw [hg, bO_some, Int.toNat_natCast, set_col _ c2, w64s hil (by omega)]
        rw [show decide (((List.range i).map fun c => (List.range (2 ^ n.toNat)).map fun r => pmE (n, x, z, p) r c).length + [(List.range (2 ^ n.toNat)).map fun r => if i ^^^ x.toNat = r then ((ph4 (p + 2 * pc (an z (i : Int))).toNat).1, (ph4 (p + 2 * pc (an z (i : Int))).toNat).2.1, (ph4 (p + 2 * pc (an z (i : Int))).toNat).2.2.1, (ph4 (p + 2 * pc (an z (i : Int))).toNat).2.2.2.1, (ph4 (p + 2 * pc (an z (i : Int))).toNat).2.2.2.2) else d0].length ≤ 16777216) = true from decide_eq_true (by simp; omega), gd_true]
        have := ih (i + 1) (by omega) (by omega)
        rw [← rg_snoc] at this
        exact this
  exact key FU 0 (Nat.zero_le _) (by rw [FU_eq]; omega)
theorem s_pm_no {n x z p : Int} (hv : vP (n, x, z, p) = false) : s_PauliMatrix n x z p = some [] := by
  unfold s_PauliMatrix
  obtain ⟨k, hk⟩ : ∃ k, FU = k + 1 := ⟨4194303, rfl⟩
  rw [hk, s_PauliMatrix_l1, s_valid, bO_some, hv]
  unfold s_PauliMatrix_j4 s_PauliMatrix_j1
  simp only [br_false, bO_some]
  have := s_cols (n := 0) (fun _ _ => d0) (by omega)
  have e : s_l7Columns [] = some [] := this
  rw [e, bO_some]
/-- The matrix of any four numbers: of both sides. -/
theorem pm_both (n x z p : Int) : ∃ m, i_PauliMatrix n x z p = some m ∧ s_PauliMatrix n x z p = some m ∧ m.length ≤ 16 ∧ ∀ r ∈ m, r.length ≤ 16 := by
  cases hv : vP (n, x, z, p) with
  | false => exact ⟨[], i_pm_no hv, s_pm_no hv, by simp, by simp⟩
  | true =>
    have h16 := pw16 (vP_iff.1 hv).1
    refine ⟨_, i_pm hv, s_pm hv, by rw [pm_tb, tb_len]; exact h16, fun r hr => ?_⟩
    obtain ⟨a, _, rfl⟩ := List.mem_map.1 hr
    show (pmR _ _).length ≤ 16
    unfold pmR
    simp
    exact h16
end Go.Proofs.Ytflfodcgoffjkaa
/- Plain laws: a matrix that leads one Pauli operator to another: kept by products and phases. -/
namespace Go.Proofs.Ytflfodcgoffjkaa
open Go.RowKit
set_option maxRecDepth 100000
set_option linter.unusedVariables false
set_option linter.unusedSimpArgs false
theorem ph4_inj {a b : Nat} (h : ph4 a = ph4 b) : a % 4 = b % 4 := by
  have e : ∀ a b : Fin 4, ph4 a.val = ph4 b.val → a = b := by decide
  have em : ∀ a : Nat, ph4 a = ph4 (a % 4) := fun a => ph4_congr (by omega)
  rw [em a, em b] at h
  have := e ⟨a % 4, by omega⟩ ⟨b % 4, by omega⟩ h
  exact congrArg Fin.val this
theorem pix_mul (a b : Q4) (c : Nat) : pix (mulQ a b) c = pix a (pix b c) := by
  unfold pix mulQ xo
  simp only [Int.toNat_natCast]
  rw [Nat.xor_comm a.2.1.toNat, Nat.xor_assoc]
theorem pix_comm (a b : Q4) (c : Nat) : pix a (pix b c) = pix b (pix a c) := by
  unfold pix
  rw [Nat.xor_assoc, Nat.xor_assoc, Nat.xor_comm a.2.1.toNat]
theorem pe_mul {a b : Q4} (ha : vP a = true) (hb : vP b = true) (hab : a.1 = b.1) {c : Nat} (hc : c < 2 ^ a.1.toNat) : (pe a (pix b c) + pe b c) % 4 = pe (mulQ a b) c % 4 := by
  have hbc : pix b c < 2 ^ a.1.toNat := by rw [hab]; exact pix_lt hb (by rw [← hab]; exact hc)
  have h := pm_mul ha hb hab (r := pix a (pix b c)) (k := c) (pix_lt ha hbc) hc
  rw [pix_pix] at h
  unfold pmE at h
  rw [if_pos (pix_eq.2 (pix_pix b c).symm), ph_ph4] at h
  have e : c ^^^ (mulQ a b).2.1.toNat = pix a (pix b c) := by
    have := pix_mul a b c
    unfold pix at this ⊢
    exact this
  rw [if_pos e] at h
  exact ph4_inj h
/-- M P = Q M, number by number. -/
def Er {N : Int} (M : Nat → Nat → DQ) (p q : Gp N) : Prop := ∀ r c, r < 2 ^ N.toNat → c < 2 ^ N.toNat → phx (pe p.q c) (M r (pix p.q c)) = phx (pe q.q (pix q.q r)) (M (pix q.q r) c)
theorem gp_lt {N : Int} (p : Gp N) {r : Nat} (hr : r < 2 ^ N.toNat) : pix p.q r < 2 ^ N.toNat := by
  have := pix_lt p.v (r := r) (by rw [p.n]; exact hr)
  rw [p.n] at this
  exact this
theorem ph_swap (a b : Nat) (x : DQ) : phx a (phx b x) = phx b (phx a x) := by rw [ph_ph, ph_ph, Nat.add_comm]
theorem Er.mul {N : Int} {M : Nat → Nat → DQ} {p1 p2 q1 q2 : Gp N} (h1 : Er M p1 q1) (h2 : Er M p2 q2) : Er M (p1 * p2) (q1 * q2) := by
  intro r c hr hc
  have hc' := gp_lt p2 hc
  have hr' := gp_lt q1 hr
  have hr'' := gp_lt q2 hr'
  have e1 := pe_mul p1.v p2.v (p1.n.trans p2.n.symm) (c := c) (by rw [p1.n]; exact hc)
  have e2 := pe_mul q1.v q2.v (q1.n.trans q2.n.symm) (c := pix q2.q (pix q1.q r)) (by rw [q1.n]; exact hr'')
  rw [pix_pix] at e2
  rw [Gp.mul_q, Gp.mul_q, pix_mul, show pix (mulQ q1.q q2.q) r = pix q2.q (pix q1.q r) from (pix_mul q1.q q2.q r).trans (pix_comm _ _ _)]
  rw [← ph_congr e1, ← ph_ph, ph_swap, h1 r (pix p2.q c) hr hc', ph_swap, h2 (pix q1.q r) c hr' hc, ph_ph, ph_congr e2]
theorem pe_ph {N : Int} (k : Int) (p : Gp N) (c : Nat) (hk : 0 ≤ k) : pe (p.ph k).q c % 4 = (pe p.q c + k.toNat) % 4 := by
  unfold pe
  rw [Gp.ph_q]
  simp only
  have := p.sm.2.2
  have := pc_bd (an p.q.2.2.1 (c : Int))
  omega
theorem Er.ph {N : Int} {M : Nat → Nat → DQ} {p q : Gp N} (h : Er M p q) {k : Int} (hk : 0 ≤ k) : Er M (p.ph k) (q.ph k) := by
  intro r c hr hc
  have e1 : pix (p.ph k).q c = pix p.q c := rfl
  have e2 : pix (q.ph k).q r = pix q.q r := rfl
  rw [e1, e2, ph_congr (pe_ph k p c hk), ph_congr (pe_ph k q _ hk), Nat.add_comm, ← ph_ph, h r c hr hc, ph_ph, Nat.add_comm]
theorem Er.one {N : Int} (h : 1 ≤ N ∧ N ≤ 4) (M : Nat → Nat → DQ) : Er M (Gp.one h) (Gp.one h) := by
  intro r c hr hc
  have e1 : ∀ c, pix (Gp.one h).q c = c := fun c => Nat.xor_zero c
  have e2 : ∀ c, pe (Gp.one h).q c = 0 := fun c => by
    show (0 + 2 * pc (an 0 (c : Int))).toNat = 0
    rw [zero_an]; rfl
  rw [e1, e1, e2, e2]
theorem Er.prd {N : Int} (h : 1 ≤ N ∧ N ≤ 4) {M : Nat → Nat → DQ} {A B A' B' : Nat → Gp N} (x z : Int) : ∀ k, (∀ j, j < k → Er M (A j) (A' j) ∧ Er M (B j) (B' j)) → Er M (prd h A B x z k) (prd h A' B' x z k)
  | 0, _ => Er.one h M
  | k + 1, hj => by
    have ih := Er.prd h x z k (fun j hj' => hj j (by omega))
    obtain ⟨a, b⟩ := hj k (by omega)
    show Er M (((Go.Proofs.Ytflfodcgoffjkaa.prd h A B x z k).pw (A k) (bt x k)).pw (B k) (bt z k)) (((Go.Proofs.Ytflfodcgoffjkaa.prd h A' B' x z k).pw (A' k) (bt x k)).pw (B' k) (bt z k))
    unfold Gp.pw
    cases bt x k <;> cases bt z k
    · exact ih
    · exact ih.mul b
    · exact ih.mul a
    · exact (ih.mul a).mul b
theorem Er.led {N : Int} (h : 1 ≤ N ∧ N ≤ 4) {M : Nat → Nat → DQ} {A B A' B' : Nat → Gp N} (hj : ∀ j, j < N.toNat → Er M (A j) (A' j) ∧ Er M (B j) (B' j)) (p : Gp N) : Er M (led h A B p) (led h A' B' p) :=
  (Er.prd h p.q.2.1 p.q.2.2.1 N.toNat hj).ph p.sm.2.2.1
/-- X and Z of a qubit. -/
def gpX {N : Int} (h : 1 ≤ N ∧ N ≤ 4) (j : Nat) : Gp N := if hj : j < N.toNat then ⟨eX N j, by
  refine vP_iff.2 ⟨h, ⟨?_, ?_⟩, ⟨by omega, ?_⟩, by omega⟩
  · exact Int.le_of_lt (Int.pow_pos (by omega))
  · exact Int.pow_lt_pow_of_lt (by omega) hj
  · exact Int.pow_pos (by omega), rfl⟩ else Gp.one h
def gpZ {N : Int} (h : 1 ≤ N ∧ N ≤ 4) (j : Nat) : Gp N := if hj : j < N.toNat then ⟨eZ N j, by
  refine vP_iff.2 ⟨h, ⟨by omega, ?_⟩, ⟨?_, ?_⟩, by omega⟩
  · exact Int.pow_pos (by omega)
  · exact Int.le_of_lt (Int.pow_pos (by omega))
  · exact Int.pow_lt_pow_of_lt (by omega) hj, rfl⟩ else Gp.one h
theorem led_gp {N : Int} (h : 1 ≤ N ∧ N ≤ 4) (p : Gp N) : led h (gpX h) (gpZ h) p = p :=
  led_std h (fun j hj => by unfold gpX; rw [dif_pos hj]) (fun j hj => by unfold gpZ; rw [dif_pos hj]) p
/-- It is enough to look at X and Z of each qubit. -/
theorem Er.all {N : Int} (h : 1 ≤ N ∧ N ≤ 4) {M : Nat → Nat → DQ} {A' B' : Nat → Gp N} (hj : ∀ j, j < N.toNat → Er M (gpX h j) (A' j) ∧ Er M (gpZ h j) (B' j)) (p : Gp N) : Er M p (Go.Proofs.Ytflfodcgoffjkaa.led h A' B' p) := by
  have := Er.led h hj p
  rw [led_gp] at this
  exact this
end Go.Proofs.Ytflfodcgoffjkaa
