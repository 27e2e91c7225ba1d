/- Joined texts: Pra Prb Pva Pvb. -/
import Derived.Test.YtfjopjalhllplaaProg
/- Plain laws: the numbers of the ring D[omega]: reduced forms are unique; sums and products by value. -/
namespace Go.Proofs.Ytfjopjalhllplaa
set_option linter.unusedVariables false
set_option linter.unusedSimpArgs false
abbrev Z4 := Int × Int × Int × Int
def rt (x : Z4) : Z4 := (x.2.1 - x.2.2.2, x.1 + x.2.2.1, x.2.1 + x.2.2.2, x.2.2.1 - x.1)
def adz (x y : Z4) : Z4 := (x.1 + y.1, x.2.1 + y.2.1, x.2.2.1 + y.2.2.1, x.2.2.2 + y.2.2.2)
def mlz (x y : Z4) : Z4 := (x.1 * y.1 - x.2.1 * y.2.2.2 - x.2.2.1 * y.2.2.1 - x.2.2.2 * y.2.1, x.1 * y.2.1 + x.2.1 * y.1 - x.2.2.1 * y.2.2.2 - x.2.2.2 * y.2.2.1,
  x.1 * y.2.2.1 + x.2.1 * y.2.1 + x.2.2.1 * y.1 - x.2.2.2 * y.2.2.2, x.1 * y.2.2.2 + x.2.1 * y.2.2.1 + x.2.2.1 * y.2.1 + x.2.2.2 * y.1)
theorem z_ext {x y : Z4} (h1 : x.1 = y.1) (h2 : x.2.1 = y.2.1) (h3 : x.2.2.1 = y.2.2.1) (h4 : x.2.2.2 = y.2.2.2) : x = y :=
 Prod.ext h1 (Prod.ext h2 (Prod.ext h3 h4))
theorem rt_inj {x y : Z4} (h : rt x = rt y) : x = y := by
 unfold rt at h
 simp only [Prod.mk.injEq] at h
 apply z_ext <;> omega
theorem rt_add (x y : Z4) : rt (adz x y) = adz (rt x) (rt y) := by
 unfold rt adz
 apply z_ext <;> simp only <;> omega
theorem rt_mul (x y : Z4) : mlz (rt x) y = rt (mlz x y) := by
 unfold rt mlz
 apply z_ext <;> simp only <;> grind
theorem mlz_comm (x y : Z4) : mlz x y = mlz y x := by
 unfold mlz
 apply z_ext <;> simp only <;> grind
theorem mlz_assoc (x y z : Z4) : mlz (mlz x y) z = mlz x (mlz y z) := by
 unfold mlz
 apply z_ext <;> simp only <;> grind
theorem mlz_add (x y z : Z4) : mlz x (adz y z) = adz (mlz x y) (mlz x z) := by
 unfold mlz adz
 apply z_ext <;> simp only <;> grind
theorem adz_comm (x y : Z4) : adz x y = adz y x := by
 unfold adz
 apply z_ext <;> simp only <;> omega
def rtn : Nat → Z4 → Z4
 | 0, x => x
 | k + 1, x => rt (rtn k x)
theorem rtn_inj (k : Nat) {x y : Z4} (h : rtn k x = rtn k y) : x = y := by
 induction k with
 | zero => exact h
 | succ k ih => exact ih (rt_inj h)
theorem rtn_add (j k : Nat) (x : Z4) : rtn j (rtn k x) = rtn (j + k) x := by
 induction j with
 | zero => simp [rtn]
 | succ j ih => rw [show j + 1 + k = (j + k) + 1 by omega]; show rt (rtn j (rtn k x)) = rt _; rw [ih]
theorem rtn_adz (k : Nat) (x y : Z4) : rtn k (adz x y) = adz (rtn k x) (rtn k y) := by
 induction k with
 | zero => rfl
 | succ k ih => show rt _ = adz (rt _) (rt _); rw [ih, rt_add]
theorem rtn_mlz (k : Nat) (x y : Z4) : rtn k (mlz x y) = mlz (rtn k x) y := by
 induction k with
 | zero => rfl
 | succ k ih => show rt _ = mlz (rt _) y; rw [ih, rt_mul]
theorem rtn_mlz' (k : Nat) (x y : Z4) : rtn k (mlz x y) = mlz x (rtn k y) := by rw [mlz_comm, rtn_mlz, mlz_comm]
def ev4 (x : Z4) : Bool := x.1 % 2 == 0 && (x.2.1 % 2 == 0 && (x.2.2.1 % 2 == 0 && x.2.2.2 % 2 == 0))
def hlf (x : Z4) : Z4 := (x.1 / 2, x.2.1 / 2, x.2.2.1 / 2, x.2.2.2 / 2)
/-- Divisible by the root. -/
def dvb (x : Z4) : Bool := ev4 (rt x)
def dvh (x : Z4) : Z4 := hlf (rt x)
theorem ev4_iff (x : Z4) : ev4 x = true ↔ x.1 % 2 = 0 ∧ x.2.1 % 2 = 0 ∧ x.2.2.1 % 2 = 0 ∧ x.2.2.2 % 2 = 0 := by
 unfold ev4; simp only [Bool.and_eq_true, beq_iff_eq]
theorem dv_rt {x : Z4} (h : dvb x = true) : rt (dvh x) = x := by
 unfold dvb at h
 rw [ev4_iff] at h
 unfold dvh hlf rt at *
 simp only at h
 apply z_ext <;> simp only <;> omega
theorem rt_dv (x : Z4) : dvb (rt x) = true := by
 unfold dvb
 rw [ev4_iff]
 unfold rt
 simp only
 omega
def vz (x : Z4) : Bool := decide (-1073741824 ≤ x.1 ∧ x.1 ≤ 1073741824) && (decide (-1073741824 ≤ x.2.1 ∧ x.2.1 ≤ 1073741824) && (decide (-1073741824 ≤ x.2.2.1 ∧ x.2.2.1 ≤ 1073741824) && decide (-1073741824 ≤ x.2.2.2 ∧ x.2.2.2 ≤ 1073741824)))
/-- Coefficients up to a bound. -/
def bdz (M : Int) (x : Z4) : Prop := (-M ≤ x.1 ∧ x.1 ≤ M) ∧ (-M ≤ x.2.1 ∧ x.2.1 ≤ M) ∧ (-M ≤ x.2.2.1 ∧ x.2.2.1 ≤ M) ∧ (-M ≤ x.2.2.2 ∧ x.2.2.2 ≤ M)
theorem vz_iff (x : Z4) : vz x = true ↔ bdz 1073741824 x := by
 unfold vz bdz; simp only [Bool.and_eq_true, decide_eq_true_eq]
theorem bd_dv {M : Int} {x : Z4} (h : dvb x = true) (hb : bdz M x) : bdz M (dvh x) := by
 unfold dvb at h
 rw [ev4_iff] at h
 unfold bdz dvh hlf rt at *
 simp only at *
 omega
/-- Reduced to the least exponent. -/
def nd : Nat → Z4 → Z4 × Nat
 | 0, n => (n, 0)
 | k + 1, n => if dvb n = true then nd k (dvh n) else (n, k + 1)
theorem nd_spec : ∀ (k : Nat) (n : Z4), (nd k n).2 ≤ k ∧ rtn (k - (nd k n).2) (nd k n).1 = n ∧ ((nd k n).2 = 0 ∨ dvb (nd k n).1 = false) ∧ ∀ M, bdz M n → bdz M (nd k n).1
 | 0, n => ⟨Nat.le_refl 0, rfl, Or.inl rfl, fun M h => h⟩
 | k + 1, n => by
  unfold nd
  by_cases h : dvb n = true
  ·rw [if_pos h]
   obtain ⟨h1, h2, h3, h4⟩ := nd_spec k (dvh n)
   refine ⟨by omega, ?_, h3, fun M hM => h4 M (bd_dv h hM)⟩
   rw [show k + 1 - (nd k (dvh n)).2 = (k - (nd k (dvh n)).2) + 1 by omega]
   show rt (rtn _ _) = n
   rw [h2, dv_rt h]
  ·rw [if_neg h]
   refine ⟨Nat.le_refl _, ?_, Or.inr (by simpa using h), fun M h => h⟩
   rw [Nat.sub_self]; rfl
/-- Two reduced numbers of one value are equal. -/
theorem uniq {n m : Z4} {k j : Nat} (h : rtn j n = rtn k m) (hn : k = 0 ∨ dvb n = false) (hm : j = 0 ∨ dvb m = false) : n = m ∧ k = j := by
 have key : ∀ {n m : Z4} {k j : Nat}, k ≤ j → rtn j n = rtn k m → (j = 0 ∨ dvb m = false) → n = m ∧ k = j := by
  intro n m k j hkj h hm
  have e : rtn (j - k) n = m := rtn_inj k (by rw [rtn_add, show k + (j - k) = j by omega, h])
  by_cases hj : j = k
  ·subst hj; rw [Nat.sub_self] at e; exact ⟨e, rfl⟩
  ·obtain ⟨d, hd⟩ : ∃ d, j - k = d + 1 := ⟨j - k - 1, by omega⟩
   rw [hd] at e
   have : dvb m = true := by rw [← e]; exact rt_dv _
   rcases hm with h0 | h0
   ·omega
   ·rw [this] at h0; cases h0
 rcases Nat.le_total k j with hkj | hkj
 ·exact key hkj h hm
 ·obtain ⟨a, b⟩ := key hkj h.symm hn
  exact ⟨a.symm, b.symm⟩
theorem nd_uniq {n m : Z4} {k j : Nat} (h : rtn j n = rtn k m) : nd k n = nd j m := by
 obtain ⟨a1, a2, a3, _⟩ := nd_spec k n
 obtain ⟨b1, b2, b3, _⟩ := nd_spec j m
 have e : rtn (nd j m).2 (nd k n).1 = rtn (nd k n).2 (nd j m).1 := by
  refine rtn_inj ((k - (nd k n).2) + (j - (nd j m).2)) ?_
  have e1 : rtn (k - (nd k n).2 + (j - (nd j m).2)) (rtn (nd j m).2 (nd k n).1) = rtn j n := by
   rw [rtn_add, show k - (nd k n).2 + (j - (nd j m).2) + (nd j m).2 = j + (k - (nd k n).2) by omega, ← rtn_add, a2]
  have e2 : rtn (k - (nd k n).2 + (j - (nd j m).2)) (rtn (nd k n).2 (nd j m).1) = rtn k m := by
   rw [rtn_add, show k - (nd k n).2 + (j - (nd j m).2) + (nd k n).2 = k + (j - (nd j m).2) by omega, ← rtn_add, b2]
  rw [e1, e2, h]
 obtain ⟨e1, e2⟩ := uniq e a3 b3
 exact Prod.ext e1 e2
theorem nd_id {n : Z4} {k : Nat} (h : k = 0 ∨ dvb n = false) : nd k n = (n, k) := by
 cases k with
 | zero => rfl
 | succ k =>
  unfold nd
  rcases h with h | h
  ·omega
  ·rw [h]; rfl
abbrev DQ := Int × Int × Int × Int × Int
def znm (x : DQ) : Z4 := (x.1, x.2.1, x.2.2.1, x.2.2.2.1)
def zex (x : DQ) : Int := x.2.2.2.2
def zexn (x : DQ) : Nat := (zex x).toNat
def vd (x : DQ) : Bool := vz (znm x) && (decide (0 ≤ zex x ∧ zex x ≤ 60) && (zex x == 0 || !dvb (znm x)))
def mkD (r : Z4 × Nat) : DQ := (r.1.1, r.1.2.1, r.1.2.2.1, r.1.2.2.2, (r.2 : Int))
def d0 : DQ := (0, 0, 0, 0, 0)
def newF (n : Z4) (k : Nat) : Option DQ := if vz n = true ∧ (nd k n).2 ≤ 60 then some (mkD (nd k n)) else none
def mulF (x y : DQ) : Option DQ := if vz (mlz (znm x) (znm y)) = true then newF (mlz (znm x) (znm y)) (zexn x + zexn y) else none
def upF (x : DQ) (K : Nat) : Z4 := rtn (K - zexn x) (znm x)
def addF (x y : DQ) : Option DQ :=
 let K := max (zexn x) (zexn y)
 if (vz (upF x K) = true ∧ vz (upF y K) = true) ∧ vz (adz (upF x K) (upF y K)) = true then newF (adz (upF x K) (upF y K)) K else none
theorem vd_iff (x : DQ) : vd x = true ↔ vz (znm x) = true ∧ (0 ≤ zex x ∧ zex x ≤ 60) ∧ (zexn x = 0 ∨ dvb (znm x) = false) := by
 unfold vd zexn
 simp only [Bool.and_eq_true, decide_eq_true_eq, Bool.or_eq_true, beq_iff_eq, Bool.not_eq_true']
 constructor
 ·rintro ⟨a, b, c⟩; exact ⟨a, b, c.imp (fun h => by omega) id⟩
 ·rintro ⟨a, b, c⟩; exact ⟨a, b, c.imp (fun h => by omega) id⟩
theorem mk_znm (x : DQ) (h : 0 ≤ zex x) : mkD (znm x, zexn x) = x := by
 obtain ⟨a, b, c, d, e⟩ := x
 unfold mkD znm zexn zex at *
 simp only at *
 rw [Int.toNat_of_nonneg h]
theorem znm_mk (r : Z4 × Nat) : znm (mkD r) = r.1 ∧ zexn (mkD r) = r.2 ∧ zex (mkD r) = (r.2 : Int) := ⟨rfl, by unfold zexn zex mkD; simp, rfl⟩
theorem rtn_bd {M : Int} : ∀ (k : Nat) {x : Z4}, bdz M (rtn k x) → bdz M x
 | 0, x, h => h
 | k + 1, x, h => rtn_bd k (by
   have : dvb (rt (rtn k x)) = true := rt_dv _
   have e : dvh (rt (rtn k x)) = rtn k x := rt_inj (dv_rt this)
   rw [← e]
   exact bd_dv this h)
/-- What newF gives: a valid number of the same value. -/
theorem new_spec {n : Z4} {k : Nat} {z : DQ} (h : newF n k = some z) : vd z = true ∧ zexn z ≤ k ∧ rtn k (znm z) = rtn (zexn z) n ∧ ∀ M, bdz M n → bdz M (znm z) := by
 unfold newF at h
 split at h
 case isFalse => cases h
 rename_i hc
 injection h with h
 subst h
 obtain ⟨h1, h2, h3, h4⟩ := nd_spec k n
 obtain ⟨e1, e2, e3⟩ := znm_mk (nd k n)
 rw [e1, e2]
 refine ⟨(vd_iff _).2 ⟨?_, ?_, ?_⟩, h1, ?_, h4⟩
 ·rw [e1, vz_iff]; exact h4 _ ((vz_iff _).1 hc.1)
 ·rw [e3]; omega
 ·rw [e1, e2]; exact h3
 ·have : rtn (nd k n).2 n = rtn (nd k n).2 (rtn (k - (nd k n).2) (nd k n).1) := by rw [h2]
  rw [this, rtn_add, show (nd k n).2 + (k - (nd k n).2) = k by omega]
theorem rtn_zero (k : Nat) : rtn k (0, 0, 0, 0) = (0, 0, 0, 0) := by
 induction k with
 | zero => rfl
 | succ k ih => show rt (rtn k _) = _; rw [ih]; rfl
theorem mlz_0r (y : Z4) : mlz y (0, 0, 0, 0) = (0, 0, 0, 0) := by unfold mlz; simp
theorem vd_d0 : vd d0 = true := by decide
theorem adz_0r (x : Z4) : adz x (0, 0, 0, 0) = x := by unfold adz; simp
/-- The values of sums and products. -/
theorem mul_val {x y z : DQ} (h : mulF x y = some z) : vd z = true ∧ rtn (zexn x + zexn y) (znm z) = rtn (zexn z) (mlz (znm x) (znm y)) := by
 unfold mulF at h
 split at h
 ·exact ⟨(new_spec h).1, (new_spec h).2.2.1⟩
 ·cases h
end Go.Proofs.Ytfjopjalhllplaa
/- Plain laws: sums of products, powers of i, projections, and numbers with small coefficients. -/
namespace Go.Proofs.Ytfjopjalhllplaa
set_option linter.unusedVariables false
set_option linter.unusedSimpArgs false
theorem rtn_swap (j k : Nat) (x : Z4) : rtn j (rtn k x) = rtn k (rtn j x) := by rw [rtn_add, rtn_add, Nat.add_comm]
def h2 : DQ := (1, 0, 0, 0, 2)
theorem mlz_1 (x : Z4) : mlz x (1, 0, 0, 0) = x := by unfold mlz; apply z_ext <;> simp
theorem mlz_1l (x : Z4) : mlz (1, 0, 0, 0) x = x := by rw [mlz_comm, mlz_1]
/-- A number of a value with small coefficients. -/
def Bd (E : Nat) (M : Nat) (x : DQ) : Prop := vd x = true ∧ zexn x ≤ E ∧ ∃ n, bdz M n ∧ rtn E (znm x) = rtn (zexn x) n
theorem bdz_mono {M L : Int} (h : M ≤ L) {x : Z4} (hx : bdz M x) : bdz L x := by unfold bdz at *; omega
theorem bdz_adz {M L : Int} {x y : Z4} (hx : bdz M x) (hy : bdz L y) : bdz (M + L) (adz x y) := by unfold bdz adz at *; simp only; omega
theorem mul_bd {M L : Nat} {a b : Int} (ha : -(M : Int) ≤ a ∧ a ≤ M) (hb : -(L : Int) ≤ b ∧ b ≤ L) : -((M * L : Nat) : Int) ≤ a * b ∧ a * b ≤ ((M * L : Nat) : Int) := by
 have h1 : a.natAbs ≤ M := by omega
 have h2 : b.natAbs ≤ L := by omega
 have h3 : (a * b).natAbs ≤ M * L := by rw [Int.natAbs_mul]; exact Nat.mul_le_mul h1 h2
 omega
theorem bdz_mlz {M L : Nat} {x y : Z4} (hx : bdz M x) (hy : bdz L y) : bdz ((4 * (M * L) : Nat) : Int) (mlz x y) := by
 obtain ⟨x1, x2, x3, x4⟩ := hx
 obtain ⟨y1, y2, y3, y4⟩ := hy
 have a1 := mul_bd x1 y1; have a2 := mul_bd x1 y2; have a3 := mul_bd x1 y3; have a4 := mul_bd x1 y4
 have b1 := mul_bd x2 y1; have b2 := mul_bd x2 y2; have b3 := mul_bd x2 y3; have b4 := mul_bd x2 y4
 have c1 := mul_bd x3 y1; have c2 := mul_bd x3 y2; have c3 := mul_bd x3 y3; have c4 := mul_bd x3 y4
 have d1 := mul_bd x4 y1; have d2 := mul_bd x4 y2; have d3 := mul_bd x4 y3; have d4 := mul_bd x4 y4
 unfold bdz mlz
 simp only
 generalize M * L = P at *
 refine ⟨⟨?_, ?_⟩, ⟨?_, ?_⟩, ⟨?_, ?_⟩, ?_, ?_⟩ <;> omega
theorem Bd.up {E M : Nat} {x : DQ} (h : Bd E M x) {K : Nat} (h1 : zexn x ≤ K) (h2 : K ≤ E) : ∃ n, bdz M n ∧ rtn (E - K) (upF x K) = n ∧ rtn E (znm x) = rtn (zexn x) n := by
 obtain ⟨_, _, n, hn, e⟩ := h
 refine ⟨n, hn, ?_, e⟩
 refine rtn_inj (zexn x) ?_
 unfold upF
 rw [rtn_add, rtn_add, show zexn x + (E - K) + (K - zexn x) = E by omega, e]
theorem Bd.new {n : Z4} {k E M : Nat} (hk : k ≤ 60) (hE : k ≤ E) (hM : M ≤ 1073741824) (hb : bdz M (rtn (E - k) n)) : ∃ z, newF n k = some z ∧ Bd E M z := by
 have hv : vz n = true := (vz_iff n).2 (bdz_mono (by omega) (rtn_bd _ hb))
 obtain ⟨s1, _, _, _⟩ := nd_spec k n
 have hz : newF n k = some (mkD (nd k n)) := by unfold newF; rw [if_pos ⟨hv, by omega⟩]
 obtain ⟨z1, z2, z3, _⟩ := new_spec hz
 refine ⟨_, hz, z1, by omega, _, hb, ?_⟩
 rw [show E = (E - k) + k by omega, ← rtn_add, z3, rtn_swap, show E - k + k - k = E - k by omega]
theorem Bd.add {E M L : Nat} {x y : DQ} (hx : Bd E M x) (hy : Bd E L y) (hE : E ≤ 60) (hM : M + L ≤ 1073741824) : ∃ z, addF x y = some z ∧ Bd E (M + L) z := by
 have hK1 : zexn x ≤ max (zexn x) (zexn y) := Nat.le_max_left ..
 have hK2 : zexn y ≤ max (zexn x) (zexn y) := Nat.le_max_right ..
 have hK3 : max (zexn x) (zexn y) ≤ E := Nat.max_le.2 ⟨hx.2.1, hy.2.1⟩
 unfold addF
 simp only
 generalize max (zexn x) (zexn y) = K at *
 obtain ⟨n, n1, n2, n3⟩ := hx.up hK1 hK3
 obtain ⟨m, m1, m2, m3⟩ := hy.up hK2 hK3
 have b : bdz ((M + L : Nat) : Int) (rtn (E - K) (adz (upF x K) (upF y K))) := by
  rw [rtn_adz, n2, m2]
  have := bdz_adz n1 m1
  rw [show ((M + L : Nat) : Int) = (M : Int) + L by omega]
  exact this
 have v1 : vz (upF x K) = true := (vz_iff _).2 (rtn_bd (E - K) (by rw [n2]; exact bdz_mono (by omega) n1))
 have v2 : vz (upF y K) = true := (vz_iff _).2 (rtn_bd (E - K) (by rw [m2]; exact bdz_mono (by omega) m1))
 have v3 : vz (adz (upF x K) (upF y K)) = true := (vz_iff _).2 (rtn_bd (E - K) (bdz_mono (by omega) b))
 rw [if_pos ⟨⟨v1, v2⟩, v3⟩]
 exact Bd.new (by omega) hK3 hM b
theorem Bd.mul {E F M L : Nat} {x y : DQ} (hx : Bd E M x) (hy : Bd F L y) (hE : E + F ≤ 60) (hM : 4 * (M * L) ≤ 1073741824) : ∃ z, mulF x y = some z ∧ Bd (E + F) (4 * (M * L)) z := by
 obtain ⟨n, n1, n2, n3⟩ := hx.up (Nat.le_refl _) hx.2.1
 obtain ⟨m, m1, m2, m3⟩ := hy.up (Nat.le_refl _) hy.2.1
 have ex1 : upF x (zexn x) = znm x := by unfold upF; rw [Nat.sub_self]; rfl
 have ey1 : upF y (zexn y) = znm y := by unfold upF; rw [Nat.sub_self]; rfl
 rw [ex1] at n2
 rw [ey1] at m2
 have hx2 := hx.2.1
 have hy2 := hy.2.1
 have b : bdz ((4 * (M * L) : Nat) : Int) (rtn (E + F - (zexn x + zexn y)) (mlz (znm x) (znm y))) := by
  rw [show E + F - (zexn x + zexn y) = (E - zexn x) + (F - zexn y) by omega, ← rtn_add, rtn_mlz', rtn_mlz, n2, m2]
  exact bdz_mlz n1 m1
 have v3 : vz (mlz (znm x) (znm y)) = true := (vz_iff _).2 (rtn_bd _ (bdz_mono (by omega) b))
 unfold mulF
 rw [if_pos v3]
 exact Bd.new (by omega) (by omega) hM b
theorem Bd.mono {E M L : Nat} {x : DQ} (h : Bd E M x) (hM : M ≤ L) : Bd E L x := by
 obtain ⟨h1, h2, n, h3, h4⟩ := h
 exact ⟨h1, h2, n, bdz_mono (by omega) h3, h4⟩
theorem Bd.zero (E M : Nat) : Bd E M d0 := ⟨vd_d0, Nat.zero_le _, (0, 0, 0, 0), by unfold bdz; simp, by rw [show znm d0 = (0, 0, 0, 0) from rfl, rtn_zero, rtn_zero]⟩
theorem Bd.half {E M : Nat} {x : DQ} (h : Bd E M x) (hE : E + 2 ≤ 60) (hM : M ≤ 1073741824) : ∃ z, mulF x h2 = some z ∧ Bd (E + 2) M z := by
 obtain ⟨n, n1, n2, n3⟩ := h.up (Nat.le_refl _) h.2.1
 have ex1 : upF x (zexn x) = znm x := by unfold upF; rw [Nat.sub_self]; rfl
 rw [ex1] at n2
 have hx2 := h.2.1
 unfold mulF
 rw [show znm h2 = (1, 0, 0, 0) from rfl, mlz_1, show zexn h2 = 2 from rfl, if_pos ((vd_iff x).1 h.1).1]
 refine Bd.new (by omega) (by omega) hM ?_
 rw [show E + 2 - (zexn x + 2) = E - zexn x by omega, n2]
 exact n1
def rtD : DQ := (0, 1, 0, -1, 0)
theorem Bd.root {E M : Nat} {x : DQ} (h : Bd E M x) (hE : E ≤ 60) (hM : 2 * M ≤ 1073741824) : ∃ z, mulF x rtD = some z ∧ Bd E (2 * M) z := by
 obtain ⟨n, n1, n2, n3⟩ := h.up (Nat.le_refl _) h.2.1
 have ex1 : upF x (zexn x) = znm x := by unfold upF; rw [Nat.sub_self]; rfl
 rw [ex1] at n2
 have hx2 := h.2.1
 have er : ∀ y : Z4, mlz y (0, 1, 0, -1) = rt y := fun y => by unfold mlz rt; apply z_ext <;> simp only <;> omega
 have b : bdz ((2 * M : Nat) : Int) (rtn (E - zexn x) (rt (znm x))) := by
  have e : rtn (E - zexn x) (rt (znm x)) = rt n := by
   rw [← n2]; exact rtn_swap _ 1 _
  rw [e]
  unfold bdz rt at *
  simp only
  omega
 have v : vz (rt (znm x)) = true := (vz_iff _).2 (rtn_bd _ (bdz_mono (by omega) b))
 unfold mulF
 rw [show znm rtD = (0, 1, 0, -1) from rfl, er, show zexn rtD = 0 from rfl, if_pos v, Nat.add_zero]
 exact Bd.new (by omega) hx2 hM b
end Go.Proofs.Ytfjopjalhllplaa
/- Plain laws: amplitudes at a common exponent: powers of omega, products, sums. -/
namespace Go.Proofs.Ytfjopjalhllplaa
set_option linter.unusedVariables false
set_option linter.unusedSimpArgs false
/-- The powers of omega. -/
def oz (k : Nat) : Z4 := if k % 8 = 0 then (1, 0, 0, 0) else if k % 8 = 1 then (0, 1, 0, 0) else if k % 8 = 2 then (0, 0, 1, 0) else if k % 8 = 3 then (0, 0, 0, 1) else
 if k % 8 = 4 then (-1, 0, 0, 0) else if k % 8 = 5 then (0, -1, 0, 0) else if k % 8 = 6 then (0, 0, -1, 0) else (0, 0, 0, -1)
theorem oz_mod (k : Nat) : oz k = oz (k % 8) := by unfold oz; rw [Nat.mod_mod]
theorem oz_congr {a b : Nat} (h : a % 8 = b % 8) : oz a = oz b := by rw [oz_mod a, oz_mod b, h]
theorem oz_cases (a : Nat) : ((oz a = (1, 0, 0, 0) ∨ oz a = (0, 1, 0, 0)) ∨ (oz a = (0, 0, 1, 0) ∨ oz a = (0, 0, 0, 1))) ∨ ((oz a = (-1, 0, 0, 0) ∨ oz a = (0, -1, 0, 0)) ∨ (oz a = (0, 0, -1, 0) ∨ oz a = (0, 0, 0, -1))) := by
 unfold oz; (repeat' split) <;> simp
theorem oz_mul (a b : Nat) : mlz (oz a) (oz b) = oz (a + b) := by
 have h : ∀ a b : Fin 8, mlz (oz a.val) (oz b.val) = oz (a.val + b.val) := by decide +kernel
 have := h ⟨a % 8, by omega⟩ ⟨b % 8, by omega⟩
 simp only at this
 rw [oz_mod a, oz_mod b, this]
 exact oz_congr (by omega)
theorem bd_oz {M : Int} {x : Z4} (a : Nat) (h : bdz M x) : bdz M (mlz (oz a) x) := by
 rcases oz_cases a with ((e | e) | (e | e)) | ((e | e) | (e | e)) <;> rw [e] <;> unfold bdz mlz at * <;> simp only <;> omega
theorem oz_0 (x : Z4) : mlz (oz 0) x = x := by rw [show oz 0 = (1, 0, 0, 0) from rfl, mlz_1l]
/-- A number at an exponent. -/
def dq (K : Nat) (n : Z4) : DQ := mkD (nd K n)
theorem dq_parts (K : Nat) (n : Z4) : znm (dq K n) = (nd K n).1 ∧ zexn (dq K n) = (nd K n).2 ∧ zex (dq K n) = ((nd K n).2 : Int) := znm_mk _
theorem dq_vd {K : Nat} {n : Z4} (hK : K ≤ 60) (hb : bdz 1073741824 n) : vd (dq K n) = true := by
 obtain ⟨e1, e2, e3⟩ := dq_parts K n
 obtain ⟨s1, s2, s3, s4⟩ := nd_spec K n
 refine (vd_iff _).2 ⟨?_, ?_, ?_⟩
 ·rw [e1, vz_iff]; exact s4 _ hb
 ·rw [e3]; omega
 ·rw [e1, e2]; exact s3
theorem dq_le (K : Nat) (n : Z4) : zexn (dq K n) ≤ K := by rw [(dq_parts K n).2.1]; exact (nd_spec K n).1
theorem dq_back (K : Nat) (n : Z4) : rtn (K - zexn (dq K n)) (znm (dq K n)) = n := by
 obtain ⟨e1, e2, e3⟩ := dq_parts K n
 rw [e1, e2]; exact (nd_spec K n).2.1
theorem dq_eq {x : DQ} {K : Nat} {n : Z4} (hx : vd x = true) (h : rtn K (znm x) = rtn (zexn x) n) : x = dq K n := by
 obtain ⟨a1, a2, a3⟩ := (vd_iff x).1 hx
 unfold dq
 rw [nd_uniq (n := n) (m := znm x) (k := K) (j := zexn x) h.symm, nd_id a3, mk_znm x a2.1]
theorem dq_inj {K : Nat} {n m : Z4} (h : dq K n = dq K m) : n = m := by rw [← dq_back K n, ← dq_back K m, h]
theorem dq_lift (K j : Nat) (n : Z4) : dq (j + K) (rtn j n) = dq K n := by
 unfold dq
 rw [nd_uniq (n := rtn j n) (m := n) (k := j + K) (j := K) (by rw [rtn_add, Nat.add_comm])]
theorem dq_0 (K : Nat) : dq K (0, 0, 0, 0) = d0 := (dq_eq vd_d0 (by rw [show znm d0 = (0, 0, 0, 0) from rfl, rtn_zero, rtn_zero])).symm
theorem dq_zero {K : Nat} {n : Z4} : dq K n = d0 ↔ n = (0, 0, 0, 0) := ⟨fun h => dq_inj (h.trans (dq_0 K).symm), fun h => by rw [h, dq_0]⟩
/-- Two numbers at different exponents. -/
theorem dq_eq2 {K L : Nat} {n m : Z4} : dq K n = dq L m ↔ rtn L n = rtn K m := by
 constructor
 ·intro h
  have e1 : dq (L + K) (rtn L n) = dq (K + L) (rtn K m) := by rw [dq_lift, dq_lift, h]
  rw [Nat.add_comm L K] at e1
  exact dq_inj e1
 ·intro h
  rw [← dq_lift K L n, ← dq_lift L K m, h, Nat.add_comm]
theorem dq_mul {K L : Nat} {n m : Z4} (hK : K + L ≤ 60) (hn : bdz 1073741824 n) (hm : bdz 1073741824 m) (hb : bdz 1073741824 (mlz n m)) : mulF (dq K n) (dq L m) = some (dq (K + L) (mlz n m)) := by
 have h1 := dq_le K n
 have h2 := dq_le L m
 have e1 := dq_back K n
 have e2 := dq_back L m
 have v1 := dq_vd (K := K) (by omega) hn
 have v2 := dq_vd (K := L) (by omega) hm
 generalize dq K n = x at *
 generalize dq L m = y at *
 have e : rtn (K - zexn x + (L - zexn y)) (mlz (znm x) (znm y)) = mlz n m := by rw [← rtn_add, rtn_mlz', e2, rtn_mlz, e1]
 have hv : vz (mlz (znm x) (znm y)) = true := (vz_iff _).2 (rtn_bd _ (by rw [e]; exact hb))
 obtain ⟨s1, _, _, _⟩ := nd_spec (zexn x + zexn y) (mlz (znm x) (znm y))
 have hz : newF (mlz (znm x) (znm y)) (zexn x + zexn y) = some (mkD (nd (zexn x + zexn y) (mlz (znm x) (znm y)))) := by unfold newF; rw [if_pos ⟨hv, by omega⟩]
 obtain ⟨z1, z2, z3, _⟩ := new_spec hz
 unfold mulF
 rw [if_pos hv, hz]
 congr 1
 refine dq_eq z1 ?_
 rw [← e, rtn_swap, ← z3, rtn_add]
 congr 1; omega
theorem dq_add {K : Nat} {n m : Z4} (hK : K ≤ 60) (hn : bdz 1073741824 n) (hm : bdz 1073741824 m) (hb : bdz 1073741824 (adz n m)) : addF (dq K n) (dq K m) = some (dq K (adz n m)) := by
 have h1 := dq_le K n
 have h2 := dq_le K m
 have e1 := dq_back K n
 have e2 := dq_back K m
 generalize dq K n = x at *
 generalize dq K m = y at *
 have k1 : zexn x ≤ max (zexn x) (zexn y) := Nat.le_max_left ..
 have k2 : zexn y ≤ max (zexn x) (zexn y) := Nat.le_max_right ..
 have k3 : max (zexn x) (zexn y) ≤ K := Nat.max_le.2 ⟨h1, h2⟩
 unfold addF
 simp only
 generalize max (zexn x) (zexn y) = T at *
 have u1 : rtn (K - T) (upF x T) = n := by unfold upF; rw [rtn_add, ← e1]; congr 1; omega
 have u2 : rtn (K - T) (upF y T) = m := by unfold upF; rw [rtn_add, ← e2]; congr 1; omega
 have u3 : rtn (K - T) (adz (upF x T) (upF y T)) = adz n m := by rw [rtn_adz, u1, u2]
 have v1 : vz (upF x T) = true := (vz_iff _).2 (rtn_bd (K - T) (by rw [u1]; exact hn))
 have v2 : vz (upF y T) = true := (vz_iff _).2 (rtn_bd (K - T) (by rw [u2]; exact hm))
 have v3 : vz (adz (upF x T) (upF y T)) = true := (vz_iff _).2 (rtn_bd (K - T) (by rw [u3]; exact hb))
 rw [if_pos ⟨⟨v1, v2⟩, v3⟩]
 obtain ⟨s1, _, _, _⟩ := nd_spec T (adz (upF x T) (upF y T))
 have hz : newF (adz (upF x T) (upF y T)) T = some (mkD (nd T (adz (upF x T) (upF y T)))) := by unfold newF; rw [if_pos ⟨v3, by omega⟩]
 obtain ⟨z1, z2, z3, _⟩ := new_spec hz
 rw [hz]
 congr 1
 refine dq_eq z1 ?_
 rw [← u3, rtn_swap, ← z3, rtn_add]
 congr 1; omega
/-- Factors: powers of omega, and half a root. -/
def om (a : Nat) : DQ := mkD (oz a, 0)
theorem om_dq (a : Nat) : om a = dq 0 (oz a) := rfl
def hD : DQ := (1, 0, 0, 0, 1)
def hN : DQ := (-1, 0, 0, 0, 1)
theorem hD_dq : hD = dq 1 (1, 0, 0, 0) := by decide
theorem hN_dq : hN = dq 1 (-1, 0, 0, 0) := by decide
def ngz (x : Z4) : Z4 := (-x.1, -x.2.1, -x.2.2.1, -x.2.2.2)
theorem ngz_ml (x : Z4) : ngz x = mlz (-1, 0, 0, 0) x := by unfold ngz mlz; apply z_ext <;> simp
theorem bd_ngz {M : Int} {x : Z4} (h : bdz M x) : bdz M (ngz x) := by unfold bdz ngz at *; simp only; omega
theorem bd_one (a : Nat) : bdz 1073741824 (oz a) := by
 rcases oz_cases a with ((e | e) | (e | e)) | ((e | e) | (e | e)) <;> rw [e] <;> unfold bdz <;> simp only <;> omega
theorem om_mul {K : Nat} {n : Z4} (a : Nat) (hK : K ≤ 60) (hn : bdz 1073741824 n) : mulF (dq K n) (om a) = some (dq K (mlz (oz a) n)) := by
 rw [om_dq, dq_mul (by omega) hn (bd_one a) (by rw [mlz_comm]; exact bd_oz a hn), Nat.add_zero, mlz_comm]
theorem hD_mul {K : Nat} {n : Z4} (hK : K + 1 ≤ 60) (hn : bdz 1073741824 n) : mulF (dq K n) hD = some (dq (K + 1) n) := by
 rw [hD_dq, dq_mul hK hn (by unfold bdz; simp) (by rw [mlz_1]; exact hn), mlz_1]
theorem hN_mul {K : Nat} {n : Z4} (hK : K + 1 ≤ 60) (hn : bdz 1073741824 n) : mulF (dq K n) hN = some (dq (K + 1) (ngz n)) := by
 rw [hN_dq, dq_mul hK hn (by unfold bdz; simp) (by rw [mlz_comm, ← ngz_ml]; exact bd_ngz hn), mlz_comm, ← ngz_ml]
end Go.Proofs.Ytfjopjalhllplaa
/- Plain laws: gates on vectors of amplitudes at a common exponent; rows of gates that do the same up to a phase. -/
namespace Go.Proofs.Ytfjopjalhllplaa
set_option linter.unusedVariables false
set_option linter.unusedSimpArgs false
abbrev GQ := Int × Int × Int × Int
abbrev Amp := Nat → Z4
/-- Where a gate other than H moves a basis state, and its phase. -/
def mvA (q : GQ) (i : Nat) : Nat :=
 if q.1 = 1 ∨ q.1 = 2 then i ^^^ 2 ^ q.2.1.toNat else
 if q.1 = 9 then (if i.testBit q.2.1.toNat = true then i ^^^ 2 ^ q.2.2.1.toNat else i) else
 if q.1 = 11 then (if (i.testBit q.2.1.toNat != i.testBit q.2.2.1.toNat) = true then i ^^^ 2 ^ q.2.1.toNat ^^^ 2 ^ q.2.2.1.toNat else i) else
 if q.1 = 12 then (if (i.testBit q.2.1.toNat && i.testBit q.2.2.1.toNat) = true then i ^^^ 2 ^ q.2.2.2.toNat else i) else i
def mvP (q : GQ) (i : Nat) : Nat :=
 if q.1 = 2 then (if i.testBit q.2.1.toNat = true then 6 else 2) else
 if q.1 = 3 then (if i.testBit q.2.1.toNat = true then 4 else 0) else
 if q.1 = 5 then (if i.testBit q.2.1.toNat = true then 2 else 0) else
 if q.1 = 6 then (if i.testBit q.2.1.toNat = true then 6 else 0) else
 if q.1 = 7 then (if i.testBit q.2.1.toNat = true then 1 else 0) else
 if q.1 = 8 then (if i.testBit q.2.1.toNat = true then 7 else 0) else
 if q.1 = 10 then (if (i.testBit q.2.1.toNat && i.testBit q.2.2.1.toNat) = true then 4 else 0) else 0
def gz (q : GQ) (f : Amp) (r : Nat) : Z4 :=
 if q.1 = 4 then (if r.testBit q.2.1.toNat = true then adz (f (r ^^^ 2 ^ q.2.1.toNat)) (ngz (f r)) else adz (f r) (f (r ^^^ 2 ^ q.2.1.toNat)))
 else mlz (oz (mvP q (mvA q r))) (f (mvA q r))
def gzs (L : List GQ) (f : Amp) : Amp := L.foldl (fun f q => gz q f) f
def hc : List GQ → Nat
 | [] => 0
 | q :: L => (if q.1 = 4 then 1 else 0) + hc L
/-- Qubits that lie within n, and differ. -/
def gok (n : Nat) (q : GQ) : Prop := q.2.1.toNat < n ∧ ((q.1 = 9 ∨ q.1 = 10 ∨ q.1 = 11) → q.2.2.1.toNat < n ∧ q.2.1.toNat ≠ q.2.2.1.toNat) ∧ (q.1 = 12 → (q.2.2.1.toNat < n ∧ q.2.2.2.toNat < n) ∧ q.2.1.toNat ≠ q.2.2.2.toNat ∧ q.2.2.1.toNat ≠ q.2.2.2.toNat)
theorem gzs_cons (q : GQ) (L : List GQ) (f : Amp) : gzs (q :: L) f = gzs L (gz q f) := rfl
theorem gzs_append (A B : List GQ) (f : Amp) : gzs (A ++ B) f = gzs B (gzs A f) := by unfold gzs; rw [List.foldl_append]
theorem hc_append (A B : List GQ) : hc (A ++ B) = hc A + hc B := by
 induction A with
 | nil => simp [hc]
 | cons q A ih => simp only [List.cons_append, hc, ih]; omega
theorem xlt {n i a : Nat} (hi : i < 2 ^ n) (ha : a < n) : i ^^^ 2 ^ a < 2 ^ n := Nat.xor_lt_two_pow hi (Nat.pow_lt_pow_right (by omega) ha)
theorem mvA_lt {n : Nat} {q : GQ} (h : gok n q) {i : Nat} (hi : i < 2 ^ n) : mvA q i < 2 ^ n := by
 obtain ⟨h1, h2, h3⟩ := h
 unfold mvA
 split
 ·exact xlt hi h1
 split
 ·rename_i e; have := (h2 (Or.inl e)).1
  split
  ·exact xlt hi this
  ·exact hi
 split
 ·rename_i e; have := (h2 (Or.inr (Or.inr e))).1
  split
  ·exact xlt (xlt hi h1) this
  ·exact hi
 split
 ·rename_i e; have := (h3 e).1.2
  split
  ·exact xlt hi this
  ·exact hi
 ·exact hi
theorem tb_x (i a b : Nat) : (i ^^^ 2 ^ b).testBit a = (i.testBit a ^^ decide (b = a)) := by rw [Nat.testBit_xor, Nat.testBit_two_pow]
theorem tb_ne {i a b : Nat} (h : a ≠ b) : (i ^^^ 2 ^ b).testBit a = i.testBit a := by rw [tb_x, decide_eq_false (fun e : b = a => h e.symm), Bool.xor_false]
theorem tb_eq (i a : Nat) : (i ^^^ 2 ^ a).testBit a = !i.testBit a := by rw [tb_x]; simp
theorem xx (i a : Nat) : i ^^^ a ^^^ a = i := by rw [Nat.xor_assoc, Nat.xor_self, Nat.xor_zero]
theorem mvA_inv {n : Nat} {q : GQ} (h : gok n q) (i : Nat) : mvA q (mvA q i) = i := by
 obtain ⟨h1, h2, h3⟩ := h
 unfold mvA
 by_cases e1 : q.1 = 1 ∨ q.1 = 2
 ·simp only [if_pos e1]; exact xx ..
 simp only [if_neg e1]
 by_cases e2 : q.1 = 9
 ·have hne := (h2 (Or.inl e2)).2
  simp only [if_pos e2]
  by_cases hb : i.testBit q.2.1.toNat = true
  ·simp only [if_pos hb, tb_ne hne, hb, if_true]; exact xx ..
  ·simp only [if_neg hb]
 simp only [if_neg e2]
 by_cases e3 : q.1 = 11
 ·have hne := (h2 (Or.inr (Or.inr e3))).2
  simp only [if_pos e3]
  by_cases hb : (i.testBit q.2.1.toNat != i.testBit q.2.2.1.toNat) = true
  ·have hb' : ((i ^^^ 2 ^ q.2.1.toNat ^^^ 2 ^ q.2.2.1.toNat).testBit q.2.1.toNat != (i ^^^ 2 ^ q.2.1.toNat ^^^ 2 ^ q.2.2.1.toNat).testBit q.2.2.1.toNat) = true := by
    rw [tb_ne hne, tb_eq, tb_eq, tb_ne hne.symm]; simpa using hb
   simp only [if_pos hb, if_pos hb']
   rw [Nat.xor_assoc i, Nat.xor_comm (2 ^ q.2.1.toNat), ← Nat.xor_assoc, xx, xx]
  ·simp only [if_neg hb]
 simp only [if_neg e3]
 by_cases e4 : q.1 = 12
 ·obtain ⟨_, g1, g2⟩ := h3 e4
  simp only [if_pos e4]
  by_cases hb : (i.testBit q.2.1.toNat && i.testBit q.2.2.1.toNat) = true
  ·simp only [if_pos hb, tb_ne g1, tb_ne g2, hb, if_true]; exact xx ..
  ·simp only [if_neg hb]
 simp only [if_neg e4]
theorem adz_mix' (a b c d : Z4) : adz (adz a b) (adz c d) = adz (adz a c) (adz b d) := by
 unfold adz; apply z_ext <;> simp only <;> omega
theorem mlz_ngz (c x : Z4) : mlz c (ngz x) = ngz (mlz c x) := by
 rw [ngz_ml, ngz_ml, ← mlz_assoc, mlz_comm c, mlz_assoc]
theorem mlz_swap (a b x : Z4) : mlz a (mlz b x) = mlz b (mlz a x) := by rw [← mlz_assoc, mlz_comm a, mlz_assoc]
theorem gz_mul (q : GQ) (c : Z4) (f : Amp) (r : Nat) : gz q (fun i => mlz c (f i)) r = mlz c (gz q f r) := by
 unfold gz
 split
 ·split <;> simp only [mlz_add, mlz_ngz]
 ·rw [mlz_swap]
theorem gzs_mul (L : List GQ) (c : Z4) : ∀ (f : Amp), gzs L (fun i => mlz c (f i)) = fun r => mlz c (gzs L f r) := by
 induction L with
 | nil => intro f; rfl
 | cons q L ih =>
  intro f
  rw [gzs_cons, show gz q (fun i => mlz c (f i)) = fun r => mlz c (gz q f r) from funext (gz_mul q c f), ih]
  rfl
theorem rt_ml (x : Z4) : rt x = mlz (0, 1, 0, -1) x := by unfold mlz rt; apply z_ext <;> simp only <;> omega
def rz : Nat → Z4
 | 0 => (1, 0, 0, 0)
 | k + 1 => mlz (0, 1, 0, -1) (rz k)
theorem rtn_ml (k : Nat) (x : Z4) : rtn k x = mlz (rz k) x := by
 induction k with
 | zero => rw [rz, mlz_1l]; rfl
 | succ k ih => show rt (rtn k x) = _; rw [rz, mlz_assoc, ← ih, rt_ml]
theorem gzs_rtn (L : List GQ) (k : Nat) (f : Amp) : gzs L (fun i => rtn k (f i)) = fun r => rtn k (gzs L f r) := by
 simp only [rtn_ml]; exact gzs_mul L _ f
theorem gz_congr {n : Nat} {q : GQ} (h : gok n q) {f g : Amp} (e : ∀ i, i < 2 ^ n → f i = g i) {r : Nat} (hr : r < 2 ^ n) : gz q f r = gz q g r := by
 unfold gz
 rw [e _ (mvA_lt h hr), e _ (xlt hr h.1), e _ hr]
theorem gzs_congr {n : Nat} : ∀ {L : List GQ}, (∀ q ∈ L, gok n q) → ∀ {f g : Amp}, (∀ i, i < 2 ^ n → f i = g i) → ∀ {r : Nat}, r < 2 ^ n → gzs L f r = gzs L g r
 | [], _, f, g, e, r, hr => e r hr
 | q :: L, h, f, g, e, r, hr => gzs_congr (L := L) (fun x hx => h x (List.mem_cons_of_mem _ hx)) (fun i hi => gz_congr (h q (List.mem_cons_self ..)) e hi) hr
/-- Bounds. -/
def bdv (M : Int) (f : Amp) : Prop := ∀ i, bdz M (f i)
theorem gz_bd {M : Int} {f : Amp} (h : bdv M f) (q : GQ) : bdv (if q.1 = 4 then 2 * M else M) (gz q f) := by
 intro r
 unfold gz
 split
 ·rename_i e
  split
  ·rw [show 2 * M = M + M by omega]; exact bdz_adz (h _) (bd_ngz (h _))
  ·rw [show 2 * M = M + M by omega]; exact bdz_adz (h _) (h _)
 ·exact bd_oz _ (h _)
def dl (c : Nat) : Amp := fun i => if i = c then (1, 0, 0, 0) else (0, 0, 0, 0)
theorem dl_bd (c : Nat) : bdv 1 (dl c) := by
 intro i; unfold dl bdz; split <;> simp
/-- Two rows of gates that do the same on n qubits, up to a phase. -/
def SimK (n : Nat) (A B : List GQ) (k : Nat) : Prop := ∀ (f : Amp) (r : Nat), r < 2 ^ n → rtn (hc B) (gzs A f r) = rtn (hc A) (mlz (oz k) (gzs B f r))
def Sim (n : Nat) (A B : List GQ) : Prop := ∃ k, SimK n A B k
theorem Sim.refl (n : Nat) (A : List GQ) : Sim n A A := ⟨0, fun f r _ => by rw [oz_0]⟩
theorem Sim.symm {n : Nat} {A B : List GQ} (h : Sim n A B) : Sim n B A := by
 obtain ⟨k, h⟩ := h
 refine ⟨7 * k, fun f r hr => ?_⟩
 have e := h f r hr
 rw [rtn_mlz', e, ← rtn_mlz', ← mlz_assoc, oz_mul, oz_congr (a := 7 * k + k) (b := 0) (by omega), oz_0]
theorem Sim.trans {n : Nat} {A B C : List GQ} (h : Sim n A B) (g : Sim n B C) : Sim n A C := by
 obtain ⟨k, h⟩ := h
 obtain ⟨j, g⟩ := g
 refine ⟨k + j, fun f r hr => ?_⟩
 have e1 := h f r hr
 have e2 := g f r hr
 refine rtn_inj (hc B) ?_
 rw [rtn_swap, e1, rtn_swap, rtn_mlz', e2, ← rtn_mlz', ← mlz_assoc, oz_mul, rtn_swap]
theorem Sim.post {n : Nat} {A B : List GQ} (h : Sim n A B) {C : List GQ} (hC : ∀ q ∈ C, gok n q) : Sim n (A ++ C) (B ++ C) := by
 obtain ⟨k, h⟩ := h
 refine ⟨k, fun f r hr => ?_⟩
 rw [gzs_append, gzs_append, hc_append, hc_append, Nat.add_comm (hc B), Nat.add_comm (hc A), ← rtn_add, ← rtn_add]
 congr 1
 have e1 : gzs C (fun i => rtn (hc B) (gzs A f i)) r = rtn (hc B) (gzs C (gzs A f) r) := by rw [gzs_rtn]
 have e2 : gzs C (fun i => rtn (hc A) (mlz (oz k) (gzs B f i))) r = rtn (hc A) (mlz (oz k) (gzs C (gzs B f) r)) := by rw [gzs_rtn, gzs_mul]
 rw [← e1, ← e2]
 exact gzs_congr hC (fun i hi => h f i hi) hr
end Go.Proofs.Ytfjopjalhllplaa
