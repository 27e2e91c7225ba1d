/- Joined texts: Pra Prb. -/
import Derived.Test.YtoleoojcodlciaaProg
/- Plain laws: the numbers of the ring D[omega]: reduced forms are unique; sums and products by value. -/
namespace Go.Proofs.Ytoleoojcodlciaa
set_option linter.unusedVariables false
set_option linter.unusedSimpArgs false
abbrev Z4 := Int × Int × Int × Int
def rt (x : Z4) : Z4 := (x.2.1 - x.2.2.2, x.1 + x.2.2.1, x.2.1 + x.2.2.2, x.2.2.1 - x.1)
def adz (x y : Z4) : Z4 := (x.1 + y.1, x.2.1 + y.2.1, x.2.2.1 + y.2.2.1, x.2.2.2 + y.2.2.2)
def mlz (x y : Z4) : Z4 := (x.1 * y.1 - x.2.1 * y.2.2.2 - x.2.2.1 * y.2.2.1 - x.2.2.2 * y.2.1, x.1 * y.2.1 + x.2.1 * y.1 - x.2.2.1 * y.2.2.2 - x.2.2.2 * y.2.2.1,
  x.1 * y.2.2.1 + x.2.1 * y.2.1 + x.2.2.1 * y.1 - x.2.2.2 * y.2.2.2, x.1 * y.2.2.2 + x.2.1 * y.2.2.1 + x.2.2.1 * y.2.1 + x.2.2.2 * y.1)
theorem z_ext {x y : Z4} (h1 : x.1 = y.1) (h2 : x.2.1 = y.2.1) (h3 : x.2.2.1 = y.2.2.1) (h4 : x.2.2.2 = y.2.2.2) : x = y :=
  Prod.ext h1 (Prod.ext h2 (Prod.ext h3 h4))
theorem rt_inj {x y : Z4} (h : rt x = rt y) : x = y := by
  unfold rt at h
  simp only [Prod.mk.injEq] at h
  apply z_ext <;> omega
theorem rt_add (x y : Z4) : rt (adz x y) = adz (rt x) (rt y) := by
  unfold rt adz
  apply z_ext <;> simp only <;> omega
theorem rt_mul (x y : Z4) : mlz (rt x) y = rt (mlz x y) := by
  unfold rt mlz
  apply z_ext <;> simp only <;> grind
theorem mlz_comm (x y : Z4) : mlz x y = mlz y x := by
  unfold mlz
  apply z_ext <;> simp only <;> grind
theorem mlz_assoc (x y z : Z4) : mlz (mlz x y) z = mlz x (mlz y z) := by
  unfold mlz
  apply z_ext <;> simp only <;> grind
theorem mlz_add (x y z : Z4) : mlz x (adz y z) = adz (mlz x y) (mlz x z) := by
  unfold mlz adz
  apply z_ext <;> simp only <;> grind
theorem adz_comm (x y : Z4) : adz x y = adz y x := by
  unfold adz
  apply z_ext <;> simp only <;> omega
theorem adz_assoc (x y z : Z4) : adz (adz x y) z = adz x (adz y z) := by
  unfold adz
  apply z_ext <;> simp only <;> omega
def rtn : Nat → Z4 → Z4
  | 0, x => x
  | k + 1, x => rt (rtn k x)
theorem rtn_inj (k : Nat) {x y : Z4} (h : rtn k x = rtn k y) : x = y := by
  induction k with
  | zero => exact h
  | succ k ih => exact ih (rt_inj h)
theorem rtn_add (j k : Nat) (x : Z4) : rtn j (rtn k x) = rtn (j + k) x := by
  induction j with
  | zero => simp [rtn]
  | succ j ih => rw [show j + 1 + k = (j + k) + 1 by omega]; show rt (rtn j (rtn k x)) = rt _; rw [ih]
theorem rtn_adz (k : Nat) (x y : Z4) : rtn k (adz x y) = adz (rtn k x) (rtn k y) := by
  induction k with
  | zero => rfl
  | succ k ih => show rt _ = adz (rt _) (rt _); rw [ih, rt_add]
theorem rtn_mlz (k : Nat) (x y : Z4) : rtn k (mlz x y) = mlz (rtn k x) y := by
  induction k with
  | zero => rfl
  | succ k ih => show rt _ = mlz (rt _) y; rw [ih, rt_mul]
theorem rtn_mlz' (k : Nat) (x y : Z4) : rtn k (mlz x y) = mlz x (rtn k y) := by rw [mlz_comm, rtn_mlz, mlz_comm]
theorem rt_rt (x : Z4) : rt (rt x) = adz x x := by
  unfold rt adz
  apply z_ext <;> simp only <;> omega
def ev4 (x : Z4) : Bool := x.1 % 2 == 0 && (x.2.1 % 2 == 0 && (x.2.2.1 % 2 == 0 && x.2.2.2 % 2 == 0))
def hlf (x : Z4) : Z4 := (x.1 / 2, x.2.1 / 2, x.2.2.1 / 2, x.2.2.2 / 2)
/-- Divisible by the root. -/
def dvb (x : Z4) : Bool := ev4 (rt x)
def dvh (x : Z4) : Z4 := hlf (rt x)
theorem ev4_iff (x : Z4) : ev4 x = true ↔ x.1 % 2 = 0 ∧ x.2.1 % 2 = 0 ∧ x.2.2.1 % 2 = 0 ∧ x.2.2.2 % 2 = 0 := by
  unfold ev4; simp only [Bool.and_eq_true, beq_iff_eq]
theorem dv_rt {x : Z4} (h : dvb x = true) : rt (dvh x) = x := by
  unfold dvb at h
  rw [ev4_iff] at h
  unfold dvh hlf rt at *
  simp only at h
  apply z_ext <;> simp only <;> omega
theorem rt_dv (x : Z4) : dvb (rt x) = true := by
  unfold dvb
  rw [ev4_iff]
  unfold rt
  simp only
  omega
def vz (x : Z4) : Bool := decide (-1073741824 ≤ x.1 ∧ x.1 ≤ 1073741824) && (decide (-1073741824 ≤ x.2.1 ∧ x.2.1 ≤ 1073741824) && (decide (-1073741824 ≤ x.2.2.1 ∧ x.2.2.1 ≤ 1073741824) && decide (-1073741824 ≤ x.2.2.2 ∧ x.2.2.2 ≤ 1073741824)))
/-- Coefficients up to a bound. -/
def bdz (M : Int) (x : Z4) : Prop := (-M ≤ x.1 ∧ x.1 ≤ M) ∧ (-M ≤ x.2.1 ∧ x.2.1 ≤ M) ∧ (-M ≤ x.2.2.1 ∧ x.2.2.1 ≤ M) ∧ (-M ≤ x.2.2.2 ∧ x.2.2.2 ≤ M)
theorem vz_iff (x : Z4) : vz x = true ↔ bdz 1073741824 x := by
  unfold vz bdz; simp only [Bool.and_eq_true, decide_eq_true_eq]
theorem bd_dv {M : Int} {x : Z4} (h : dvb x = true) (hb : bdz M x) : bdz M (dvh x) := by
  unfold dvb at h
  rw [ev4_iff] at h
  unfold bdz dvh hlf rt at *
  simp only at *
  omega
/-- Reduced to the least exponent. -/
def nd : Nat → Z4 → Z4 × Nat
  | 0, n => (n, 0)
  | k + 1, n => if dvb n = true then nd k (dvh n) else (n, k + 1)
theorem nd_spec : ∀ (k : Nat) (n : Z4), (nd k n).2 ≤ k ∧ rtn (k - (nd k n).2) (nd k n).1 = n ∧ ((nd k n).2 = 0 ∨ dvb (nd k n).1 = false) ∧ ∀ M, bdz M n → bdz M (nd k n).1
  | 0, n => ⟨Nat.le_refl 0, rfl, Or.inl rfl, fun M h => h⟩
  | k + 1, n => by
    unfold nd
    by_cases h : dvb n = true
    · rw [if_pos h]
      obtain ⟨h1, h2, h3, h4⟩ := nd_spec k (dvh n)
      refine ⟨by omega, ?_, h3, fun M hM => h4 M (bd_dv h hM)⟩
      rw [show k + 1 - (nd k (dvh n)).2 = (k - (nd k (dvh n)).2) + 1 by omega]
      show rt (rtn _ _) = n
      rw [h2, dv_rt h]
    · rw [if_neg h]
      refine ⟨Nat.le_refl _, ?_, Or.inr (by simpa using h), fun M h => h⟩
      rw [Nat.sub_self]; rfl
/-- Two reduced numbers of one value are equal. -/
theorem uniq {n m : Z4} {k j : Nat} (h : rtn j n = rtn k m) (hn : k = 0 ∨ dvb n = false) (hm : j = 0 ∨ dvb m = false) : n = m ∧ k = j := by
  have key : ∀ {n m : Z4} {k j : Nat}, k ≤ j → rtn j n = rtn k m → (j = 0 ∨ dvb m = false) → n = m ∧ k = j := by
    intro n m k j hkj h hm
    have e : rtn (j - k) n = m := rtn_inj k (by rw [rtn_add, show k + (j - k) = j by omega, h])
    by_cases hj : j = k
    · subst hj; rw [Nat.sub_self] at e; exact ⟨e, rfl⟩
    · obtain ⟨d, hd⟩ : ∃ d, j - k = d + 1 := ⟨j - k - 1, by omega⟩
      rw [hd] at e
      have : dvb m = true := by rw [← e]; exact rt_dv _
      rcases hm with h0 | h0
      · omega
      · rw [this] at h0; cases h0
  rcases Nat.le_total k j with hkj | hkj
  · exact key hkj h hm
  · obtain ⟨a, b⟩ := key hkj h.symm hn
    exact ⟨a.symm, b.symm⟩
theorem nd_uniq {n m : Z4} {k j : Nat} (h : rtn j n = rtn k m) : nd k n = nd j m := by
  obtain ⟨a1, a2, a3, _⟩ := nd_spec k n
  obtain ⟨b1, b2, b3, _⟩ := nd_spec j m
  have e : rtn (nd j m).2 (nd k n).1 = rtn (nd k n).2 (nd j m).1 := by
    refine rtn_inj ((k - (nd k n).2) + (j - (nd j m).2)) ?_
    have e1 : rtn (k - (nd k n).2 + (j - (nd j m).2)) (rtn (nd j m).2 (nd k n).1) = rtn j n := by
      rw [rtn_add, show k - (nd k n).2 + (j - (nd j m).2) + (nd j m).2 = j + (k - (nd k n).2) by omega, ← rtn_add, a2]
    have e2 : rtn (k - (nd k n).2 + (j - (nd j m).2)) (rtn (nd k n).2 (nd j m).1) = rtn k m := by
      rw [rtn_add, show k - (nd k n).2 + (j - (nd j m).2) + (nd k n).2 = k + (j - (nd j m).2) by omega, ← rtn_add, b2]
    rw [e1, e2, h]
  obtain ⟨e1, e2⟩ := uniq e a3 b3
  exact Prod.ext e1 e2
theorem nd_id {n : Z4} {k : Nat} (h : k = 0 ∨ dvb n = false) : nd k n = (n, k) := by
  cases k with
  | zero => rfl
  | succ k =>
    unfold nd
    rcases h with h | h
    · omega
    · rw [h]; rfl
abbrev DQ := Int × Int × Int × Int × Int
def znm (x : DQ) : Z4 := (x.1, x.2.1, x.2.2.1, x.2.2.2.1)
def zex (x : DQ) : Int := x.2.2.2.2
def zexn (x : DQ) : Nat := (zex x).toNat
def vd (x : DQ) : Bool := vz (znm x) && (decide (0 ≤ zex x ∧ zex x ≤ 60) && (zex x == 0 || !dvb (znm x)))
def mkD (r : Z4 × Nat) : DQ := (r.1.1, r.1.2.1, r.1.2.2.1, r.1.2.2.2, (r.2 : Int))
def d0 : DQ := (0, 0, 0, 0, 0)
def newF (n : Z4) (k : Nat) : Option DQ := if vz n = true ∧ (nd k n).2 ≤ 60 then some (mkD (nd k n)) else none
def mulF (x y : DQ) : Option DQ := if vz (mlz (znm x) (znm y)) = true then newF (mlz (znm x) (znm y)) (zexn x + zexn y) else none
def upF (x : DQ) (K : Nat) : Z4 := rtn (K - zexn x) (znm x)
def addF (x y : DQ) : Option DQ :=
  let K := max (zexn x) (zexn y)
  if (vz (upF x K) = true ∧ vz (upF y K) = true) ∧ vz (adz (upF x K) (upF y K)) = true then newF (adz (upF x K) (upF y K)) K else none
theorem vd_iff (x : DQ) : vd x = true ↔ vz (znm x) = true ∧ (0 ≤ zex x ∧ zex x ≤ 60) ∧ (zexn x = 0 ∨ dvb (znm x) = false) := by
  unfold vd zexn
  simp only [Bool.and_eq_true, decide_eq_true_eq, Bool.or_eq_true, beq_iff_eq, Bool.not_eq_true']
  constructor
  · rintro ⟨a, b, c⟩; exact ⟨a, b, c.imp (fun h => by omega) id⟩
  · rintro ⟨a, b, c⟩; exact ⟨a, b, c.imp (fun h => by omega) id⟩
theorem mk_znm (x : DQ) (h : 0 ≤ zex x) : mkD (znm x, zexn x) = x := by
  obtain ⟨a, b, c, d, e⟩ := x
  unfold mkD znm zexn zex at *
  simp only at *
  rw [Int.toNat_of_nonneg h]
theorem znm_mk (r : Z4 × Nat) : znm (mkD r) = r.1 ∧ zexn (mkD r) = r.2 ∧ zex (mkD r) = (r.2 : Int) := ⟨rfl, by unfold zexn zex mkD; simp, rfl⟩
theorem rtn_bd {M : Int} : ∀ (k : Nat) {x : Z4}, bdz M (rtn k x) → bdz M x
  | 0, x, h => h
  | k + 1, x, h => rtn_bd k (by
    have : dvb (rt (rtn k x)) = true := rt_dv _
    have e : dvh (rt (rtn k x)) = rtn k x := rt_inj (dv_rt this)
    rw [← e]
    exact bd_dv this h)
/-- What newF gives: a valid number of the same value. -/
theorem new_spec {n : Z4} {k : Nat} {z : DQ} (h : newF n k = some z) : vd z = true ∧ zexn z ≤ k ∧ rtn k (znm z) = rtn (zexn z) n ∧ ∀ M, bdz M n → bdz M (znm z) := by
  unfold newF at h
  split at h
  case isFalse => cases h
  rename_i hc
  injection h with h
  subst h
  obtain ⟨h1, h2, h3, h4⟩ := nd_spec k n
  obtain ⟨e1, e2, e3⟩ := znm_mk (nd k n)
  rw [e1, e2]
  refine ⟨(vd_iff _).2 ⟨?_, ?_, ?_⟩, h1, ?_, h4⟩
  · rw [e1, vz_iff]; exact h4 _ ((vz_iff _).1 hc.1)
  · rw [e3]; omega
  · rw [e1, e2]; exact h3
  · have : rtn (nd k n).2 n = rtn (nd k n).2 (rtn (k - (nd k n).2) (nd k n).1) := by rw [h2]
    rw [this, rtn_add, show (nd k n).2 + (k - (nd k n).2) = k by omega]
/-- newF of a number's own value. -/
theorem new_val {z : DQ} (hz : vd z = true) {n : Z4} {k : Nat} (hn : vz n = true) (h : rtn k (znm z) = rtn (zexn z) n) : newF n k = some z := by
  obtain ⟨a, b, c⟩ := (vd_iff z).1 hz
  have e : nd k n = (znm z, zexn z) := by
    rw [nd_uniq (n := n) (m := znm z) (k := k) (j := zexn z) h.symm]
    exact nd_id c
  unfold newF
  rw [e]
  have : zexn z ≤ 60 := by unfold zexn; omega
  rw [if_pos ⟨hn, this⟩, mk_znm z b.1]
theorem rtn_zero (k : Nat) : rtn k (0, 0, 0, 0) = (0, 0, 0, 0) := by
  induction k with
  | zero => rfl
  | succ k ih => show rt (rtn k _) = _; rw [ih]; rfl
theorem mlz_0l (y : Z4) : mlz (0, 0, 0, 0) y = (0, 0, 0, 0) := by unfold mlz; simp
theorem mlz_0r (y : Z4) : mlz y (0, 0, 0, 0) = (0, 0, 0, 0) := by unfold mlz; simp
theorem vd_d0 : vd d0 = true := by decide
theorem mul_0l {y : DQ} : mulF d0 y = some d0 := by
  unfold mulF
  have e : mlz (znm d0) (znm y) = (0, 0, 0, 0) := mlz_0l _
  rw [e, if_pos (by decide)]
  exact new_val vd_d0 (by decide) (by rw [show znm d0 = (0, 0, 0, 0) from rfl, rtn_zero, rtn_zero])
theorem mul_0r {y : DQ} : mulF y d0 = some d0 := by
  unfold mulF
  have e : mlz (znm y) (znm d0) = (0, 0, 0, 0) := mlz_0r _
  rw [e, if_pos (by decide)]
  exact new_val vd_d0 (by decide) (by rw [show znm d0 = (0, 0, 0, 0) from rfl, rtn_zero, rtn_zero])
theorem adz_0r (x : Z4) : adz x (0, 0, 0, 0) = x := by unfold adz; simp
theorem add_comm' (x y : DQ) : addF x y = addF y x := by
  unfold addF
  simp only [Nat.max_comm (zexn x) (zexn y), adz_comm (upF x _) (upF y _), And.comm (a := vz (upF x _) = true)]
theorem add_0r {x : DQ} (hx : vd x = true) : addF x d0 = some x := by
  obtain ⟨a, b, c⟩ := (vd_iff x).1 hx
  have e1 : max (zexn x) (zexn d0) = zexn x := by show max (zexn x) 0 = _; omega
  have e2 : upF x (zexn x) = znm x := by unfold upF; rw [Nat.sub_self]; rfl
  have e3 : upF d0 (zexn x) = (0, 0, 0, 0) := rtn_zero _
  unfold addF
  simp only [e1, e2, e3, adz_0r]
  rw [if_pos ⟨⟨a, by decide⟩, a⟩]
  exact new_val hx a rfl
theorem add_0l {x : DQ} (hx : vd x = true) : addF d0 x = some x := by rw [add_comm', add_0r hx]
/-- The values of sums and products. -/
theorem mul_val {x y z : DQ} (h : mulF x y = some z) : vd z = true ∧ rtn (zexn x + zexn y) (znm z) = rtn (zexn z) (mlz (znm x) (znm y)) := by
  unfold mulF at h
  split at h
  · exact ⟨(new_spec h).1, (new_spec h).2.2.1⟩
  · cases h
theorem add_val {x y z : DQ} (h : addF x y = some z) : vd z = true ∧ rtn (max (zexn x) (zexn y)) (znm z) = rtn (zexn z) (adz (upF x (max (zexn x) (zexn y))) (upF y (max (zexn x) (zexn y)))) := by
  unfold addF at h
  simp only at h
  split at h
  · exact ⟨(new_spec h).1, (new_spec h).2.2.1⟩
  · cases h
end Go.Proofs.Ytoleoojcodlciaa
/- Plain laws: sums of products, powers of i, projections, and numbers with small coefficients. -/
namespace Go.Proofs.Ytoleoojcodlciaa
set_option linter.unusedVariables false
set_option linter.unusedSimpArgs false
/-- The sum of products, from a start on. -/
def dotF : DQ → List DQ → List DQ → Option DQ
  | s, x :: r, y :: v => (mulF x y).bind fun p => (addF s p).bind fun z => dotF z r v
  | s, _, _ => some s
theorem dot_zero : ∀ (row v : List DQ) (s : DQ), vd s = true → (∀ x ∈ row, x = d0) → dotF s row v = some s
  | [], v, s, hs, h => by cases v <;> rfl
  | x :: r, [], s, hs, h => rfl
  | x :: r, y :: v, s, hs, h => by
    have hx := h x (List.mem_cons_self ..)
    subst hx
    unfold dotF
    rw [mul_0l, Option.bind_some, add_0r hs, Option.bind_some]
    exact dot_zero r v s hs fun q hq => h q (List.mem_cons_of_mem _ hq)
/-- A row with one number. -/
theorem dot_single : ∀ (row v : List DQ) (c : Nat) (a b : DQ), row[c]? = some a → v[c]? = some b → (∀ (i : Nat) (x : DQ), i ≠ c → row[i]? = some x → x = d0) → dotF d0 row v = mulF a b
  | [], v, c, a, b, h1, h2, h3 => by simp at h1
  | x :: r, [], c, a, b, h1, h2, h3 => by simp at h2
  | x :: r, y :: v, 0, a, b, h1, h2, h3 => by
    simp at h1 h2
    subst h1 h2
    unfold dotF
    cases hm : mulF x y with
    | none => rfl
    | some p =>
      rw [Option.bind_some, add_0l (mul_val hm).1, Option.bind_some]
      refine dot_zero r v p (mul_val hm).1 fun q hq => ?_
      obtain ⟨i, hi, rfl⟩ := List.getElem_of_mem hq
      exact h3 (i + 1) _ (by omega) (by simp [List.getElem?_eq_getElem hi])
  | x :: r, y :: v, c + 1, a, b, h1, h2, h3 => by
    have hx := h3 0 x (by omega) rfl
    subst hx
    unfold dotF
    rw [mul_0l, Option.bind_some, add_0r vd_d0, Option.bind_some]
    exact dot_single r v c a b (by simpa using h1) (by simpa using h2) fun i q hi hq => h3 (i + 1) q (by omega) (by simpa using hq)
/-- The powers of i. -/
def phz (a : Nat) : Z4 := if a % 4 = 0 then (1, 0, 0, 0) else if a % 4 = 1 then (0, 0, 1, 0) else if a % 4 = 2 then (-1, 0, 0, 0) else (0, 0, -1, 0)
def ph4 (a : Nat) : DQ := mkD (phz a, 0)
def phx (a : Nat) (x : DQ) : DQ := mkD (mlz (phz a) (znm x), zexn x)
theorem phz_cases (a : Nat) : (phz a = (1, 0, 0, 0) ∨ phz a = (0, 0, 1, 0)) ∨ (phz a = (-1, 0, 0, 0) ∨ phz a = (0, 0, -1, 0)) := by
  unfold phz; (repeat' split) <;> simp
theorem phz_mul (a b : Nat) : mlz (phz a) (phz b) = phz (a + b) := by
  have h : ∀ a b : Fin 4, mlz (phz a.val) (phz b.val) = phz (a.val + b.val) := by decide
  have e : ∀ a : Nat, phz a = phz (a % 4) := fun a => by unfold phz; rw [Nat.mod_mod]
  have := h ⟨a % 4, by omega⟩ ⟨b % 4, by omega⟩
  simp only at this
  rw [e a, e b, this, e (a + b), e (a % 4 + b % 4)]
  congr 1
  omega
theorem bd_ph {M : Int} {x : Z4} (a : Nat) (h : bdz M x) : bdz M (mlz (phz a) x) := by
  rcases phz_cases a with (e | e) | (e | e) <;> rw [e] <;> unfold bdz mlz at * <;> simp only <;> omega
theorem dv_ph (a : Nat) (x : Z4) : dvb (mlz (phz a) x) = dvb x := by
  rw [Bool.eq_iff_iff]
  unfold dvb
  rw [ev4_iff, ev4_iff]
  rcases phz_cases a with (e | e) | (e | e) <;> rw [e] <;> unfold mlz rt <;> simp only <;> omega
theorem ph_vd {a : Nat} {x : DQ} (h : vd x = true) : vd (phx a x) = true := by
  obtain ⟨h1, h2, h3⟩ := (vd_iff x).1 h
  obtain ⟨e1, e2, e3⟩ := znm_mk (mlz (phz a) (znm x), zexn x)
  refine (vd_iff _).2 ?_
  unfold phx
  rw [e1, e2, e3, dv_ph]
  exact ⟨(vz_iff _).2 (bd_ph a ((vz_iff _).1 h1)), by unfold zexn; simp only; omega, h3⟩
theorem ph_mul {a : Nat} {x : DQ} (h : vd x = true) : mulF (ph4 a) x = some (phx a x) := by
  obtain ⟨h1, h2, h3⟩ := (vd_iff x).1 h
  obtain ⟨e1, e2, e3⟩ := znm_mk (phz a, 0)
  unfold mulF ph4
  have hz : vz (mlz (phz a) (znm x)) = true := (vz_iff _).2 (bd_ph a ((vz_iff _).1 h1))
  rw [e1, e2, if_pos hz]
  refine new_val (ph_vd h) hz ?_
  obtain ⟨f1, f2, f3⟩ := znm_mk (mlz (phz a) (znm x), zexn x)
  unfold phx
  rw [f1, f2, Nat.zero_add]
theorem ph_d0 (a : Nat) : phx a d0 = d0 := by
  unfold phx
  rw [show mlz (phz a) (znm d0) = (0, 0, 0, 0) from mlz_0r _]
  rfl
theorem ph_ph4 (a b : Nat) : phx a (ph4 b) = ph4 (a + b) := by
  unfold phx ph4
  obtain ⟨e1, e2, e3⟩ := znm_mk (phz b, 0)
  rw [e1, e2]
  simp only
  rw [phz_mul]
theorem ph_vd4 (a : Nat) : vd (ph4 a) = true := by
  have h : ∀ a : Fin 4, vd (ph4 a.val) = true := by decide
  have e : ph4 a = ph4 (a % 4) := by unfold ph4 phz; rw [Nat.mod_mod]
  rw [e]; exact h ⟨a % 4, by omega⟩
theorem ph_ne (a : Nat) : ph4 a ≠ d0 := by
  have h : ∀ a : Fin 4, ph4 a.val ≠ d0 := by decide
  have e : ph4 a = ph4 (a % 4) := by unfold ph4 phz; rw [Nat.mod_mod]
  rw [e]; exact h ⟨a % 4, by omega⟩
theorem ph_ph (a b : Nat) (x : DQ) : phx a (phx b x) = phx (a + b) x := by
  unfold phx
  obtain ⟨e1, e2, e3⟩ := znm_mk (mlz (phz b) (znm x), zexn x)
  rw [e1, e2]
  simp only
  rw [← mlz_assoc, phz_mul]
theorem ph_congr {a b : Nat} (h : a % 4 = b % 4) (x : DQ) : phx a x = phx b x := by unfold phx phz; rw [h]
theorem ph4_congr {a b : Nat} (h : a % 4 = b % 4) : ph4 a = ph4 b := by unfold ph4 phz; rw [h]
theorem rtn_swap (j k : Nat) (x : Z4) : rtn j (rtn k x) = rtn k (rtn j x) := by rw [rtn_add, rtn_add, Nat.add_comm]
/-- Valid numbers of one value are equal. -/
theorem val_eq {x y : DQ} (hx : vd x = true) (hy : vd y = true) {n : Z4} {k : Nat} (h1 : rtn k (znm x) = rtn (zexn x) n) (h2 : rtn k (znm y) = rtn (zexn y) n) : x = y := by
  obtain ⟨a1, a2, a3⟩ := (vd_iff x).1 hx
  obtain ⟨b1, b2, b3⟩ := (vd_iff y).1 hy
  have e : rtn (zexn y) (znm x) = rtn (zexn x) (znm y) := by
    refine rtn_inj k ?_
    rw [rtn_swap, h1, rtn_swap k, h2, rtn_swap]
  obtain ⟨e1, e2⟩ := uniq e a3 b3
  rw [← mk_znm x a2.1, ← mk_znm y b2.1, e1, e2]
def h2 : DQ := (1, 0, 0, 0, 2)
theorem mlz_1 (x : Z4) : mlz x (1, 0, 0, 0) = x := by unfold mlz; apply z_ext <;> simp
theorem mlz_1l (x : Z4) : mlz (1, 0, 0, 0) x = x := by rw [mlz_comm, mlz_1]
/-- Half a sum. -/
theorem sum_half {x y s w : DQ} (h : addF x y = some s) (k : mulF s h2 = some w) : vd w = true ∧ rtn (max (zexn x) (zexn y) + 2) (znm w) = rtn (zexn w) (adz (upF x (max (zexn x) (zexn y))) (upF y (max (zexn x) (zexn y)))) := by
  obtain ⟨_, h2'⟩ := add_val h
  obtain ⟨k1, k2⟩ := mul_val k
  refine ⟨k1, ?_⟩
  rw [show znm h2 = (1, 0, 0, 0) from rfl, mlz_1, show zexn h2 = 2 from rfl] at k2
  generalize max (zexn x) (zexn y) = K at *
  generalize adz (upF x K) (upF y K) = N at *
  refine rtn_inj (zexn s) ?_
  rw [rtn_add, show zexn s + (K + 2) = K + (zexn s + 2) by omega, ← rtn_add, k2, rtn_swap, h2', rtn_swap]
theorem ph_exn (a : Nat) (x : DQ) : zexn (phx a x) = zexn x ∧ znm (phx a x) = mlz (phz a) (znm x) := by
  obtain ⟨e1, e2, e3⟩ := znm_mk (mlz (phz a) (znm x), zexn x)
  exact ⟨e2, e1⟩
theorem ph_up (a : Nat) (x : DQ) (K : Nat) : upF (phx a x) K = mlz (phz a) (upF x K) := by
  unfold upF
  rw [(ph_exn a x).1, (ph_exn a x).2, rtn_mlz']
/-- Projected by a Hermitian operator, a state is stabilized by it. -/
theorem proj_stab {v u s w s' w' : DQ} {a b : Nat} (h1 : addF v (phx a u) = some s) (k1 : mulF s h2 = some w) (h2' : addF u (phx b v) = some s') (k2 : mulF s' h2 = some w') (hab : (a + b) % 4 = 0) : phx a w' = w := by
  obtain ⟨x1, x2⟩ := sum_half h1 k1
  obtain ⟨y1, y2⟩ := sum_half h2' k2
  rw [(ph_exn a u).1, ph_up] at x2
  rw [(ph_exn b v).1, ph_up, Nat.max_comm] at y2
  generalize max (zexn v) (zexn u) = K at *
  refine val_eq (ph_vd y1) x1 (k := K + 2) ?_ x2
  rw [(ph_exn a w').1, (ph_exn a w').2, rtn_mlz', y2, ← rtn_mlz']
  congr 1
  rw [mlz_add, ← mlz_assoc, phz_mul]
  have e : phz (a + b) = (1, 0, 0, 0) := by unfold phz; rw [hab]; rfl
  rw [e, mlz_1l, adz_comm]
theorem half_self {w s y : DQ} (hw : vd w = true) (h : addF w w = some s) (k : mulF s h2 = some y) : y = w := by
  obtain ⟨x1, x2⟩ := sum_half h k
  rw [Nat.max_self] at x2
  have e2 : upF w (zexn w) = znm w := by unfold upF; rw [Nat.sub_self]; rfl
  rw [e2, ← rt_rt] at x2
  refine val_eq x1 hw (n := znm w) (k := zexn w) (rtn_inj 2 ?_) rfl
  rw [rtn_add, Nat.add_comm, x2, rtn_swap]
  rfl
/-- A number of a value with small coefficients. -/
def Bd (E : Nat) (M : Nat) (x : DQ) : Prop := vd x = true ∧ zexn x ≤ E ∧ ∃ n, bdz M n ∧ rtn E (znm x) = rtn (zexn x) n
theorem bdz_mono {M L : Int} (h : M ≤ L) {x : Z4} (hx : bdz M x) : bdz L x := by unfold bdz at *; omega
theorem bdz_adz {M L : Int} {x y : Z4} (hx : bdz M x) (hy : bdz L y) : bdz (M + L) (adz x y) := by unfold bdz adz at *; simp only; omega
theorem mul_bd {M L : Nat} {a b : Int} (ha : -(M : Int) ≤ a ∧ a ≤ M) (hb : -(L : Int) ≤ b ∧ b ≤ L) : -((M * L : Nat) : Int) ≤ a * b ∧ a * b ≤ ((M * L : Nat) : Int) := by
  have h1 : a.natAbs ≤ M := by omega
  have h2 : b.natAbs ≤ L := by omega
  have h3 : (a * b).natAbs ≤ M * L := by rw [Int.natAbs_mul]; exact Nat.mul_le_mul h1 h2
  omega
theorem bdz_mlz {M L : Nat} {x y : Z4} (hx : bdz M x) (hy : bdz L y) : bdz ((4 * (M * L) : Nat) : Int) (mlz x y) := by
  obtain ⟨x1, x2, x3, x4⟩ := hx
  obtain ⟨y1, y2, y3, y4⟩ := hy
  have a1 := mul_bd x1 y1; have a2 := mul_bd x1 y2; have a3 := mul_bd x1 y3; have a4 := mul_bd x1 y4
  have b1 := mul_bd x2 y1; have b2 := mul_bd x2 y2; have b3 := mul_bd x2 y3; have b4 := mul_bd x2 y4
  have c1 := mul_bd x3 y1; have c2 := mul_bd x3 y2; have c3 := mul_bd x3 y3; have c4 := mul_bd x3 y4
  have d1 := mul_bd x4 y1; have d2 := mul_bd x4 y2; have d3 := mul_bd x4 y3; have d4 := mul_bd x4 y4
  unfold bdz mlz
  simp only
  generalize M * L = P at *
  refine ⟨⟨?_, ?_⟩, ⟨?_, ?_⟩, ⟨?_, ?_⟩, ?_, ?_⟩ <;> omega
theorem Bd.up {E M : Nat} {x : DQ} (h : Bd E M x) {K : Nat} (h1 : zexn x ≤ K) (h2 : K ≤ E) : ∃ n, bdz M n ∧ rtn (E - K) (upF x K) = n ∧ rtn E (znm x) = rtn (zexn x) n := by
  obtain ⟨_, _, n, hn, e⟩ := h
  refine ⟨n, hn, ?_, e⟩
  refine rtn_inj (zexn x) ?_
  unfold upF
  rw [rtn_add, rtn_add, show zexn x + (E - K) + (K - zexn x) = E by omega, e]
theorem Bd.new {n : Z4} {k E M : Nat} (hk : k ≤ 60) (hE : k ≤ E) (hM : M ≤ 1073741824) (hb : bdz M (rtn (E - k) n)) : ∃ z, newF n k = some z ∧ Bd E M z := by
  have hv : vz n = true := (vz_iff n).2 (bdz_mono (by omega) (rtn_bd _ hb))
  obtain ⟨s1, _, _, _⟩ := nd_spec k n
  have hz : newF n k = some (mkD (nd k n)) := by unfold newF; rw [if_pos ⟨hv, by omega⟩]
  obtain ⟨z1, z2, z3, _⟩ := new_spec hz
  refine ⟨_, hz, z1, by omega, _, hb, ?_⟩
  rw [show E = (E - k) + k by omega, ← rtn_add, z3, rtn_swap, show E - k + k - k = E - k by omega]
theorem Bd.add {E M L : Nat} {x y : DQ} (hx : Bd E M x) (hy : Bd E L y) (hE : E ≤ 60) (hM : M + L ≤ 1073741824) : ∃ z, addF x y = some z ∧ Bd E (M + L) z := by
  have hK1 : zexn x ≤ max (zexn x) (zexn y) := Nat.le_max_left ..
  have hK2 : zexn y ≤ max (zexn x) (zexn y) := Nat.le_max_right ..
  have hK3 : max (zexn x) (zexn y) ≤ E := Nat.max_le.2 ⟨hx.2.1, hy.2.1⟩
  unfold addF
  simp only
  generalize max (zexn x) (zexn y) = K at *
  obtain ⟨n, n1, n2, n3⟩ := hx.up hK1 hK3
  obtain ⟨m, m1, m2, m3⟩ := hy.up hK2 hK3
  have b : bdz ((M + L : Nat) : Int) (rtn (E - K) (adz (upF x K) (upF y K))) := by
    rw [rtn_adz, n2, m2]
    have := bdz_adz n1 m1
    rw [show ((M + L : Nat) : Int) = (M : Int) + L by omega]
    exact this
  have v1 : vz (upF x K) = true := (vz_iff _).2 (rtn_bd (E - K) (by rw [n2]; exact bdz_mono (by omega) n1))
  have v2 : vz (upF y K) = true := (vz_iff _).2 (rtn_bd (E - K) (by rw [m2]; exact bdz_mono (by omega) m1))
  have v3 : vz (adz (upF x K) (upF y K)) = true := (vz_iff _).2 (rtn_bd (E - K) (bdz_mono (by omega) b))
  rw [if_pos ⟨⟨v1, v2⟩, v3⟩]
  exact Bd.new (by omega) hK3 hM b
theorem Bd.mul {E F M L : Nat} {x y : DQ} (hx : Bd E M x) (hy : Bd F L y) (hE : E + F ≤ 60) (hM : 4 * (M * L) ≤ 1073741824) : ∃ z, mulF x y = some z ∧ Bd (E + F) (4 * (M * L)) z := by
  obtain ⟨n, n1, n2, n3⟩ := hx.up (Nat.le_refl _) hx.2.1
  obtain ⟨m, m1, m2, m3⟩ := hy.up (Nat.le_refl _) hy.2.1
  have ex1 : upF x (zexn x) = znm x := by unfold upF; rw [Nat.sub_self]; rfl
  have ey1 : upF y (zexn y) = znm y := by unfold upF; rw [Nat.sub_self]; rfl
  rw [ex1] at n2
  rw [ey1] at m2
  have hx2 := hx.2.1
  have hy2 := hy.2.1
  have b : bdz ((4 * (M * L) : Nat) : Int) (rtn (E + F - (zexn x + zexn y)) (mlz (znm x) (znm y))) := by
    rw [show E + F - (zexn x + zexn y) = (E - zexn x) + (F - zexn y) by omega, ← rtn_add, rtn_mlz', rtn_mlz, n2, m2]
    exact bdz_mlz n1 m1
  have v3 : vz (mlz (znm x) (znm y)) = true := (vz_iff _).2 (rtn_bd _ (bdz_mono (by omega) b))
  unfold mulF
  rw [if_pos v3]
  exact Bd.new (by omega) (by omega) hM b
theorem Bd.ph {E M : Nat} {x : DQ} (h : Bd E M x) (a : Nat) : Bd E M (phx a x) := by
  obtain ⟨h1, h2, n, h3, h4⟩ := h
  refine ⟨ph_vd h1, by rw [(ph_exn a x).1]; exact h2, mlz (phz a) n, bd_ph a h3, ?_⟩
  rw [(ph_exn a x).1, (ph_exn a x).2, rtn_mlz', h4, rtn_mlz']
theorem Bd.mono {E M L : Nat} {x : DQ} (h : Bd E M x) (hM : M ≤ L) : Bd E L x := by
  obtain ⟨h1, h2, n, h3, h4⟩ := h
  exact ⟨h1, h2, n, bdz_mono (by omega) h3, h4⟩
theorem Bd.zero (E M : Nat) : Bd E M d0 := ⟨vd_d0, Nat.zero_le _, (0, 0, 0, 0), by unfold bdz; simp, by rw [show znm d0 = (0, 0, 0, 0) from rfl, rtn_zero, rtn_zero]⟩
theorem Bd.half {E M : Nat} {x : DQ} (h : Bd E M x) (hE : E + 2 ≤ 60) (hM : M ≤ 1073741824) : ∃ z, mulF x h2 = some z ∧ Bd (E + 2) M z := by
  obtain ⟨n, n1, n2, n3⟩ := h.up (Nat.le_refl _) h.2.1
  have ex1 : upF x (zexn x) = znm x := by unfold upF; rw [Nat.sub_self]; rfl
  rw [ex1] at n2
  have hx2 := h.2.1
  unfold mulF
  rw [show znm h2 = (1, 0, 0, 0) from rfl, mlz_1, show zexn h2 = 2 from rfl, if_pos ((vd_iff x).1 h.1).1]
  refine Bd.new (by omega) (by omega) hM ?_
  rw [show E + 2 - (zexn x + 2) = E - zexn x by omega, n2]
  exact n1
def rtD : DQ := (0, 1, 0, -1, 0)
theorem Bd.root {E M : Nat} {x : DQ} (h : Bd E M x) (hE : E ≤ 60) (hM : 2 * M ≤ 1073741824) : ∃ z, mulF x rtD = some z ∧ Bd E (2 * M) z := by
  obtain ⟨n, n1, n2, n3⟩ := h.up (Nat.le_refl _) h.2.1
  have ex1 : upF x (zexn x) = znm x := by unfold upF; rw [Nat.sub_self]; rfl
  rw [ex1] at n2
  have hx2 := h.2.1
  have er : ∀ y : Z4, mlz y (0, 1, 0, -1) = rt y := fun y => by unfold mlz rt; apply z_ext <;> simp only <;> omega
  have b : bdz ((2 * M : Nat) : Int) (rtn (E - zexn x) (rt (znm x))) := by
    have e : rtn (E - zexn x) (rt (znm x)) = rt n := by
      rw [← n2]; exact rtn_swap _ 1 _
    rw [e]
    unfold bdz rt at *
    simp only
    omega
  have v : vz (rt (znm x)) = true := (vz_iff _).2 (rtn_bd _ (bdz_mono (by omega) b))
  unfold mulF
  rw [show znm rtD = (0, 1, 0, -1) from rfl, er, show zexn rtD = 0 from rfl, if_pos v, Nat.add_zero]
  exact Bd.new (by omega) hx2 hM b
end Go.Proofs.Ytoleoojcodlciaa
