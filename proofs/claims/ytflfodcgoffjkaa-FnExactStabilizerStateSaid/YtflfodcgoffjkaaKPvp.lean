/- Plain laws: stabilizer states as amplitudes: projections of basis states lie on one line; numbers of norm one. -/
import Derived.Test.YtflfodcgoffjkaaKPvi
namespace Go.Proofs.Ytflfodcgoffjkaa
open Go.RowKit
set_option maxRecDepth 100000
set_option linter.unusedVariables false
set_option linter.unusedSimpArgs false
theorem gpZ_q {N : Int} (h : 1 ≤ N ∧ N ≤ 4) {j : Nat} (hj : j < N.toNat) : (gpZ h j).q = eZ N j := by unfold gpZ; rw [dif_pos hj]
theorem pw16' {N : Int} (h : 1 ≤ N ∧ N ≤ 4) : 2 ^ N.toNat ≤ 16 := by rcases four h with rfl | rfl | rfl | rfl <;> decide
def lowB (k r : Nat) : Bool := (List.range k).all fun j => !r.testBit j
theorem low_succ (k r : Nat) : lowB (k + 1) r = (lowB k r && !r.testBit k) := by unfold lowB; rw [List.range_succ, List.all_append]; simp
theorem prsZ {N : Int} (h : 1 ≤ N ∧ N ≤ 4) (f : Amp) : ∀ k, k ≤ N.toNat → ∀ r, r < 2 ^ N.toNat → prs (gpZ h) k f r = if lowB k r = true then rtn (2 * k) (f r) else (0, 0, 0, 0)
  | 0, _, r, _ => rfl
  | k + 1, hk, r, hr => by
    have h16 := pw16' h
    have ih := prsZ h f k (by omega) r hr
    rw [prs]
    unfold prj
    rw [gpZ_q h (by omega), pa_eZ N (by omega) _ (by omega), ih, low_succ]
    cases lowB k r
    · simp only [Bool.false_eq_true, if_false, Bool.false_and]
      split <;> rfl
    · simp only [if_true, Bool.true_and]
      cases r.testBit k
      · simp only [Bool.false_eq_true, if_false, Bool.not_false, if_true]
        rw [show 2 * (k + 1) = 2 + 2 * k by omega, ← rtn_add, rtn2]
      · simp only [if_true, Bool.not_true, Bool.false_eq_true, if_false]
        unfold adz ngz; apply z_ext <;> simp only <;> omega
theorem low_all {n r : Nat} (hr : r < 2 ^ n) : lowB n r = true ↔ r = 0 := by
  unfold lowB
  rw [List.all_eq_true]
  constructor
  · intro h
    refine Nat.eq_of_testBit_eq fun j => ?_
    rw [Nat.zero_testBit]
    by_cases hj : j < n
    · simpa using h j (List.mem_range.2 hj)
    · exact Nat.testBit_lt_two_pow (Nat.lt_of_lt_of_le hr (Nat.pow_le_pow_right (by omega) (by omega)))
  · rintro rfl j _; simp
section
variable {N : Int} {L : List GQ} {S : Nat → Gp N}
/-- All that is projected lies on the line of the state that the circuit prepares. -/
theorem line (h : 1 ≤ N ∧ N ≤ 4) (hL : ∀ q ∈ L, gok N.toNat q) (hS : ∀ j, j < N.toNat → Cj L (gpZ h j) (S j)) (g : Amp) : ∃ c : Z4, ∀ r, r < 2 ^ N.toNat → rtn (2 * hc L) (prs S N.toNat g r) = mlz c (gzs L (dl 0) r) := by
  refine ⟨rtn (2 * N.toNat) (gzs (ivL' L) g 0), fun r hr => ?_⟩
  have e1 := prs_cj hL (gzs (ivL' L) g) N.toNat hS r hr
  have e2 : ∀ i, i < 2 ^ N.toNat → gzs L (gzs (ivL' L) g) i = (fun i => mlz (rz (2 * hc L)) (g i)) i := fun i hi => by rw [gzs_inv hL g i hi, rtn_ml]
  rw [prs_congr S e2 _ r hr, prs_smul] at e1
  simp only [] at e1
  rw [rtn_ml, e1]
  have e3 : ∀ i, i < 2 ^ N.toNat → prs (gpZ h) N.toNat (gzs (ivL' L) g) i = (fun i => mlz (rtn (2 * N.toNat) (gzs (ivL' L) g 0)) (dl 0 i)) i := fun i hi => by
    rw [prsZ h _ _ (Nat.le_refl _) i hi]
    unfold dl
    simp only []
    by_cases e : i = 0
    · subst e
      rw [if_pos ((low_all hi).2 rfl), if_pos rfl, mlz_1]
    · rw [if_neg (fun h => e ((low_all hi).1 h)), if_neg e, mlz_0r]
  rw [gzs_congr hL e3 hr, gzs_mul]
/-- The prepared state is stabilized. -/
theorem u_stab (h : 1 ≤ N ∧ N ≤ 4) (hL : ∀ q ∈ L, gok N.toNat q) (hS : ∀ j, j < N.toNat → Cj L (gpZ h j) (S j)) {j : Nat} (hj : j < N.toNat) {r : Nat} (hr : r < 2 ^ N.toNat) : paQ (S j).q (gzs L (dl 0)) r = gzs L (dl 0) r := by
  have h16 := pw16' h
  rw [← hS j hj (dl 0) r hr]
  refine gzs_congr hL (fun i hi => ?_) hr
  rw [gpZ_q h hj, pa_eZ N (by omega) _ (by omega)]
  unfold dl
  by_cases e : i = 0
  · subst e; simp
  · rw [if_neg e]; split <;> rfl
theorem f_stab (h : 1 ≤ N ∧ N ≤ 4) (hL : ∀ q ∈ L, gok N.toNat q) (hS : ∀ j, j < N.toNat → Cj L (gpZ h j) (S j)) (g : Amp) {j : Nat} (hj : j < N.toNat) {r : Nat} (hr : r < 2 ^ N.toNat) : paQ (S j).q (prs S N.toNat g) r = prs S N.toNat g r := by
  obtain ⟨c, hc⟩ := line h hL hS g
  refine rtn_inj (2 * Go.Proofs.Ytflfodcgoffjkaa.hc L) ?_
  have e1 : rtn (2 * Go.Proofs.Ytflfodcgoffjkaa.hc L) (paQ (S j).q (prs S N.toNat g) r) = paQ (S j).q (fun i => rtn (2 * Go.Proofs.Ytflfodcgoffjkaa.hc L) (prs S N.toNat g i)) r := by
    simp only [rtn_ml]; rw [pa_smul]
  rw [e1, pa_congr (S j) (g := fun i => mlz c (gzs L (dl 0) i)) (fun i hi => hc i hi) hr, pa_smul, u_stab h hL hS hj hr, hc r hr]
end
theorem rtn_even : ∀ (j : Nat) (x : Z4), rtn (2 * j) x = ((2 ^ j : Nat) * x.1, (2 ^ j : Nat) * x.2.1, (2 ^ j : Nat) * x.2.2.1, (2 ^ j : Nat) * x.2.2.2)
  | 0, x => by simp [rtn]
  | j + 1, x => by
    rw [show 2 * (j + 1) = 2 + 2 * j by omega, ← rtn_add, rtn_even j x, rtn2]
    unfold adz
    simp only
    have : ((2 ^ (j + 1) : Nat) : Int) = ((2 ^ j : Nat) : Int) + ((2 ^ j : Nat) : Int) := by rw [Nat.pow_succ]; omega
    rw [this]
    apply z_ext <;> simp only <;> rw [Int.add_mul]
def nrm (x : Z4) : Z4 := mlz (cjz x) x
theorem nrm_1 (x : Z4) : (nrm x).1 = x.1 * x.1 + x.2.1 * x.2.1 + x.2.2.1 * x.2.2.1 + x.2.2.2 * x.2.2.2 := by unfold nrm cjz mlz; simp only; grind
theorem nrm_2 (x : Z4) : (nrm x).2.1 = x.1 * x.2.1 + x.2.1 * x.2.2.1 + x.2.2.1 * x.2.2.2 - x.1 * x.2.2.2 := by unfold nrm cjz mlz; simp only; grind
theorem em2 (a : Int) : a % 2 = 0 ∨ a % 2 = 1 := by omega
theorem sq4 (a : Int) : (a * a) % 4 = a % 2 := by
  rcases em2 a with h | h
  · obtain ⟨b, rfl⟩ : ∃ b, a = 2 * b := ⟨a / 2, by omega⟩
    rw [show 2 * b * (2 * b) = 4 * (b * b) by grind]; omega
  · obtain ⟨b, rfl⟩ : ∃ b, a = 2 * b + 1 := ⟨a / 2, by omega⟩
    rw [show (2 * b + 1) * (2 * b + 1) = 4 * (b * b + b) + 1 by grind]; omega
theorem mul2 (a b : Int) : (a * b) % 2 = if a % 2 = 1 ∧ b % 2 = 1 then 1 else 0 := by
  rcases em2 a with h | h <;> rcases em2 b with h' | h' <;> rw [Int.mul_emod, h, h'] <;> rfl
/-- A number of norm a power of 2 is divisible by the root. -/
theorem nrm_dvb {x : Z4} {k : Nat} (h : nrm x = rtn (2 * (k + 1)) (1, 0, 0, 0)) : dvb x = true := by
  have h1 := nrm_1 x
  have h2 := nrm_2 x
  rw [h, rtn_even] at h1 h2
  simp only [Int.mul_one, Int.mul_zero] at h1 h2
  obtain ⟨a, b, c, d⟩ := x
  simp only at h1 h2
  have sa := sq4 a; have sb := sq4 b; have sc := sq4 c; have sd := sq4 d
  have m1 := mul2 a b; have m2 := mul2 b c; have m3 := mul2 c d; have m4 := mul2 a d
  generalize a * a = A at *; generalize b * b = B at *; generalize c * c = C at *; generalize d * d = E at *
  generalize a * b = p1 at *; generalize b * c = p2 at *; generalize c * d = p3 at *; generalize a * d = p4 at *
  unfold dvb
  rw [ev4_iff]
  unfold rt
  simp only
  have hp : ((2 ^ (k + 1) : Nat) : Int) = 2 * ((2 ^ k : Nat) : Int) := by rw [Nat.pow_succ]; omega
  have hk : k = 0 ∨ ∃ j, k = j + 1 := by cases k with | zero => exact Or.inl rfl | succ j => exact Or.inr ⟨j, rfl⟩
  rcases hk with rfl | ⟨j, rfl⟩
  · simp only [Nat.zero_add, Nat.pow_one] at h1
    split at m1 <;> split at m2 <;> split at m3 <;> split at m4 <;> omega
  · have hp2 : ((2 ^ (j + 1) : Nat) : Int) = 2 * ((2 ^ j : Nat) : Int) := by rw [Nat.pow_succ]; omega
    rw [hp, hp2] at h1
    generalize ((2 ^ j : Nat) : Int) = J at *
    omega
theorem nrm_rt (x : Z4) : nrm (rt x) = rtn 2 (nrm x) := by
  unfold nrm
  rw [cjz_rt, rt_mul, mlz_comm, rt_mul, mlz_comm]; rfl
theorem nrm_unit : ∀ (k : Nat) (x : Z4), nrm x = rtn (2 * k) (1, 0, 0, 0) → ∃ y, rtn k y = x ∧ nrm y = (1, 0, 0, 0)
  | 0, x, h => ⟨x, rfl, h⟩
  | k + 1, x, h => by
    have hd := nrm_dvb h
    have e := dv_rt hd
    have h2 : nrm (dvh x) = rtn (2 * k) (1, 0, 0, 0) := by
      refine rtn_inj 2 ?_
      rw [← nrm_rt, e, h, rtn_add]
      congr 1; omega
    obtain ⟨y, h3, h4⟩ := nrm_unit k _ h2
    exact ⟨y, by show rt (rtn k y) = x; rw [h3, e], h4⟩
theorem smz_fst {g : Nat → Z4} (h : ∀ j, 0 ≤ (g j).1) : ∀ (D : Nat), 0 ≤ (smz g D).1 ∧ ∀ r, r < D → (g r).1 ≤ (smz g D).1
  | 0 => ⟨Int.le_refl _, fun r hr => by omega⟩
  | D + 1 => by
    obtain ⟨h1, h2⟩ := smz_fst h D
    have hD := h D
    have e : (smz g (D + 1)).1 = (smz g D).1 + (g D).1 := rfl
    refine ⟨by omega, fun r hr => ?_⟩
    by_cases er : r = D
    · subst er; omega
    · have := h2 r (by omega); omega
theorem sq_nn (a : Int) : 0 ≤ a * a := by
  rcases Int.le_total 0 a with h | h
  · exact Int.mul_nonneg h h
  · exact Int.mul_nonneg_of_nonpos_of_nonpos h h
theorem nrm_nn (x : Z4) : 0 ≤ (nrm x).1 := by
  rw [nrm_1]
  have := sq_nn x.1; have := sq_nn x.2.1; have := sq_nn x.2.2.1; have := sq_nn x.2.2.2
  omega
theorem sq_bd {a B : Int} (hB : 0 ≤ B) (h : a * a ≤ B * B) : -B ≤ a ∧ a ≤ B := by
  constructor
  · rcases Int.lt_or_le a (-B) with h' | h'
    · have : (B + 1) * (B + 1) ≤ (-a) * (-a) := Int.mul_le_mul (by omega) (by omega) (by omega) (by omega)
      rw [Int.neg_mul_neg] at this
      have e : (B + 1) * (B + 1) = B * B + 2 * B + 1 := by grind
      omega
    · exact h'
  · rcases Int.lt_or_le B a with h' | h'
    · have : (B + 1) * (B + 1) ≤ a * a := Int.mul_le_mul (by omega) (by omega) (by omega) (by omega)
      have e : (B + 1) * (B + 1) = B * B + 2 * B + 1 := by grind
      omega
    · exact h'
theorem nrm_bd {x : Z4} {B : Int} (hB : 0 ≤ B) (h : (nrm x).1 ≤ B * B) : bdz B x := by
  rw [nrm_1] at h
  have h1 := sq_nn x.1; have h2 := sq_nn x.2.1; have h3 := sq_nn x.2.2.1; have h4 := sq_nn x.2.2.2
  exact ⟨sq_bd hB (by omega), sq_bd hB (by omega), sq_bd hB (by omega), sq_bd hB (by omega)⟩
/-- The amplitudes of what a circuit prepares are small. -/
theorem u_bd {n : Nat} {L : List GQ} (hL : ∀ q ∈ L, gok n q) (hh : hc L ≤ 24) {c : Nat} (hc' : c < 2 ^ n) {r : Nat} (hr : r < 2 ^ n) : bdz 4096 (gzs L (dl c) r) := by
  have e := ip_run hL (dl c) (dl c)
  rw [ip_dl hc', rtn_even] at e
  have hs := (smz_fst (g := fun j => mlz (cjz (gzs L (dl c) j)) (gzs L (dl c) j)) (fun j => nrm_nn _) (2 ^ n)).2 r hr
  have e1 : (smz (fun j => mlz (cjz (gzs L (dl c) j)) (gzs L (dl c) j)) (2 ^ n)).1 = ((2 ^ hc L : Nat) : Int) := by
    have := congrArg (fun x : Z4 => x.1) e
    simp only [Int.mul_one] at this
    exact this
  have hp := pow24 hh
  refine nrm_bd (by omega) ?_
  have : (nrm (gzs L (dl c) r)).1 ≤ ((2 ^ hc L : Nat) : Int) := by rw [← e1]; exact hs
  omega
end Go.Proofs.Ytflfodcgoffjkaa
