/- Plain laws: inner products of amplitudes; gates keep them; inverse gates; projections. -/
import Derived.Test.YtflfodcgoffjkaaKPvt
import Derived.Test.YtflfodcgoffjkaaK17
namespace Go.Proofs.Ytflfodcgoffjkaa
open Go.RowKit
set_option maxRecDepth 100000
set_option linter.unusedVariables false
set_option linter.unusedSimpArgs false
/-- The complex conjugate. -/
def cjz (x : Z4) : Z4 := (x.1, -x.2.2.2, -x.2.2.1, -x.2.1)
theorem cjz_mul (x y : Z4) : cjz (mlz x y) = mlz (cjz x) (cjz y) := by
  unfold cjz mlz
  apply z_ext <;> simp only <;> grind
theorem cjz_add (x y : Z4) : cjz (adz x y) = adz (cjz x) (cjz y) := by unfold cjz adz; apply z_ext <;> simp only <;> omega
theorem cjz_rt (x : Z4) : cjz (rt x) = rt (cjz x) := by unfold cjz rt; apply z_ext <;> simp only <;> omega
theorem cjz_rtn (k : Nat) (x : Z4) : cjz (rtn k x) = rtn k (cjz x) := by
  induction k with
  | zero => rfl
  | succ k ih => show cjz (rt (rtn k x)) = rt (rtn k (cjz x)); rw [cjz_rt, ih]
theorem cjz_ngz (x : Z4) : cjz (ngz x) = ngz (cjz x) := by unfold cjz ngz; apply z_ext <;> simp only
theorem cjz_cjz (x : Z4) : cjz (cjz x) = x := by unfold cjz; simp
theorem bd_cjz {M : Int} {x : Z4} (h : bdz M x) : bdz M (cjz x) := by unfold bdz cjz at *; simp only; omega
theorem cjz_oz (k : Nat) : mlz (cjz (oz k)) (oz k) = (1, 0, 0, 0) := by
  rcases oz_cases k with ((e | e) | (e | e)) | ((e | e) | (e | e)) <;> rw [e] <;> decide
def ipz (D : Nat) (f g : Amp) : Z4 := smz (fun j => mlz (cjz (f j)) (g j)) D
theorem smz_mul (c : Z4) (g : Nat → Z4) : ∀ k, smz (fun j => mlz c (g j)) k = mlz c (smz g k)
  | 0 => (mlz_0r c).symm
  | k + 1 => by rw [smz, smz_mul c g k, smz, mlz_add]
theorem smz_rtn (c : Nat) (g : Nat → Z4) (k : Nat) : smz (fun j => rtn c (g j)) k = rtn c (smz g k) := by
  simp only [rtn_ml]; exact smz_mul _ g k
theorem ip_smul (D : Nat) (c : Z4) (f g : Amp) : ipz D f (fun i => mlz c (g i)) = mlz c (ipz D f g) := by
  unfold ipz
  rw [← smz_mul]
  exact smz_congr fun j _ => mlz_swap ..
theorem ip_smul' (D : Nat) (c : Z4) (f g : Amp) : ipz D (fun i => mlz c (f i)) g = mlz (cjz c) (ipz D f g) := by
  unfold ipz
  rw [← smz_mul]
  exact smz_congr fun j _ => by rw [cjz_mul, mlz_assoc]
theorem ip_congr {D : Nat} {f f' g g' : Amp} (h1 : ∀ i, i < D → f i = f' i) (h2 : ∀ i, i < D → g i = g' i) : ipz D f g = ipz D f' g' := smz_congr fun j hj => by rw [h1 j hj, h2 j hj]
theorem smz_upd {a b : Nat → Z4} {j : Nat} : ∀ {D : Nat}, j < D → (∀ i, i < D → i ≠ j → a i = b i) → adz (smz a D) (b j) = adz (smz b D) (a j)
  | 0, h, _ => by omega
  | D + 1, h, hn => by
    rw [smz, smz]
    by_cases e : j = D
    · subst e
      rw [smz_congr (g := a) (h := b) fun i hi => hn i (by omega) (by omega), adz_assoc, adz_comm (a j), ← adz_assoc]
    · have ih := smz_upd (a := a) (b := b) (j := j) (D := D) (by omega) (fun i hi hne => hn i (by omega) hne)
      rw [hn D (by omega) (fun h => e h.symm), adz_assoc, adz_comm (b D), ← adz_assoc, ih, adz_assoc, adz_comm (a j), ← adz_assoc]
theorem smz_perm : ∀ (D : Nat) (σ : Nat → Nat), (∀ i, i < D → σ i < D) → (∀ i, i < D → σ (σ i) = i) → ∀ g : Nat → Z4, smz (fun i => g (σ i)) D = smz g D
  | 0, _, _, _, _ => rfl
  | D + 1, σ, h1, h2, g => by
    by_cases e : σ D = D
    · rw [smz, smz, e]
      congr 1
      refine smz_perm D σ (fun i hi => ?_) (fun i hi => h2 i (by omega)) g
      have k1 := h1 i (by omega)
      have k2 := h2 i (by omega)
      by_cases e2 : σ i = D
      · rw [e2, e] at k2; omega
      · omega
    · have hj : σ D < D := by have := h1 D (by omega); omega
      have hjj := h2 D (by omega)
      have key := smz_perm D (fun i => if i = σ D then σ D else σ i) (fun i hi => by
        (try simp only)
        split
        · exact hj
        · rename_i hne
          have k1 := h1 i (by omega)
          have k2 := h2 i (by omega)
          by_cases e2 : σ i = D
          · rw [e2] at k2; omega
          · omega) (fun i hi => by
        (try simp only)
        by_cases ei : i = σ D
        · rw [if_pos ei, if_pos rfl, ei]
        · rw [if_neg ei]
          have k2 := h2 i (by omega)
          by_cases e2 : σ i = σ D
          · rw [e2, hjj] at k2; omega
          · rw [if_neg e2, k2]) g
      rw [smz, smz, ← key]
      have hu := smz_upd (a := fun i => g (σ i)) (b := fun i => g (if i = σ D then σ D else σ i)) (j := σ D) (D := D) hj (fun i hi hne => by rw [if_neg hne])
      simp only [if_true, hjj] at hu
      exact hu
theorem dbl_inj {x y : Z4} (h : adz x x = adz y y) : x = y := by
  unfold adz at h
  simp only [Prod.mk.injEq] at h
  apply z_ext <;> omega
theorem rtn2 (x : Z4) : rtn 2 x = adz x x := rt_rt x
/-- A gate keeps inner products; H doubles them. -/
theorem ip_gate {n : Nat} {q : GQ} (h : gok n q) (f g : Amp) : ipz (2 ^ n) (gz q f) (gz q g) = rtn (2 * kq q.1) (ipz (2 ^ n) f g) := by
  by_cases h4 : q.1 = 4
  · have ek : kq q.1 = 1 := if_pos h4
    rw [ek]
    show _ = rtn 2 _
    have T : ∀ r, adz (mlz (cjz (gz q f r)) (gz q g r)) (mlz (cjz (gz q f (r ^^^ 2 ^ q.2.1.toNat))) (gz q g (r ^^^ 2 ^ q.2.1.toNat))) =
        adz (adz (mlz (cjz (f r)) (g r)) (mlz (cjz (f r)) (g r))) (adz (mlz (cjz (f (r ^^^ 2 ^ q.2.1.toNat))) (g (r ^^^ 2 ^ q.2.1.toNat))) (mlz (cjz (f (r ^^^ 2 ^ q.2.1.toNat))) (g (r ^^^ 2 ^ q.2.1.toNat)))) := by
      intro r
      unfold gz
      rw [if_pos h4, if_pos h4, if_pos h4, if_pos h4, tb_eq, xx]
      generalize f r = x; generalize f (r ^^^ 2 ^ q.2.1.toNat) = y; generalize g r = u; generalize g (r ^^^ 2 ^ q.2.1.toNat) = v
      cases r.testBit q.2.1.toNat
      · simp only [Bool.false_eq_true, if_false, Bool.not_false, if_true]
        obtain ⟨x0, x1, x2, x3⟩ := x; obtain ⟨y0, y1, y2, y3⟩ := y; obtain ⟨u0, u1, u2, u3⟩ := u; obtain ⟨v0, v1, v2, v3⟩ := v
        unfold cjz mlz adz ngz
        apply z_ext <;> simp only <;> grind
      · simp only [if_true, Bool.not_true, Bool.false_eq_true, if_false]
        obtain ⟨x0, x1, x2, x3⟩ := x; obtain ⟨y0, y1, y2, y3⟩ := y; obtain ⟨u0, u1, u2, u3⟩ := u; obtain ⟨v0, v1, v2, v3⟩ := v
        unfold cjz mlz adz ngz
        apply z_ext <;> simp only <;> grind
    have hp := fun F : Nat → Z4 => smz_perm (2 ^ n) (fun r => r ^^^ 2 ^ q.2.1.toNat) (fun i hi => xlt hi h.1) (fun i _ => xx ..) F
    refine dbl_inj ?_
    unfold ipz
    have e1 := smz_add (fun r => mlz (cjz (gz q f r)) (gz q g r)) (fun r => mlz (cjz (gz q f (r ^^^ 2 ^ q.2.1.toNat))) (gz q g (r ^^^ 2 ^ q.2.1.toNat))) (2 ^ n)
    rw [hp (fun r => mlz (cjz (gz q f r)) (gz q g r))] at e1
    rw [← e1, smz_congr (fun j _ => T j), smz_add, smz_add, smz_add, hp (fun r => mlz (cjz (f r)) (g r)), rtn2]
  · have ek : kq q.1 = 0 := if_neg h4
    rw [ek]
    show _ = ipz (2 ^ n) f g
    unfold ipz
    rw [← smz_perm (2 ^ n) (mvA q) (fun i hi => mvA_lt h hi) (fun i _ => mvA_inv h i) (fun j => mlz (cjz (f j)) (g j))]
    refine smz_congr fun j _ => ?_
    unfold gz
    rw [if_neg h4, if_neg h4, cjz_mul, mlz_assoc, mlz_swap (cjz (f _)), ← mlz_assoc, cjz_oz, mlz_1l]
theorem ip_run {n : Nat} : ∀ {L : List GQ}, (∀ q ∈ L, gok n q) → ∀ (f g : Amp), ipz (2 ^ n) (gzs L f) (gzs L g) = rtn (2 * hc L) (ipz (2 ^ n) f g)
  | [], _, f, g => rfl
  | q :: L, h, f, g => by
    rw [gzs_cons, gzs_cons, ip_run (L := L) (fun x hx => h x (List.mem_cons_of_mem _ hx)), ip_gate (h q (List.mem_cons_self ..)), rtn_add, hc_cons]
    congr 1; omega
theorem ip_dl {D c : Nat} (hc : c < D) : ipz D (dl c) (dl c) = (1, 0, 0, 0) := by
  unfold ipz
  rw [smz_one (c := c) hc (fun j _ hj => by unfold dl; rw [if_neg hj]; exact mlz_0r _)]
  unfold dl; rw [if_pos rfl]; decide
/-- Inverse gates. -/
def ivG (q : GQ) : GQ := (invK q.1, q.2.1, q.2.2.1, q.2.2.2)
theorem gok_iv {n : Nat} {q : GQ} (h : gok n q) : gok n (ivG q) := by
  obtain ⟨h1, h2, h3⟩ := h
  unfold gok ivG invK
  simp only
  refine ⟨h1, fun e => h2 ?_, fun e => h3 ?_⟩
  · (repeat' split at e) <;> omega
  · (repeat' split at e) <;> omega
theorem gz_inv {n : Nat} {q : GQ} (h : gok n q) (f : Amp) (r : Nat) : gz q (gz (ivG q) f) r = rtn (2 * kq q.1) (f r) := by
  obtain ⟨k, a, b, c⟩ := q
  by_cases h4 : k = 4
  · subst h4
    have e : ivG (4, a, b, c) = (4, a, b, c) := rfl
    rw [e]
    show _ = rtn 2 _
    rw [rtn2]
    unfold gz
    simp only [if_true, tb_eq, xx]
    generalize f r = x; generalize f (r ^^^ 2 ^ a.toNat) = y
    cases r.testBit a.toNat
    · simp only [Bool.false_eq_true, if_false, Bool.not_false, if_true]
      unfold adz ngz; apply z_ext <;> simp only <;> omega
    · simp only [if_true, Bool.not_true, Bool.false_eq_true, if_false]
      unfold adz ngz; apply z_ext <;> simp only <;> omega
  · have ek : kq k = 0 := if_neg h4
    have hi4 : invK k ≠ 4 := by unfold invK; (repeat' split) <;> omega
    have em : ∀ i, mvA (ivG (k, a, b, c)) i = mvA (k, a, b, c) i := by
      intro i
      unfold ivG mvA invK
      simp only
      by_cases h5 : k = 5
      · subst h5; rfl
      by_cases h6 : k = 6
      · subst h6; rfl
      by_cases h7 : k = 7
      · subst h7; rfl
      by_cases h8 : k = 8
      · subst h8; rfl
      rw [if_neg h5, if_neg h6, if_neg h7, if_neg h8]
    have ep : (mvP (k, a, b, c) (mvA (k, a, b, c) r) + mvP (ivG (k, a, b, c)) r) % 8 = 0 := by
      unfold mvP mvA ivG invK
      simp only
      by_cases h1 : k = 1
      · subst h1; rfl
      by_cases h2 : k = 2
      · subst h2
        simp only [show ¬ ((2 : Int) = 1) by omega, show ¬ ((2 : Int) = 5) by omega, show ¬ ((2 : Int) = 6) by omega, show ¬ ((2 : Int) = 7) by omega, show ¬ ((2 : Int) = 8) by omega, false_or, or_true, if_true, if_false, tb_eq]
        cases r.testBit a.toNat <;> rfl
      by_cases h3 : k = 3
      · subst h3
        show ((if r.testBit a.toNat = true then 4 else 0) + (if r.testBit a.toNat = true then 4 else 0)) % 8 = 0
        split <;> rfl
      by_cases h5 : k = 5
      · subst h5
        show ((if r.testBit a.toNat = true then 2 else 0) + (if r.testBit a.toNat = true then 6 else 0)) % 8 = 0
        split <;> rfl
      by_cases h6 : k = 6
      · subst h6
        show ((if r.testBit a.toNat = true then 6 else 0) + (if r.testBit a.toNat = true then 2 else 0)) % 8 = 0
        split <;> rfl
      by_cases h7 : k = 7
      · subst h7
        show ((if r.testBit a.toNat = true then 1 else 0) + (if r.testBit a.toNat = true then 7 else 0)) % 8 = 0
        split <;> rfl
      by_cases h8 : k = 8
      · subst h8
        show ((if r.testBit a.toNat = true then 7 else 0) + (if r.testBit a.toNat = true then 1 else 0)) % 8 = 0
        split <;> rfl
      by_cases h10 : k = 10
      · subst h10
        show ((if (r.testBit a.toNat && r.testBit b.toNat) = true then 4 else 0) + (if (r.testBit a.toNat && r.testBit b.toNat) = true then 4 else 0)) % 8 = 0
        split <;> rfl
      simp only [h2, h3, h5, h6, h7, h8, h10, if_false]
    show gz (k, a, b, c) (gz (ivG (k, a, b, c)) f) r = rtn (2 * kq k) (f r)
    rw [ek]
    show _ = f r
    have e1 : gz (k, a, b, c) (gz (ivG (k, a, b, c)) f) r = mlz (oz (mvP (k, a, b, c) (mvA (k, a, b, c) r))) (gz (ivG (k, a, b, c)) f (mvA (k, a, b, c) r)) := if_neg h4
    have e2 : ∀ i, gz (ivG (k, a, b, c)) f i = mlz (oz (mvP (ivG (k, a, b, c)) (mvA (ivG (k, a, b, c)) i))) (f (mvA (ivG (k, a, b, c)) i)) := fun i => if_neg hi4
    rw [e1, e2, em, mvA_inv h, ← mlz_assoc, oz_mul, oz_congr (b := 0) (by rw [ep]), oz_0]
def ivL' (L : List GQ) : List GQ := (L.map ivG).reverse
theorem gok_ivL {n : Nat} {L : List GQ} (h : ∀ q ∈ L, gok n q) : ∀ q ∈ ivL' L, gok n q := by
  intro q hq
  unfold ivL' at hq
  rw [List.mem_reverse] at hq
  obtain ⟨x, hx, rfl⟩ := List.mem_map.1 hq
  exact gok_iv (h x hx)
theorem gzs_inv {n : Nat} : ∀ {L : List GQ}, (∀ q ∈ L, gok n q) → ∀ (f : Amp) (r : Nat), r < 2 ^ n → gzs L (gzs (ivL' L) f) r = rtn (2 * hc L) (f r)
  | [], _, f, r, _ => rfl
  | q :: L, h, f, r, hr => by
    have hL : ∀ x ∈ L, gok n x := fun x hx => h x (List.mem_cons_of_mem _ hx)
    have e : ivL' (q :: L) = ivL' L ++ [ivG q] := by unfold ivL'; simp
    rw [e, gzs_append, gzs_cons]
    show gzs L (gz q (gz (ivG q) (gzs (ivL' L) f))) r = _
    rw [show gz q (gz (ivG q) (gzs (ivL' L) f)) = fun r => rtn (2 * kq q.1) (gzs (ivL' L) f r) from funext (gz_inv (h q (List.mem_cons_self ..)) _), gzs_rtn]
    simp only []
    rw [gzs_inv hL f r hr, rtn_add, hc_cons]
    congr 1; omega
/-- Twice the projection. -/
def prj (p : Q4) (f : Amp) : Amp := fun r => adz (f r) (paQ p f r)
def prs {N : Int} (S : Nat → Gp N) : Nat → Amp → Amp
  | 0, f => f
  | k + 1, f => prj (S k).q (prs S k f)
section
variable {N : Int} {L : List GQ}
theorem prj_congr (p : Gp N) {f g : Amp} (h : ∀ i, i < 2 ^ N.toNat → f i = g i) : ∀ r, r < 2 ^ N.toNat → prj p.q f r = prj p.q g r := fun r hr => by
  unfold prj; rw [h r hr, pa_congr p h hr]
theorem prs_congr (S : Nat → Gp N) {f g : Amp} (h : ∀ i, i < 2 ^ N.toNat → f i = g i) : ∀ k r, r < 2 ^ N.toNat → prs S k f r = prs S k g r
  | 0, r, hr => h r hr
  | k + 1, r, hr => prj_congr (S k) (prs_congr S h k) r hr
theorem prj_smul (p : Gp N) (c : Z4) (f : Amp) : prj p.q (fun i => mlz c (f i)) = fun r => mlz c (prj p.q f r) := funext fun r => by
  unfold prj; rw [pa_smul, mlz_add]
theorem prs_smul (S : Nat → Gp N) (c : Z4) (f : Amp) : ∀ k, prs S k (fun i => mlz c (f i)) = fun r => mlz c (prs S k f r)
  | 0 => rfl
  | k + 1 => by rw [prs, prs_smul S c f k, prj_smul]; rfl
theorem prj_cj (hL : ∀ q ∈ L, gok N.toNat q) {p q : Gp N} (hc : Cj L p q) (f : Amp) {r : Nat} (hr : r < 2 ^ N.toNat) : prj q.q (gzs L f) r = gzs L (prj p.q f) r := by
  unfold prj
  rw [gzs_add, ← hc f r hr]
theorem prs_cj (hL : ∀ q ∈ L, gok N.toNat q) {P Q : Nat → Gp N} (f : Amp) : ∀ k, (∀ j, j < k → Cj L (P j) (Q j)) → ∀ r, r < 2 ^ N.toNat → prs Q k (gzs L f) r = gzs L (prs P k f) r
  | 0, _, r, _ => rfl
  | k + 1, hj, r, hr => by
    rw [prs, prs, prj_congr (Q k) (prs_cj hL f k (fun j h => hj j (by omega))) r hr]
    exact prj_cj hL (hj k (by omega)) _ hr
theorem prs_bd {M : Nat} (S : Nat → Gp N) {f : Amp} (hf : bdv M f) : ∀ k, bdv ((2 ^ k * M : Nat) : Int) (prs S k f)
  | 0 => by rw [Nat.pow_zero, Nat.one_mul]; exact hf
  | k + 1 => fun r => by
    have ih := prs_bd S hf k
    have : ((2 ^ (k + 1) * M : Nat) : Int) = ((2 ^ k * M : Nat) : Int) + ((2 ^ k * M : Nat) : Int) := by rw [Nat.pow_succ, Nat.mul_assoc, Nat.mul_comm 2, ← Nat.mul_assoc]; omega
    rw [this]
    exact bdz_adz (ih r) (bd_ph _ (ih _))
end
end Go.Proofs.Ytflfodcgoffjkaa
