/- Plain laws: what measuring a qubit of a stabilizer state shows. -/
import Derived.Test.YtflfodcgoffjkaaKPvz
namespace Go.Proofs.Ytflfodcgoffjkaa
open Go.RowKit
set_option maxRecDepth 100000
set_option linter.unusedVariables false
set_option linter.unusedSimpArgs false
theorem phz_inj {a b : Nat} (h : phz a = phz b) : a % 4 = b % 4 := by
  rw [phz_mod a, phz_mod b] at h
  have ha : a % 4 = 0 ∨ a % 4 = 1 ∨ a % 4 = 2 ∨ a % 4 = 3 := by omega
  have hb : b % 4 = 0 ∨ b % 4 = 1 ∨ b % 4 = 2 ∨ b % 4 = 3 := by omega
  rcases ha with ha | ha | ha | ha <;> rcases hb with hb | hb | hb | hb <;> rw [ha, hb] at h ⊢ <;> first | rfl | (exact absurd h (by decide))
theorem phz_ne (a : Nat) : phz a ≠ (0, 0, 0, 0) := by
  rcases phz_cases a with (e | e) | (e | e) <;> rw [e] <;> decide
theorem zbit_fin : ∀ z w : Fin 16, ((List.range 4).all fun j => pc (an (z.val : Int) ((2 ^ j : Nat) : Int)) % 2 == pc (an (w.val : Int) ((2 ^ j : Nat) : Int)) % 2) = true → z = w := by decide +kernel
theorem zhi_fin : ∀ n : Fin 5, ∀ z : Fin 16, ∀ j : Fin 4, z.val < 2 ^ n.val → n.val ≤ j.val → pc (an (z.val : Int) ((2 ^ j.val : Nat) : Int)) = 0 := by decide +kernel
section
variable {N : Int}
/-- Operators that act alike are equal. -/
theorem gp_of_pa (h : 1 ≤ N ∧ N ≤ 4) {p q : Gp N} (he : ∀ (f : Amp) r, r < 2 ^ N.toNat → paQ p.q f r = paQ q.q f r) : p = q := by
  have h16 := pw16' h
  have hpos : 0 < 2 ^ N.toNat := Nat.two_pow_pos _
  have key : ∀ c, c < 2 ^ N.toNat → pix p.q c = pix q.q c ∧ pe p.q c % 4 = pe q.q c % 4 := by
    intro c hc
    have e := he (dl c) (pix p.q c) (gp_lt p hc)
    rw [pa_dl, pa_dl] at e
    have e1 : dl (pix p.q c) (pix p.q c) = (1, 0, 0, 0) := by unfold dl; rw [if_pos rfl]
    rw [e1, mlz_1] at e
    by_cases hx : pix p.q c = pix q.q c
    · rw [hx] at e
      have e2 : dl (pix q.q c) (pix q.q c) = (1, 0, 0, 0) := by unfold dl; rw [if_pos rfl]
      rw [e2, mlz_1] at e
      exact ⟨hx, phz_inj e⟩
    · have e2 : dl (pix q.q c) (pix p.q c) = (0, 0, 0, 0) := by unfold dl; rw [if_neg hx]
      rw [e2, mlz_0r] at e
      exact absurd e (phz_ne _)
  obtain ⟨⟨px1, px2⟩, ⟨pz1, pz2⟩, pp⟩ := p.sm
  obtain ⟨⟨qx1, qx2⟩, ⟨qz1, qz2⟩, qp⟩ := q.sm
  obtain ⟨k0, k0'⟩ := key 0 hpos
  have ex : p.q.2.1 = q.q.2.1 := by
    unfold pix at k0
    rw [Nat.zero_xor, Nat.zero_xor] at k0
    omega
  have e0 : ∀ s : Gp N, pe s.q 0 = s.q.2.2.2.toNat := fun s => by
    unfold pe
    rw [show (((0 : Nat)) : Int) = 0 from rfl, an_zero, pc_zero]; simp
  have eph : p.q.2.2.2 = q.q.2.2.2 := by
    rw [e0, e0] at k0'
    omega
  have hzp := (vP_iff.1 (show vP (p.q.1, p.q.2.1, p.q.2.2.1, p.q.2.2.2) = true from p.v)).2.2.1
  have hzq := (vP_iff.1 (show vP (q.q.1, q.q.2.1, q.q.2.2.1, q.q.2.2.2) = true from q.v)).2.2.1
  rw [p.n] at hzp
  rw [q.n] at hzq
  have ez : p.q.2.2.1 = q.q.2.2.1 := by
    obtain ⟨zp, hzpn⟩ : ∃ z : Nat, p.q.2.2.1 = z := ⟨p.q.2.2.1.toNat, by omega⟩
    obtain ⟨zq, hzqn⟩ : ∃ z : Nat, q.q.2.2.1 = z := ⟨q.q.2.2.1.toNat, by omega⟩
    have cast : ((2 ^ N.toNat : Nat) : Int) = 2 ^ N.toNat := by simp
    have l1 : zp < 2 ^ N.toNat := by omega
    have l2 : zq < 2 ^ N.toNat := by omega
    have := zbit_fin ⟨zp, by omega⟩ ⟨zq, by omega⟩ (List.all_eq_true.2 fun j hj => by
      have hj := List.mem_range.1 hj
      rw [beq_iff_eq]
      simp only
      by_cases hjn : j < N.toNat
      · obtain ⟨_, k2⟩ := key (2 ^ j) (Nat.pow_lt_pow_right (by omega) hjn)
        unfold pe at k2
        rw [eph, hzpn, hzqn] at k2
        have b1 := pc_bd (an (zp : Int) ((2 ^ j : Nat) : Int))
        have b2 := pc_bd (an (zq : Int) ((2 ^ j : Nat) : Int))
        omega
      · have n4 : N.toNat < 5 := by omega
        rw [zhi_fin ⟨N.toNat, n4⟩ ⟨zp, by omega⟩ ⟨j, hj⟩ l1 (by simp only; omega), zhi_fin ⟨N.toNat, n4⟩ ⟨zq, by omega⟩ ⟨j, hj⟩ l2 (by simp only; omega)])
    rw [hzpn, hzqn]
    have e := congrArg Fin.val this
    simp only at e
    rw [e]
  exact Gp.ext (q4_ext (p.n.trans q.n.symm) ex ez eph)
theorem phz_fix {a : Nat} {x : Z4} (hne : x ≠ (0, 0, 0, 0)) (e : mlz (phz a) x = x) : a % 4 = 0 := by
  have c4 : a % 4 = 0 ∨ a % 4 = 1 ∨ a % 4 = 2 ∨ a % 4 = 3 := by omega
  rw [phz_mod] at e
  obtain ⟨x0, x1, x2, x3⟩ := x
  rcases c4 with c | c | c | c
  · exact c
  all_goals
    exfalso
    rw [c] at e
    simp [phz, mlz] at e
    apply hne
    apply z_ext <;> simp only <;> omega
/-- A product of rows that is Z or -Z on a qubit tells that qubit. -/
theorem sure_bit (h : 1 ≤ N ∧ N ≤ 4) {g : Gp N} {F : Amp} (hg : ∀ r, r < 2 ^ N.toNat → paQ g.q F r = F r) {q : Nat} (hq : q < N.toNat) (hx : g.q.2.1 = 0) (hz : g.q.2.2.1 = 2 ^ q) {r : Nat} (hr : r < 2 ^ N.toNat) (hne : F r ≠ (0, 0, 0, 0)) :
    (g.q.2.2.2 = 0 ∧ r.testBit q = false) ∨ (g.q.2.2.2 = 2 ∧ r.testBit q = true) := by
  have h16 := pw16' h
  have e := hg r hr
  unfold paQ at e
  have ep : pix g.q r = r := by unfold pix; rw [hx]; simp
  rw [ep] at e
  have pp := g.sm.2.2
  have hb := ez_fin ⟨q, by omega⟩ ⟨r, by omega⟩
  simp only at hb
  have hpe : pe g.q r = (g.q.2.2.2 + 2 * pc (an (2 ^ q) (r : Int))).toNat := by unfold pe; rw [hz]
  have bd := pc_bd (an (2 ^ q) (r : Int))
  have h1 : pe g.q r % 4 = 0 := phz_fix hne e
  cases hbit : r.testBit q
  · left
    rw [hbit] at hb
    simp only [Bool.false_eq_true, if_false] at hb
    refine ⟨?_, rfl⟩
    omega
  · right
    rw [hbit] at hb
    simp only [if_true] at hb
    refine ⟨?_, rfl⟩
    omega
/-- The product of the rows of a set. -/
def prB (h : 1 ≤ N ∧ N ≤ 4) (B : Nat → Gp N) (z : Int) : Nat → Gp N
  | 0 => Gp.one h
  | k + 1 => (prB h B z k).pw (B k) (bt z k)
theorem prd_prB (h : 1 ≤ N ∧ N ≤ 4) (A B : Nat → Gp N) (z : Int) : ∀ k, prd h A B 0 z k = prB h B z k
  | 0 => rfl
  | k + 1 => by
    have ih := prd_prB h A B z k
    have e : bt 0 k = false := by unfold bt; simp
    show ((prd h A B 0 z k).pw (A k) (bt 0 k)).pw (B k) (bt z k) = _
    rw [e, ih]; rfl
theorem prB_fix {F : Amp} (h : 1 ≤ N ∧ N ≤ 4) {B : Nat → Gp N} (hF : ∀ j, j < N.toNat → ∀ r, r < 2 ^ N.toNat → paQ (B j).q F r = F r) (z : Int) : ∀ k, k ≤ N.toNat → ∀ r, r < 2 ^ N.toNat → paQ (prB h B z k).q F r = F r
  | 0, _, r, _ => pa_one h F r
  | k + 1, hk, r, hr => by
    have ih := prB_fix h hF z k (by omega)
    rw [prB]
    unfold Gp.pw
    split
    · rw [pa_mul _ _ _ hr, pa_congr _ (hF k (by omega)) hr, ih r hr]
    · exact ih r hr
/-- If only one value of a qubit occurs, some product of rows is Z or -Z on it. -/
theorem found {L : List GQ} (h : 1 ≤ N ∧ N ≤ 4) {A B : Nat → Gp N} (hL : ∀ q ∈ L, gok N.toNat q) (hAll : ∀ p : Gp N, Cj L p (led h A B p)) (hInv : ∀ p : Gp N, ∃ w, Cj (ivL' L) p w) {F : Amp} {c : Z4}
    (hF : ∀ r, r < 2 ^ N.toNat → rtn (2 * hc L) (F r) = mlz c (gzs L (dl 0) r)) (hne : ∃ r, r < 2 ^ N.toNat ∧ F r ≠ (0, 0, 0, 0)) {q : Nat} (hq : q < N.toNat) {b : Bool} (hb : ∀ r, r < 2 ^ N.toNat → F r ≠ (0, 0, 0, 0) → r.testBit q = b) :
    ∃ z : Int, (0 ≤ z ∧ z < 2 ^ N.toNat) ∧ (prB h B z N.toNat).q.2.1 = 0 ∧ (prB h B z N.toNat).q.2.2.1 = 2 ^ q := by
  have h16 := pw16' h
  have hpos : 0 < 2 ^ N.toNat := Nat.two_pow_pos _
  obtain ⟨w, hw⟩ := hInv (gpZ h q)
  have hLi := gok_ivL hL
  -- what the inverse makes of F
  have hG : ∀ r, r < 2 ^ N.toNat → gzs (ivL' L) F r = mlz c (dl 0 r) := by
    intro r hr
    refine rtn_inj (2 * hc L) ?_
    have e1 : rtn (2 * hc L) (gzs (ivL' L) F r) = gzs (ivL' L) (fun i => rtn (2 * hc L) (F i)) r := by rw [gzs_rtn]
    rw [e1, gzs_congr hLi (g := fun i => mlz c (gzs L (dl 0) i)) (fun i hi => hF i hi) hr, gzs_mul, rtn_mlz']
    simp only []
    congr 1
    have e2 := gzs_inv hLi (dl 0) r hr
    have e3 : ivL' (ivL' L) = L := by
      unfold ivL'
      rw [List.map_reverse, List.reverse_reverse, List.map_map]
      conv => rhs; rw [← List.map_id L]
      refine List.map_congr_left fun x _ => ?_
      obtain ⟨k, a, b, c⟩ := x
      show (invK (invK k), a, b, c) = (k, a, b, c)
      have : invK (invK k) = k := by
        unfold invK
        (repeat' split) <;> omega
      rw [this]
    have e4 : hc (ivL' L) = hc L := by
      unfold ivL'
      have hcm : ∀ M : List GQ, hc (M.map ivG) = hc M := by
        intro M
        induction M with
        | nil => rfl
        | cons x M ih =>
          obtain ⟨k, a, b, c⟩ := x
          have : (invK k = 4) ↔ (k = 4) := by unfold invK; (repeat' split) <;> omega
          rw [List.map_cons]
          simp only [hc, ivG, ih, this]
      have hcr : ∀ M : List GQ, hc M.reverse = hc M := by
        intro M
        induction M with
        | nil => rfl
        | cons x M ih => rw [List.reverse_cons, hc_append, ih]; simp only [hc]; omega
      rw [hcr, hcm]
    rw [e3, e4] at e2
    exact e2
  have hc0 : c ≠ (0, 0, 0, 0) := by
    rintro rfl
    obtain ⟨r, hr, hf⟩ := hne
    apply hf
    have := hF r hr
    rw [mlz_0l] at this
    exact rtn_inj _ (this.trans (rtn_zero _).symm)
  -- Z on the qubit is a sign on F
  have hZ : ∀ r, r < 2 ^ N.toNat → paQ (gpZ h q).q F r = if b = true then ngz (F r) else F r := by
    intro r hr
    rw [gpZ_q h hq, pa_eZ N (by omega) _ (by omega)]
    by_cases e : F r = (0, 0, 0, 0)
    · rw [e]; cases b <;> (split <;> rfl)
    · rw [hb r hr e]
  have e1 : ∀ r, r < 2 ^ N.toNat → paQ w.q (fun i => mlz c (dl 0 i)) r = if b = true then ngz (mlz c (dl 0 r)) else mlz c (dl 0 r) := by
    intro r hr
    rw [← pa_congr w hG hr, ← hw F r hr]
    cases b
    · rw [if_neg (by simp), gzs_congr hLi (g := F) (fun i hi => by rw [hZ i hi]; rfl) hr, hG r hr]
    · rw [if_pos rfl, gzs_congr hLi (g := fun i => mlz (-1, 0, 0, 0) (F i)) (fun i hi => by rw [hZ i hi, if_pos rfl, ngz_ml]) hr, gzs_mul]
      simp only []
      rw [hG r hr, ← ngz_ml]
  have d00 : dl 0 0 = (1, 0, 0, 0) := rfl
  -- so w has no X
  have hx : pix w.q 0 = 0 := by
    have e2 := e1 0 hpos
    rw [pa_smul, pa_dl, d00, mlz_1] at e2
    by_cases e : pix w.q 0 = 0
    · exact e
    · exfalso
      have : dl (pix w.q 0) 0 = (0, 0, 0, 0) := by unfold dl; rw [if_neg (fun h => e h.symm)]
      rw [this, mlz_0r, mlz_0r] at e2
      cases b
      · rw [if_neg (by simp)] at e2; exact hc0 e2.symm
      · rw [if_pos rfl] at e2
        apply hc0
        have e3 := congrArg ngz e2
        rw [ngz_ngz] at e3
        exact e3.symm
  have hwx : w.q.2.1 = 0 := by
    have h1 := w.sm.1
    unfold pix at hx
    rw [Nat.zero_xor] at hx
    have := h1.1
    omega
  -- Z is what the tableau makes of w
  have hEq : gpZ h q = led h A B w := by
    refine gp_of_pa h fun f r hr => ?_
    refine rtn_inj (2 * hc (ivL' L)) ?_
    have c1 := Cj.append hL hw (hAll w) f r hr
    have e3 : ivL' (ivL' L) = L := by
      unfold ivL'
      rw [List.map_reverse, List.reverse_reverse, List.map_map]
      conv => rhs; rw [← List.map_id L]
      refine List.map_congr_left fun x _ => ?_
      obtain ⟨k, a, b, c⟩ := x
      show (invK (invK k), a, b, c) = (k, a, b, c)
      have : invK (invK k) = k := by
        unfold invK
        (repeat' split) <;> omega
      rw [this]
    have run : ∀ (g : Amp) r, r < 2 ^ N.toNat → gzs (ivL' L ++ L) g r = rtn (2 * hc L) (g r) := fun g r hr => by
      rw [gzs_append]; exact gzs_inv hL g r hr
    have e4 : hc (ivL' L) = hc L := by
      unfold ivL'
      have hcm : ∀ M : List GQ, hc (M.map ivG) = hc M := by
        intro M
        induction M with
        | nil => rfl
        | cons x M ih =>
          obtain ⟨k, a, b, c⟩ := x
          have : (invK k = 4) ↔ (k = 4) := by unfold invK; (repeat' split) <;> omega
          rw [List.map_cons]
          simp only [hc, ivG, ih, this]
      have hcr : ∀ M : List GQ, hc M.reverse = hc M := by
        intro M
        induction M with
        | nil => rfl
        | cons x M ih => rw [List.reverse_cons, hc_append, ih]; simp only [hc]; omega
      rw [hcr, hcm]
    rw [run _ r hr] at c1
    rw [e4, c1]
    have e5 : paQ (led h A B w).q (gzs (ivL' L ++ L) f) r = paQ (led h A B w).q (fun i => mlz (rz (2 * hc L)) (f i)) r := pa_congr _ (fun i hi => by rw [run f i hi, rtn_ml]) hr
    rw [e5, pa_smul, rtn_ml]
  have hz := (vP_iff.1 (show vP (w.q.1, w.q.2.1, w.q.2.2.1, w.q.2.2.2) = true from w.v)).2.2.1
  rw [w.n] at hz
  refine ⟨w.q.2.2.1, hz, ?_⟩
  have e6 : led h A B w = (prB h B w.q.2.2.1 N.toNat).ph w.q.2.2.2 := by
    unfold led
    rw [hwx, prd_prB]
  rw [e6] at hEq
  have e7 := congrArg Gp.q hEq
  rw [gpZ_q h hq, Gp.ph_q] at e7
  unfold eZ at e7
  simp only [Prod.mk.injEq] at e7
  exact ⟨e7.2.1.symm, e7.2.2.1.symm⟩
end
end Go.Proofs.Ytflfodcgoffjkaa
