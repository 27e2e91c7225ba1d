/- Plain laws: how much a projected basis state keeps: nothing, or a power of two. -/
import Derived.Test.YtflfodcgoffjkaaKPvp
namespace Go.Proofs.Ytflfodcgoffjkaa
open Go.RowKit
set_option maxRecDepth 100000
set_option linter.unusedVariables false
set_option linter.unusedSimpArgs false
theorem phz_mod (a : Nat) : phz a = phz (a % 4) := by unfold phz; rw [Nat.mod_mod]
theorem cj_phz {a b : Nat} (h : (a + b) % 4 = 0) : cjz (phz a) = phz b := by
  rw [phz_mod a, phz_mod b]
  have : (a % 4 = 0 ∧ b % 4 = 0) ∨ (a % 4 = 1 ∧ b % 4 = 3) ∨ (a % 4 = 2 ∧ b % 4 = 2) ∨ (a % 4 = 3 ∧ b % 4 = 1) := by omega
  rcases this with ⟨h1, h2⟩ | ⟨h1, h2⟩ | ⟨h1, h2⟩ | ⟨h1, h2⟩ <;> rw [h1, h2] <;> rfl
section
variable {N : Int}
theorem pe_herm (h : 1 ≤ N ∧ N ≤ 4) {p : Gp N} (hp : p * p = Gp.one h) {c : Nat} (hc : c < 2 ^ N.toNat) : (pe p.q (pix p.q c) + pe p.q c) % 4 = 0 := by
  have := pe_mul p.v p.v rfl (c := c) (by rw [p.n]; exact hc)
  rw [this]
  have e : mulQ p.q p.q = (Gp.one h).q := by rw [← Gp.mul_q, hp]
  rw [e]
  unfold pe Gp.one
  simp only
  rw [zero_an, pc_zero]; rfl
theorem ip_add' (D : Nat) (f f' g : Amp) : ipz D (fun i => adz (f i) (f' i)) g = adz (ipz D f g) (ipz D f' g) := by
  unfold ipz
  rw [← smz_add]
  refine smz_congr fun j _ => ?_
  rw [cjz_add, mlz_comm, mlz_add, mlz_comm, mlz_comm (g j)]
theorem ip_pa (h : 1 ≤ N ∧ N ≤ 4) {p : Gp N} (hp : p * p = Gp.one h) (f g : Amp) : ipz (2 ^ N.toNat) (paQ p.q f) g = ipz (2 ^ N.toNat) f (paQ p.q g) := by
  unfold ipz
  rw [← smz_perm (2 ^ N.toNat) (pix p.q) (fun i hi => gp_lt p hi) (fun i _ => pix_pix p.q i) (fun j => mlz (cjz (paQ p.q f j)) (g j))]
  refine smz_congr fun j hj => ?_
  unfold paQ
  rw [pix_pix, cjz_mul, cj_phz (b := pe p.q (pix p.q j)) (by have := pe_herm h hp hj; omega), mlz_comm (phz _), mlz_assoc]
theorem prs_add (S : Nat → Gp N) (f g : Amp) : ∀ k, prs S k (fun i => adz (f i) (g i)) = fun r => adz (prs S k f r) (prs S k g r)
  | 0 => rfl
  | k + 1 => by
    rw [prs, prs_add S f g k]
    funext r
    unfold prj
    rw [pa_add]
    show _ = adz (prj (S k).q (prs S k f) r) (prj (S k).q (prs S k g) r)
    unfold prj
    rw [adz_mix']
variable {S : Nat → Gp N}
/-- What is stabilized is doubled by each projection. -/
theorem prs_fix {F : Amp} (hF : ∀ j, j < N.toNat → ∀ r, r < 2 ^ N.toNat → paQ (S j).q F r = F r) : ∀ k, k ≤ N.toNat → ∀ r, r < 2 ^ N.toNat → prs S k F r = rtn (2 * k) (F r)
  | 0, _, r, _ => rfl
  | k + 1, hk, r, hr => by
    have ih := prs_fix hF k (by omega)
    rw [prs]
    have e := prj_congr (S k) (f := prs S k F) (g := fun i => mlz (rz (2 * k)) (F i)) (fun i hi => by rw [ih i hi, rtn_ml]) r hr
    rw [e, prj_smul]
    simp only []
    unfold prj
    rw [hF k (by omega) r hr, ← rtn_ml, ← rtn2, rtn_add]
    congr 1
theorem ip_prs (h : 1 ≤ N ∧ N ≤ 4) (hH : ∀ j, j < N.toNat → S j * S j = Gp.one h) {F : Amp} (hF : ∀ j, j < N.toNat → ∀ r, r < 2 ^ N.toNat → paQ (S j).q F r = F r) (g : Amp) : ∀ k, k ≤ N.toNat → ipz (2 ^ N.toNat) (prs S k g) F = rtn (2 * k) (ipz (2 ^ N.toNat) g F)
  | 0, _ => rfl
  | k + 1, hk => by
    have ih := ip_prs h hH hF g k (by omega)
    rw [prs]
    show ipz _ (fun r => adz (prs S k g r) (paQ (S k).q (prs S k g) r)) F = _
    rw [ip_add', ip_pa h (hH k (by omega)), ip_congr (f := prs S k g) (f' := prs S k g) (g := paQ (S k).q F) (g' := F) (fun _ _ => rfl) (fun i hi => hF k (by omega) i hi), ih, ← rtn2, rtn_add]
    congr 1; omega
theorem ip_dl_left {D c : Nat} (hc : c < D) (g : Amp) : ipz D (dl c) g = g c := by
  unfold ipz
  rw [smz_one (c := c) hc (fun j _ hj => by unfold dl; rw [if_neg hj]; exact mlz_0l _)]
  unfold dl; rw [if_pos rfl]
  exact mlz_1l _
/-- Operators that leave a vector as it is, and commute with the rows. -/
structure Fx (S : Nat → Gp N) (F : Amp) (g : Gp N) : Prop where
  f : ∀ r, r < 2 ^ N.toNat → paQ g.q F r = F r
  c : ∀ j, j < N.toNat → g * S j = S j * g
theorem Fx.mul {F : Amp} {a b : Gp N} (ha : Fx S F a) (hb : Fx S F b) : Fx S F (a * b) :=
  ⟨fun r hr => by rw [pa_mul a b F hr, pa_congr a hb.f hr, ha.f r hr], fun j hj => by rw [Gp.assoc, hb.c j hj, ← Gp.assoc, ha.c j hj, Gp.assoc]⟩
theorem Fx.next {k : Nat} (hk : k < N.toNat) {F : Amp} {g : Gp N} (hg : Fx S F g) : Fx S (prj (S k).q F) g :=
  ⟨fun r hr => by
    show paQ g.q (fun r => adz (F r) (paQ (S k).q F r)) r = adz (F r) (paQ (S k).q F r)
    rw [pa_add, hg.f r hr, ← pa_mul g (S k) F hr, hg.c k hk, pa_mul (S k) g F hr, pa_congr (S k) hg.f hr], hg.c⟩
theorem Fx.new (h : 1 ≤ N ∧ N ≤ 4) (hH : ∀ j, j < N.toNat → S j * S j = Gp.one h) (hC : ∀ i j, i < N.toNat → j < N.toNat → S i * S j = S j * S i) {k : Nat} (hk : k < N.toNat) (F : Amp) : Fx S (prj (S k).q F) (S k) :=
  ⟨fun r hr => by
    show paQ (S k).q (fun r => adz (F r) (paQ (S k).q F r)) r = adz (F r) (paQ (S k).q F r)
    rw [pa_add, ← pa_mul (S k) (S k) F hr, hH k hk, pa_one h, adz_comm], fun j hj => hC k j hk hj⟩
def Pw2 (k : Nat) (x : Z4) : Prop := x = (0, 0, 0, 0) ∨ ∃ e, e ≤ k ∧ x = rtn (2 * e) (1, 0, 0, 0)
theorem keeps (h : 1 ≤ N ∧ N ≤ 4) (hH : ∀ j, j < N.toNat → S j * S j = Gp.one h) (hC : ∀ i j, i < N.toNat → j < N.toNat → S i * S j = S j * S i) {i : Nat} (hi : i < 2 ^ N.toNat) : ∀ k, k ≤ N.toNat →
    (∀ r, r < 2 ^ N.toNat → (¬ ∃ g, Fx S (prs S k (dl i)) g ∧ pix g.q i = r) → prs S k (dl i) r = (0, 0, 0, 0)) ∧ Pw2 k (prs S k (dl i) i)
  | 0, _ => by
    refine ⟨fun r hr hn => ?_, Or.inr ⟨0, Nat.le_refl _, ?_⟩⟩
    · show dl i r = _
      unfold dl
      rw [if_neg]
      intro e
      exact hn ⟨Gp.one h, ⟨fun r _ => pa_one h _ r, fun j _ => by rw [Gp.one_mul, Gp.mul_one]⟩, by rw [e]; unfold pix Gp.one; simp⟩
    · show dl i i = _
      unfold dl; rw [if_pos rfl]; rfl
  | k + 1, hk => by
    obtain ⟨ih1, ih2⟩ := keeps h hH hC hi k (by omega)
    have hkk : k < N.toNat := by omega
    have hrr := gp_lt (S k) hi
    constructor
    · intro r hr hn
      have e1 : prs S k (dl i) r = (0, 0, 0, 0) := ih1 r hr (fun ⟨g, hg, e⟩ => hn ⟨g, Fx.next hkk hg, e⟩)
      have e2 : prs S k (dl i) (pix (S k).q r) = (0, 0, 0, 0) := ih1 _ (gp_lt (S k) hr) (fun ⟨g, hg, e⟩ => hn ⟨S k * g, (Fx.new h hH hC hkk _).mul (Fx.next hkk hg), by rw [Gp.mul_q, pix_mul, e, pix_pix]⟩)
      show adz (prs S k (dl i) r) (mlz _ (prs S k (dl i) (pix (S k).q r))) = _
      rw [e1, e2, mlz_0r]; rfl
    · show Pw2 (k + 1) (adz (prs S k (dl i) i) (paQ (S k).q (prs S k (dl i)) i))
      by_cases hA : ∃ g, Fx S (prs S k (dl i)) g ∧ pix g.q i = pix (S k).q i
      · obtain ⟨g, hg, eg⟩ := hA
        have e1 : paQ (S k).q (prs S k (dl i)) i = paQ (S k * g).q (prs S k (dl i)) i := by rw [pa_mul (S k) g _ hi, pa_congr (S k) hg.f hi]
        have ep : pix (S k * g).q i = i := by rw [Gp.mul_q, pix_mul, eg, pix_pix]
        have e2 : ∀ f : Amp, paQ (S k * g).q f i = mlz (phz (pe (S k * g).q i)) (f i) := fun f => by unfold paQ; rw [ep]
        have e3 : (S k * g) * (S k * g) = g * g := by
          rw [Gp.assoc, ← Gp.assoc g (S k) g, hg.c k hkk, Gp.assoc (S k) g g, ← Gp.assoc (S k) (S k), hH k hkk, Gp.one_mul]
        have e4 : paQ ((S k * g) * (S k * g)).q (prs S k (dl i)) i = prs S k (dl i) i := by rw [e3]; exact (hg.mul hg).f i hi
        rw [pa_mul (S k * g) (S k * g) _ hi, e2, e2, ← mlz_assoc, phz_mul] at e4
        rw [e1, e2]
        generalize pe (S k * g).q i = a at *
        rcases ih2 with h0 | ⟨e, he, h0⟩
        · rw [h0, mlz_0r]; exact Or.inl rfl
        · rw [h0] at e4 ⊢
          rw [rtn_even] at e4
          have hpos : (0 : Int) < ((2 ^ e : Nat) : Int) := by have := Nat.two_pow_pos e; omega
          have h2a : (a + a) % 4 = 0 := by
            have : (a + a) % 4 = 0 ∨ (a + a) % 4 = 2 := by omega
            rcases this with h' | h'
            · exact h'
            · rw [phz_mod, h'] at e4
              have e5 : phz 2 = (-1, 0, 0, 0) := rfl
              rw [e5] at e4
              have e6 := congrArg (fun x : Z4 => x.1) e4
              unfold mlz at e6
              simp only [Int.mul_one, Int.mul_zero] at e6
              omega
          have : a % 4 = 0 ∨ a % 4 = 2 := by omega
          rcases this with h' | h'
          · right
            refine ⟨e + 1, by omega, ?_⟩
            rw [phz_mod, h', show phz 0 = (1, 0, 0, 0) from rfl, mlz_1l, ← rtn2, rtn_add]
            congr 1; omega
          · left
            rw [phz_mod, h', show phz 2 = (-1, 0, 0, 0) from rfl, ← ngz_ml]
            unfold adz ngz; apply z_ext <;> simp only <;> omega
      · have e0 : prs S k (dl i) (pix (S k).q i) = (0, 0, 0, 0) := ih1 _ hrr hA
        have e1 : paQ (S k).q (prs S k (dl i)) i = (0, 0, 0, 0) := by unfold paQ; rw [e0, mlz_0r]
        rw [e1, adz_0r]
        rcases ih2 with h0 | ⟨e, he, h0⟩
        · exact Or.inl h0
        · exact Or.inr ⟨e, by omega, h0⟩
/-- The norm of a projected basis state. -/
theorem f_norm (h : 1 ≤ N ∧ N ≤ 4) (hH : ∀ j, j < N.toNat → S j * S j = Gp.one h) (hC : ∀ i j, i < N.toNat → j < N.toNat → S i * S j = S j * S i) {i : Nat} (hi : i < 2 ^ N.toNat)
    (hF : ∀ j, j < N.toNat → ∀ r, r < 2 ^ N.toNat → paQ (S j).q (prs S N.toNat (dl i)) r = prs S N.toNat (dl i) r) :
    ipz (2 ^ N.toNat) (prs S N.toNat (dl i)) (prs S N.toNat (dl i)) = (0, 0, 0, 0) ∨ ∃ e, e ≤ N.toNat ∧ ipz (2 ^ N.toNat) (prs S N.toNat (dl i)) (prs S N.toNat (dl i)) = rtn (2 * (N.toNat + e)) (1, 0, 0, 0) := by
  have e1 := ip_prs h hH hF (dl i) N.toNat (Nat.le_refl _)
  rw [ip_dl_left hi] at e1
  obtain ⟨_, h2⟩ := keeps h hH hC hi N.toNat (Nat.le_refl _)
  rcases h2 with h0 | ⟨e, he, h0⟩
  · left; rw [e1, h0, rtn_zero]
  · right
    refine ⟨e, he, ?_⟩
    rw [e1, h0, rtn_add]
    congr 1; omega
theorem ip_zero {D : Nat} {f : Amp} (h : ipz D f f = (0, 0, 0, 0)) {r : Nat} (hr : r < D) : f r = (0, 0, 0, 0) := by
  have hs := (smz_fst (g := fun j => mlz (cjz (f j)) (f j)) (fun j => nrm_nn _) D).2 r hr
  have e : (smz (fun j => mlz (cjz (f j)) (f j)) D).1 = 0 := congrArg (fun x : Z4 => x.1) h
  rw [e] at hs
  obtain ⟨h1, h2, h3, h4⟩ := nrm_bd (x := f r) (B := 0) (by omega) hs
  apply z_ext <;> simp only <;> omega
/-- Some basis state is not projected to nothing. -/
theorem some_f {L : List GQ} (h : 1 ≤ N ∧ N ≤ 4) (hL : ∀ q ∈ L, gok N.toNat q) (hS : ∀ j, j < N.toNat → Cj L (gpZ h j) (S j)) : ¬ ∀ i, i < 2 ^ N.toNat → ∀ r, r < 2 ^ N.toNat → prs S N.toNat (dl i) r = (0, 0, 0, 0) := by
  intro hz
  have hU := prs_fix (S := S) (F := gzs L (dl 0)) (fun j hj r hr => u_stab h hL hS hj hr) N.toNat (Nat.le_refl _)
  have key : ∀ k, k ≤ 2 ^ N.toNat → ∀ r, r < 2 ^ N.toNat → prs S N.toNat (sm (gzs L (dl 0)) k) r = (0, 0, 0, 0) := by
    intro k
    induction k with
    | zero =>
      intro _ r hr
      have e : sm (gzs L (dl 0)) 0 = fun i => mlz (0, 0, 0, 0) ((fun _ => (0, 0, 0, 0) : Amp) i) := funext fun i => (mlz_0l _).symm
      rw [e, prs_smul]; exact mlz_0l _
    | succ k ih =>
      intro hk r hr
      rw [show sm (gzs L (dl 0)) (k + 1) = fun i => adz (sm (gzs L (dl 0)) k i) (mlz (gzs L (dl 0) k) (dl k i)) from rfl, prs_add, prs_smul]
      simp only []
      rw [ih (by omega) r hr, hz k (by omega) r hr, mlz_0r]; rfl
  have hu0 : ∀ r, r < 2 ^ N.toNat → gzs L (dl 0) r = (0, 0, 0, 0) := by
    intro r hr
    have e1 := key (2 ^ N.toNat) (Nat.le_refl _) r hr
    rw [prs_congr S (g := gzs L (dl 0)) (fun i hi => by rw [sm_at, if_pos hi]) _ r hr, hU r hr] at e1
    exact rtn_inj _ (e1.trans (rtn_zero _).symm)
  have hp : 0 < 2 ^ N.toNat := Nat.two_pow_pos _
  have e2 := ip_run hL (dl 0) (dl 0)
  rw [ip_dl hp, rtn_even] at e2
  have e3 : ipz (2 ^ N.toNat) (gzs L (dl 0)) (gzs L (dl 0)) = (0, 0, 0, 0) := smz_zero fun j hj => by rw [hu0 j hj]; exact mlz_0r _
  rw [e3] at e2
  have e4 := congrArg (fun x : Z4 => x.1) e2
  simp only [Int.mul_one] at e4
  have := Nat.two_pow_pos (hc L)
  omega
end
end Go.Proofs.Ytflfodcgoffjkaa
