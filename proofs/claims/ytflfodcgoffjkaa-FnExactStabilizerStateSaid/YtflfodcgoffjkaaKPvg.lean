/- Plain laws: Pauli operators on amplitudes; Clifford gates lead one Pauli operator to another. -/
import Derived.Test.YtflfodcgoffjkaaK17
import Derived.Test.YtflfodcgoffjkaaK16
namespace Go.Proofs.Ytflfodcgoffjkaa
open Go.RowKit
set_option maxRecDepth 100000
set_option linter.unusedVariables false
set_option linter.unusedSimpArgs false
def paQ (q : Q4) (f : Amp) (r : Nat) : Z4 := mlz (phz (pe q (pix q r))) (f (pix q r))
theorem phz_congr {a b : Nat} (h : a % 4 = b % 4) : phz a = phz b := by unfold phz; rw [h]
theorem pa_mul {N : Int} (a b : Gp N) (f : Amp) {r : Nat} (hr : r < 2 ^ N.toNat) : paQ (a * b).q f r = paQ a.q (paQ b.q f) r := by
  unfold paQ
  rw [Gp.mul_q, pix_mul, pix_comm, ← mlz_assoc, phz_mul]
  have hc : pix b.q (pix a.q r) < 2 ^ N.toNat := gp_lt b (gp_lt a hr)
  have := pe_mul a.v b.v (a.n.trans b.n.symm) (c := pix b.q (pix a.q r)) (by rw [a.n]; exact hc)
  rw [pix_pix] at this
  rw [phz_congr this.symm]
theorem pa_add (q : Q4) (f g : Amp) (r : Nat) : paQ q (fun i => adz (f i) (g i)) r = adz (paQ q f r) (paQ q g r) := by unfold paQ; rw [mlz_add]
theorem pa_smul (q : Q4) (c : Z4) (f : Amp) (r : Nat) : paQ q (fun i => mlz c (f i)) r = mlz c (paQ q f r) := by unfold paQ; rw [mlz_swap]
theorem pa_ph {N : Int} (p : Gp N) {k : Int} (hk : 0 ≤ k) (f : Amp) (r : Nat) : paQ (p.ph k).q f r = mlz (phz k.toNat) (paQ p.q f r) := by
  unfold paQ
  have e : pix (p.ph k).q r = pix p.q r := rfl
  rw [e, ← mlz_assoc, phz_mul, phz_congr (pe_ph k p _ hk), Nat.add_comm]
theorem pa_one {N : Int} (h : 1 ≤ N ∧ N ≤ 4) (f : Amp) (r : Nat) : paQ (Gp.one h).q f r = f r := by
  unfold paQ
  have e1 : pix (Gp.one h).q r = r := by unfold pix Gp.one; simp
  have e2 : pe (Gp.one h).q r = 0 := by
    unfold pe Gp.one
    simp only
    rw [zero_an, pc_zero]; rfl
  rw [e1, e2]
  exact mlz_1l _
theorem pa_congr {N : Int} (p : Gp N) {f g : Amp} (h : ∀ i, i < 2 ^ N.toNat → f i = g i) {r : Nat} (hr : r < 2 ^ N.toNat) : paQ p.q f r = paQ p.q g r := by
  unfold paQ; rw [h _ (gp_lt p hr)]
/-- A row of gates leads a Pauli operator to another. -/
def Cj {N : Int} (L : List GQ) (p q : Gp N) : Prop := ∀ (f : Amp) (r : Nat), r < 2 ^ N.toNat → gzs L (paQ p.q f) r = paQ q.q (gzs L f) r
section
variable {N : Int} {L : List GQ}
theorem Cj.nil (p : Gp N) : Cj [] p p := fun f r _ => rfl
theorem Cj.mul (hL : ∀ q ∈ L, gok N.toNat q) {p p' q q' : Gp N} (h1 : Cj L p q) (h2 : Cj L p' q') : Cj L (p * p') (q * q') := by
  intro f r hr
  rw [pa_mul q q' (gzs L f) hr, gzs_congr hL (g := paQ p.q (paQ p'.q f)) (fun i hi => pa_mul p p' f hi) hr, h1 _ r hr]
  exact pa_congr q (fun i hi => h2 f i hi) hr
theorem Cj.ph {k : Int} (hk : 0 ≤ k) {p q : Gp N} (h1 : Cj L p q) : Cj L (p.ph k) (q.ph k) := by
  intro f r hr
  rw [pa_ph q hk, show paQ (p.ph k).q f = fun i => mlz (phz k.toNat) (paQ p.q f i) from funext (pa_ph p hk f), gzs_mul]
  simp only []
  rw [h1 f r hr]
theorem Cj.one (h : 1 ≤ N ∧ N ≤ 4) : Cj L (Gp.one h) (Gp.one h) := by
  intro f r hr
  rw [pa_one, show paQ (Gp.one h).q f = f from funext (pa_one h f)]
theorem Cj.append {M : List GQ} {p q s : Gp N} (hM : ∀ q ∈ M, gok N.toNat q) (h1 : Cj L p q) (h2 : Cj M q s) : Cj (L ++ M) p s := by
  intro f r hr
  rw [gzs_append, gzs_append, gzs_congr hM (g := paQ q.q (gzs L f)) (fun i hi => h1 f i hi) hr, h2 _ r hr]
theorem Cj.prd (hL : ∀ q ∈ L, gok N.toNat q) (h : 1 ≤ N ∧ N ≤ 4) {A B A' B' : Nat → Gp N} (x z : Int) : ∀ k, (∀ j, j < k → Cj L (A j) (A' j) ∧ Cj L (B j) (B' j)) → Cj L (prd h A B x z k) (prd h A' B' x z k)
  | 0, _ => Cj.one h
  | k + 1, hj => by
    have ih := Cj.prd hL h x z k (fun j hj' => hj j (by omega))
    obtain ⟨h1, h2⟩ := hj k (by omega)
    have pw : ∀ {p q a a' : Gp N} (b : Bool), Cj L p q → Cj L a a' → Cj L (p.pw a b) (q.pw a' b) := fun b hp ha => by
      unfold Gp.pw
      split
      · exact Cj.mul hL hp ha
      · exact hp
    exact pw _ (pw _ ih h1) h2
theorem Cj.led (hL : ∀ q ∈ L, gok N.toNat q) (h : 1 ≤ N ∧ N ≤ 4) {A B A' B' : Nat → Gp N} (hj : ∀ j, j < N.toNat → Cj L (A j) (A' j) ∧ Cj L (B j) (B' j)) (p : Gp N) : Cj L (led h A B p) (led h A' B' p) := by
  have := Cj.prd hL h p.q.2.1 p.q.2.2.1 N.toNat hj
  exact Cj.ph p.sm.2.2.1 this
theorem Cj.all (hL : ∀ q ∈ L, gok N.toNat q) (h : 1 ≤ N ∧ N ≤ 4) {A' B' : Nat → Gp N} (hj : ∀ j, j < N.toNat → Cj L (gpX h j) (A' j) ∧ Cj L (gpZ h j) (B' j)) (p : Gp N) : Cj L p (Go.Proofs.Ytflfodcgoffjkaa.led h A' B' p) := by
  have := Cj.led hL h hj p
  rw [led_gp] at this
  exact this
/-- What the basis states show holds for all vectors. -/
theorem cj_of (hL : ∀ q ∈ L, gok N.toNat q) {p q : Gp N} (h : ∀ c r, c < 2 ^ N.toNat → r < 2 ^ N.toNat → gzs L (paQ p.q (dl c)) r = paQ q.q (gzs L (dl c)) r) : Cj L p q := by
  intro f r hr
  have key : ∀ j, j ≤ 2 ^ N.toNat → gzs L (paQ p.q (sm f j)) r = paQ q.q (gzs L (sm f j)) r := by
    intro j
    induction j with
    | zero =>
      intro _
      have e : paQ p.q (sm f 0) = fun _ => (0, 0, 0, 0) := funext fun i => mlz_0r _
      rw [e, show sm f 0 = fun _ => (0, 0, 0, 0) from rfl, gzs_zero]
      exact (mlz_0r _).symm
    | succ j ih =>
      intro hj
      have e : paQ p.q (sm f (j + 1)) = fun i => adz (paQ p.q (sm f j) i) (mlz (f j) (paQ p.q (dl j) i)) := funext fun i => by
        rw [show sm f (j + 1) = fun i => adz (sm f j i) (mlz (f j) (dl j i)) from rfl, pa_add, pa_smul]
      rw [e, gzs_add, gzs_mul]
      simp only []
      rw [ih (by omega), h j r (by omega) hr, show sm f (j + 1) = fun i => adz (sm f j i) (mlz (f j) (dl j i)) from rfl, gzs_add, gzs_mul, pa_add, pa_smul]
  have e := key (2 ^ N.toNat) (Nat.le_refl _)
  have ef : ∀ i, i < 2 ^ N.toNat → sm f (2 ^ N.toNat) i = f i := fun i hi => by rw [sm_at, if_pos hi]
  rw [gzs_congr hL (g := paQ p.q f) (fun i hi => pa_congr p ef hi) hr] at e
  rw [e]
  exact pa_congr q (fun i hi => gzs_congr hL ef hi) hr
end
end Go.Proofs.Ytflfodcgoffjkaa
