/- Plain laws: conjugation, by a gate and by a tableau, as a map of the group. -/
import Derived.Test.YtcclapenpaediaaPq
import Derived.Test.YtcclapenpaediaaPx
namespace Go.Proofs.Ytcclapenpaediaa
open Go.RowKit
set_option maxRecDepth 100000
set_option linter.unusedVariables false
set_option linter.unusedSimpArgs false
def toG {N : Int} (h : 1 ≤ N ∧ N ≤ 4) (q : Q4) : Gp N := if hq : vP q = true ∧ q.1 = N then ⟨q, hq.1, hq.2⟩ else Gp.one h
theorem toG_q {N : Int} (h : 1 ≤ N ∧ N ≤ 4) {q : Q4} (h1 : vP q = true) (h2 : q.1 = N) : (toG h q).q = q := by unfold toG; rw [dif_pos ⟨h1, h2⟩]
theorem toG_id {N : Int} (h : 1 ≤ N ∧ N ≤ 4) (p : Gp N) : toG h p.q = p := Gp.ext (toG_q h p.v p.n)
theorem ph_pw {N : Int} (k : Int) (c a : Gp N) (b : Bool) : (c.ph k).pw a b = (c.pw a b).ph k := by
  unfold Gp.pw; cases b <;> simp [Gp.ph_mul]
theorem led_loop {N : Int} {β : Type} (L : Nat → Int → Q4 → Option β) (F : Q4 → Option β) (h : 1 ≤ N ∧ N ≤ 4) (A B : Nat → Gp N) (x z ph : Int)
    (hs : ∀ m (v : Nat) (p : Gp N), v < N.toNat → L (m + 1) (v : Int) p.q = L m ((v + 1 : Nat) : Int) ((p.pw (A v) (bt x v)).pw (B v) (bt z v)).q)
    (he : ∀ m (p : Gp N), L (m + 1) N p.q = F p.q) : L FU 0 ((Gp.one h).ph ph).q = F ((prd h A B x z N.toNat).ph ph).q := by
  have key : ∀ m (v : Nat), v ≤ N.toNat → N.toNat - v < m → L m (v : Int) ((prd h A B x z v).ph ph).q = F ((prd h A B x z N.toNat).ph ph).q := by
    intro m
    induction m with
    | zero => intro v _ h; omega
    | succ m ih =>
      intro v hv hm
      by_cases e : v = N.toNat
      · subst e
        have := he m ((prd h A B x z N.toNat).ph ph)
        rw [Int.toNat_of_nonneg (by omega)]
        exact this
      · rw [hs m v _ (by omega), ph_pw, ph_pw]
        exact ih (v + 1) (by omega) (by omega)
  exact key FU 0 (by omega) (by rw [FU_eq]; omega)
theorem bit_fin : ∀ x : Fin 16, ∀ v : Fin 4, (bits .and .i64 (Int.fdiv (x.val : Int) (2 ^ min (Int.toNat (v.val : Int)) (IntKind.bits .i64))) 1 == 1) = bt (x.val : Int) v.val := by decide +kernel
theorem bit_eq {x : Int} (h : Sm x) {v : Nat} (hv : v < 4) : (bits .and .i64 (Int.fdiv x (2 ^ min (Int.toNat (v : Int)) (IntKind.bits .i64))) 1 == 1) = bt x v := by
  obtain ⟨k, rfl⟩ := h.fin
  exact bit_fin k ⟨v, hv⟩
def outG {N : Int} (p : Gp N) : Int × Int × Int × Int × Bool := (p.q.1, p.q.2.1, p.q.2.2.1, p.q.2.2.2, true)
theorem one_ph {N : Int} (h : 1 ≤ N ∧ N ≤ 4) {p : Int} (hp : 0 ≤ p ∧ p ≤ 3) : ((Gp.one h).ph p).q = (N, 0, 0, p) := by
  refine q4_ext rfl rfl rfl ?_
  show (0 + p) % 4 = p
  omega
theorem mulG {N : Int} (p q : Gp N) : s_MulPauli p.q.1 p.q.2.1 p.q.2.2.1 p.q.2.2.2 q.q.1 q.q.2.1 q.q.2.2.1 q.q.2.2.2 = some (outG (p * q)) ∧ i_MulPauli p.q.1 p.q.2.1 p.q.2.2.1 p.q.2.2.2 q.q.1 q.q.2.1 q.q.2.2.1 q.q.2.2.2 = some (outG (p * q)) := by
  obtain ⟨h1, h2, _, _⟩ := mulC p.v q.v p.n q.n
  exact ⟨h1, h2⟩
/-- The images of X and Z under a gate. -/
def iQ (N k a b : Int) (v : Nat) (z : Bool) : Q4 := match s_l25Image N k a b 0 (v : Int) z with | some q => q | none => (0, 0, 0, 0)
def gA {N : Int} (h : 1 ≤ N ∧ N ≤ 4) (k a b : Int) (v : Nat) : Gp N := toG h (iQ N k a b v false)
def gB {N : Int} (h : 1 ≤ N ∧ N ≤ 4) (k a b : Int) (v : Nat) : Gp N := toG h (iQ N k a b v true)
theorem img_g {k a b c N : Int} (h : 1 ≤ N ∧ N ≤ 4) (h1 : clif k = true) (h2 : ivg k a b c N = true) {v : Nat} (hv : v < N.toNat) :
    s_l25Image N k a b c v false = some (gA h k a b v).q ∧ s_l25Image N k a b c v true = some (gB h k a b v).q ∧ (gA h k a b v).q = iQ N k a b v false ∧ (gB h k a b v).q = iQ N k a b v true := by
  obtain ⟨rfl, _⟩ := gate_dom h1 h2
  obtain ⟨X, Z, _, g2, g3, vX, nX, vZ, nZ⟩ := img_ok h1 h2 (v := (v : Int)) (by omega)
  have eX : iQ N k a b v false = X := by unfold iQ; rw [g2]
  have eZ : iQ N k a b v true = Z := by unfold iQ; rw [g3]
  unfold gA gB
  rw [eX, eZ, toG_q h vX nX, toG_q h vZ nZ]
  exact ⟨g2, g3, rfl, rfl⟩
theorem conj_s {k a b c N x z p : Int} (h1 : clif k = true) (h2 : ivg k a b c N = true) (hp : vP (N, x, z, p) = true) (h : 1 ≤ N ∧ N ≤ 4) :
    s_ConjugatePauli N x z p k a b c = some (outG (led h (gA h k a b) (gB h k a b) ⟨(N, x, z, p), hp, rfl⟩)) := by
  obtain ⟨hx, hz, hpp⟩ := vP_sm hp
  unfold s_ConjugatePauli
  simp only [s_valid, s_ivg, s_clif, h1, h2, hp, bO_some, Bool.not_true, br_false, s_ConjugatePauli_j1]
  have := led_loop (N := N) (fun m v q => s_ConjugatePauli_l1 N x z k a b c m v q.1 q.2.1 q.2.2.1 q.2.2.2) (fun q => some (q.1, q.2.1, q.2.2.1, q.2.2.2, true)) h (gA h k a b) (gB h k a b) x z p (fun m v q hv => ?_) (fun m q => ?_)
  · rw [one_ph h hpp] at this
    exact this
  · show s_ConjugatePauli_l1 N x z k a b c (m + 1) (v : Int) q.q.1 q.q.2.1 q.q.2.2.1 q.q.2.2.2 = _
    rw [s_ConjugatePauli_l1]
    have hlt : (v : Int) < N := by omega
    have h0 : ¬ (v : Int) < 0 := by omega
    obtain ⟨g1, g2, _, _⟩ := img_g h h1 h2 hv
    have hw : IntKind.wrap .i64 ((v : Int) + 1) = ((v + 1 : Nat) : Int) := by rw [w64 (by omega) (by omega)]; omega
    simp only [hlt, decide_true, br_true, u64_s (n := (v : Int)) (by omega), h0, not_false_eq_true, gd_true, g1, g2, bO_some, s_ConjugatePauli_j8, s_ConjugatePauli_j7, hw, bit_eq hx (by omega : v < 4), bit_eq hz (by omega : v < 4), (mulG _ _).1, outG]
    unfold Gp.pw
    cases bt x v <;> cases bt z v <;> simp only [br_true, br_false, Bool.false_eq_true, if_true, if_false, (mulG _ _).1, outG, bO_some]
  · show s_ConjugatePauli_l1 N x z k a b c (m + 1) N q.q.1 q.q.2.1 q.q.2.2.1 q.q.2.2.2 = _
    rw [s_ConjugatePauli_l1]
    have hlt : ¬ N < N := by omega
    simp only [hlt, decide_false, br_false, s_ConjugatePauli_j2]
/-- The rows of a tableau. -/
def rwG {N : Int} (h : 1 ≤ N ∧ N ≤ 4) (l : List Q4) (j : Nat) : Gp N := match l[j]? with | some q => toG h q | none => Gp.one h
def rwB {N : Int} (h : 1 ≤ N ∧ N ≤ 4) (l : List Q4) (j : Nat) : Gp N := rwG h l (N.toNat + j)
theorem rwG_q {N : Int} (h : 1 ≤ N ∧ N ≤ 4) {l : List Q4} (ht : tB N l = true) {j : Nat} (hj : j < l.length) : l[j]? = some (rwG h l j).q := by
  have hq := List.getElem?_eq_getElem hj
  obtain ⟨e, g⟩ := row_vP ht hq
  unfold rwG
  rw [hq]
  simp only
  rw [toG_q h g e]
theorem row_cP {N : Int} {l : List Q4} (h : tB N l = true) {i k : Nat} {r q : Q4} (hr : l[i]? = some r) (hq : l[k]? = some q) (hik : i < k) (hk : k < l.length) : cP r q = !decide ((k : Int) = (i : Int) + N) := by
  obtain ⟨h1, h2, h3⟩ := tB_inv2 h
  have hb := h3 k hk
  rw [rowB_eq hq] at hb
  simp only [Bool.and_eq_true, List.all_eq_true, List.mem_range] at hb
  have hc := hb.2.2 i hik
  unfold cell4 at hc
  rw [hr] at hc
  simp only at hc
  cases hcp : cP r q <;> cases hd : decide ((k : Int) = (i : Int) + N) <;> rw [hcp, hd] at hc <;> first | rfl | cases hc
theorem tab_fam {N : Int} (h : 1 ≤ N ∧ N ≤ 4) {l : List Q4} (ht : tB N l = true) : Fam h N.toNat (rwG h l) (rwB h l) := by
  obtain ⟨_, hlen, h3⟩ := tB_inv2 ht
  have lt : ∀ {j}, j < 2 * N.toNat → j < l.length := fun hj => by omega
  have herm : ∀ j, j < 2 * N.toNat → rwG h l j * rwG h l j = Gp.one h := fun j hj => by
    refine (Gp.sq_iff h _).1 ?_
    exact (rowB_herm (h3 j (lt hj)) (rwG_q h ht (lt hj))).2
  have cm : ∀ i k, i < k → k < 2 * N.toNat → k ≠ i + N.toNat → rwG h l i * rwG h l k = rwG h l k * rwG h l i := fun i k hik hk hne => by
    refine Gp.comm ?_
    rw [row_cP ht (rwG_q h ht (lt (by omega))) (rwG_q h ht (lt hk)) hik (lt hk)]
    have : decide ((k : Int) = (i : Int) + N) = false := decide_eq_false (by omega)
    rw [this]; rfl
  refine ⟨fun j hj => herm j (by omega), fun j hj => herm _ (by omega), fun j hj => ?_, fun i j hi hj hne => ?_, fun i j hi hj hne => ?_, fun i j hi hj hne => ?_⟩
  · refine Gp.anti ?_
    rw [cP_symm]
    have hk : N.toNat + j < 2 * N.toNat := by omega
    show cP (rwG h l j).q (rwG h l (N.toNat + j)).q = false
    rw [row_cP ht (rwG_q h ht (lt (by omega))) (rwG_q h ht (lt hk)) (by omega) (lt hk)]
    have : decide (((N.toNat + j : Nat) : Int) = (j : Int) + N) = true := decide_eq_true (by omega)
    rw [this]; rfl
  · rcases Nat.lt_or_gt_of_ne hne with hl | hl
    · exact cm i j hl (by omega) (by omega)
    · exact (cm j i hl (by omega) (by omega)).symm
  · show rwG h l (N.toNat + i) * rwG h l (N.toNat + j) = rwG h l (N.toNat + j) * rwG h l (N.toNat + i)
    rcases Nat.lt_or_gt_of_ne hne with hl | hl
    · exact cm _ _ (by omega) (by omega) (by omega)
    · exact (cm _ _ (by omega) (by omega) (by omega)).symm
  · exact cm i (N.toNat + j) (by omega) (by omega) (by omega)
/-- The images of a gate stand to each other as X and Z do. -/
def famOk (N : Nat) (k a b : Int) : Bool := (List.range N).all fun i => (hP (iQ N k a b i false) && (hP (iQ N k a b i true) && !cP (iQ N k a b i true) (iQ N k a b i false))) && (List.range N).all fun j => i == j || (cP (iQ N k a b i false) (iQ N k a b j false) && (cP (iQ N k a b i true) (iQ N k a b j true) && cP (iQ N k a b i false) (iQ N k a b j true)))
theorem fam_fin : ∀ k : Fin 12, ∀ a b : Fin 4, ∀ N : Fin 5, (clif k.val && ivg k.val a.val b.val 0 N.val) = true → famOk N.val k.val a.val b.val = true := by decide +kernel
theorem gate_fam {k a b c N : Int} (h : 1 ≤ N ∧ N ≤ 4) (h1 : clif k = true) (h2 : ivg k a b c N = true) : Fam h N.toNat (gA h k a b) (gB h k a b) := by
  obtain ⟨rfl, d1, d2, d3, _⟩ := gate_dom h1 h2
  have hf : famOk N.toNat k a b = true := by
    obtain ⟨k, rfl⟩ := fin_of' (n := 12) d1
    obtain ⟨a, rfl⟩ := fin_of' (n := 4) d2
    obtain ⟨b, rfl⟩ := fin_of' (n := 4) d3
    obtain ⟨N, rfl⟩ := fin_of' (n := 5) (x := N) (by omega)
    exact fam_fin k a b N (by rw [h1, h2]; rfl)
  unfold famOk at hf
  have hN : ((N.toNat : Nat) : Int) = N := by omega
  simp only [hN, List.all_eq_true, List.mem_range, Bool.and_eq_true, Bool.not_eq_true', Bool.or_eq_true, beq_iff_eq] at hf
  have eA : ∀ j, j < N.toNat → (gA h k a b j).q = iQ N k a b j false := fun j hj => (img_g h h1 h2 hj).2.2.1
  have eB : ∀ j, j < N.toNat → (gB h k a b j).q = iQ N k a b j true := fun j hj => (img_g h h1 h2 hj).2.2.2
  have pr : ∀ i j, i < N.toNat → j < N.toNat → i ≠ j → cP (iQ N k a b i false) (iQ N k a b j false) = true ∧ cP (iQ N k a b i true) (iQ N k a b j true) = true ∧ cP (iQ N k a b i false) (iQ N k a b j true) = true := fun i j hi hj hne => by
    rcases (hf i hi).2 j hj with e | e
    · exact absurd e hne
    · exact e
  exact ⟨fun j hj => (Gp.sq_iff h _).1 (by rw [eA j hj]; exact (hf j hj).1.1), fun j hj => (Gp.sq_iff h _).1 (by rw [eB j hj]; exact (hf j hj).1.2.1), fun j hj => Gp.anti (by rw [eA j hj, eB j hj]; exact (hf j hj).1.2.2),
    fun i j hi hj hne => Gp.comm (by rw [eA i hi, eA j hj]; exact (pr i j hi hj hne).1), fun i j hi hj hne => Gp.comm (by rw [eB i hi, eB j hj]; exact (pr i j hi hj hne).2.1), fun i j hi hj hne => Gp.comm (by rw [eA i hi, eB j hj]; exact (pr i j hi hj hne).2.2)⟩
end Go.Proofs.Ytcclapenpaediaa
