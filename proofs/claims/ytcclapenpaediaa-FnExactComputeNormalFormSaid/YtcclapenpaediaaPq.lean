/- Plain laws: Paulis on some qubits as a group; products of rows. -/
import Derived.Test.YtcclapenpaediaaPm
namespace Go.Proofs.Ytcclapenpaediaa
open Go.RowKit
set_option maxRecDepth 100000
set_option linter.unusedVariables false
set_option linter.unusedSimpArgs false
/-- The valid Paulis on N qubits. -/
structure Gp (N : Int) where
  q : Q4
  v : vP q = true
  n : q.1 = N
theorem Gp.ext {N : Int} {a b : Gp N} (h : a.q = b.q) : a = b := by
  cases a; cases b; simp only at h; subst h; rfl
instance {N : Int} : Mul (Gp N) := ⟨fun a b => ⟨mulQ a.q b.q, mulQ_vP a.v b.v (a.n.trans b.n.symm), a.n⟩⟩
theorem Gp.mul_q {N : Int} (a b : Gp N) : (a * b).q = mulQ a.q b.q := rfl
theorem xo_assoc (a b c : Int) : xo (xo a b) c = xo a (xo b c) := by
  unfold xo; simp only [Int.toNat_natCast, Nat.xor_assoc]
theorem xo_comm (a b : Int) : xo a b = xo b a := by unfold xo; rw [Nat.xor_comm]
theorem xo_self (a : Int) : xo a a = 0 := by unfold xo; simp
theorem xo_zero {a : Int} (h : 0 ≤ a) : xo a 0 = a := by unfold xo; simp; omega
theorem zero_xo {a : Int} (h : 0 ≤ a) : xo 0 a = a := by unfold xo; simp; omega
theorem Gp.sm {N : Int} (a : Gp N) : Sm a.q.2.1 ∧ Sm a.q.2.2.1 ∧ (0 ≤ a.q.2.2.2 ∧ a.q.2.2.2 ≤ 3) := vP_sm (n := a.q.1) a.v
theorem q4_ext {a b : Q4} (h0 : a.1 = b.1) (h1 : a.2.1 = b.2.1) (h2 : a.2.2.1 = b.2.2.1) (h3 : a.2.2.2 = b.2.2.2) : a = b := by
  obtain ⟨a0, a1, a2, a3⟩ := a; obtain ⟨b0, b1, b2, b3⟩ := b
  simp only at h0 h1 h2 h3; subst h0 h1 h2 h3; rfl
theorem Gp.assoc {N : Int} (a b c : Gp N) : a * b * c = a * (b * c) := by
  obtain ⟨a1, a2, a3⟩ := a.sm; obtain ⟨b1, b2, b3⟩ := b.sm; obtain ⟨c1, c2, c3⟩ := c.sm
  refine Gp.ext (q4_ext rfl (xo_assoc _ _ _) (xo_assoc _ _ _) ?_)
  show ((a.q.2.2.2 + b.q.2.2.2 + 2 * pc (an a.q.2.2.1 b.q.2.1)) % 4 + c.q.2.2.2 + 2 * pc (an (xo a.q.2.2.1 b.q.2.2.1) c.q.2.1)) % 4 =
    (a.q.2.2.2 + (b.q.2.2.2 + c.q.2.2.2 + 2 * pc (an b.q.2.2.1 c.q.2.1)) % 4 + 2 * pc (an a.q.2.2.1 (xo b.q.2.1 c.q.2.1))) % 4
  have e1 := pc_xo a2 b1 c1
  have e2 := pc_xo c1 a2 b2
  rw [an_comm c.q.2.1, an_comm c.q.2.1, an_comm c.q.2.1] at e2
  omega
/-- A phase. -/
def Gp.ph {N : Int} (k : Int) (a : Gp N) : Gp N := ⟨(a.q.1, a.q.2.1, a.q.2.2.1, (a.q.2.2.2 + k) % 4), by
  obtain ⟨h1, h2, h3, _⟩ := vP_iff.1 (show vP (a.q.1, a.q.2.1, a.q.2.2.1, a.q.2.2.2) = true from a.v)
  exact vP_iff.2 ⟨h1, h2, h3, by omega⟩, a.n⟩
theorem Gp.ph_q {N : Int} (k : Int) (a : Gp N) : (a.ph k).q = (a.q.1, a.q.2.1, a.q.2.2.1, (a.q.2.2.2 + k) % 4) := rfl
theorem Gp.ph_mod {N : Int} {j k : Int} (a : Gp N) (h : (j - k) % 4 = 0) : a.ph j = a.ph k := by
  refine Gp.ext (q4_ext rfl rfl rfl ?_)
  show (a.q.2.2.2 + j) % 4 = (a.q.2.2.2 + k) % 4
  omega
theorem Gp.ph_zero {N : Int} (a : Gp N) : a.ph 0 = a := by
  refine Gp.ext (q4_ext rfl rfl rfl ?_)
  have := a.sm.2.2
  show (a.q.2.2.2 + 0) % 4 = a.q.2.2.2
  omega
theorem Gp.ph_ph {N : Int} (j k : Int) (a : Gp N) : (a.ph j).ph k = a.ph (j + k) := by
  refine Gp.ext (q4_ext rfl rfl rfl ?_)
  show ((a.q.2.2.2 + j) % 4 + k) % 4 = (a.q.2.2.2 + (j + k)) % 4
  omega
theorem Gp.ph_mul {N : Int} (k : Int) (a b : Gp N) : a.ph k * b = (a * b).ph k := by
  refine Gp.ext (q4_ext rfl rfl rfl ?_)
  show ((a.q.2.2.2 + k) % 4 + b.q.2.2.2 + 2 * pc (an a.q.2.2.1 b.q.2.1)) % 4 = ((a.q.2.2.2 + b.q.2.2.2 + 2 * pc (an a.q.2.2.1 b.q.2.1)) % 4 + k) % 4
  omega
theorem Gp.mul_ph {N : Int} (k : Int) (a b : Gp N) : a * b.ph k = (a * b).ph k := by
  refine Gp.ext (q4_ext rfl rfl rfl ?_)
  show (a.q.2.2.2 + (b.q.2.2.2 + k) % 4 + 2 * pc (an a.q.2.2.1 b.q.2.1)) % 4 = ((a.q.2.2.2 + b.q.2.2.2 + 2 * pc (an a.q.2.2.1 b.q.2.1)) % 4 + k) % 4
  omega
theorem Gp.ph_inj {N : Int} {j k : Int} {a : Gp N} (h : a.ph j = a.ph k) : (j - k) % 4 = 0 := by
  have h : (a.q.2.2.2 + j) % 4 = (a.q.2.2.2 + k) % 4 := congrArg (fun x : Gp N => x.q.2.2.2) h
  omega
theorem Gp.comm {N : Int} {a b : Gp N} (h : cP a.q b.q = true) : a * b = b * a := by
  refine Gp.ext (q4_ext (a.n.trans b.n.symm) (xo_comm _ _) (xo_comm _ _) ?_)
  show (a.q.2.2.2 + b.q.2.2.2 + 2 * pc (an a.q.2.2.1 b.q.2.1)) % 4 = (b.q.2.2.2 + a.q.2.2.2 + 2 * pc (an b.q.2.2.1 a.q.2.1)) % 4
  have h := of_decide_eq_true h
  rw [an_comm b.q.2.2.1]
  omega
theorem Gp.anti {N : Int} {a b : Gp N} (h : cP a.q b.q = false) : a * b = (b * a).ph 2 := by
  refine Gp.ext (q4_ext (a.n.trans b.n.symm) (xo_comm _ _) (xo_comm _ _) ?_)
  show (a.q.2.2.2 + b.q.2.2.2 + 2 * pc (an a.q.2.2.1 b.q.2.1)) % 4 = ((b.q.2.2.2 + a.q.2.2.2 + 2 * pc (an b.q.2.2.1 a.q.2.1)) % 4 + 2) % 4
  have h := of_decide_eq_false h
  rw [an_comm b.q.2.2.1]
  omega
theorem Gp.comm_iff {N : Int} {a b : Gp N} : cP a.q b.q = true ↔ a * b = b * a := by
  refine ⟨Gp.comm, fun h => ?_⟩
  cases hc : cP a.q b.q with
  | true => rfl
  | false =>
    have e := Gp.anti hc
    rw [h] at e
    have := Gp.ph_inj (j := 0) (k := 2) (a := b * a) (by rw [Gp.ph_zero]; exact e)
    omega
def Gp.one {N : Int} (h : 1 ≤ N ∧ N ≤ 4) : Gp N := ⟨(N, 0, 0, 0), by rcases four h with rfl | rfl | rfl | rfl <;> rfl, rfl⟩
theorem an_zero (x : Int) : an x 0 = 0 := by unfold an; simp
theorem zero_an (x : Int) : an 0 x = 0 := by unfold an; simp
theorem pc_zero : pc 0 = 0 := rfl
theorem Gp.mul_one {N : Int} (h : 1 ≤ N ∧ N ≤ 4) (a : Gp N) : a * Gp.one h = a := by
  obtain ⟨h1, h2, h3⟩ := a.sm
  refine Gp.ext (q4_ext rfl (xo_zero h1.1) (xo_zero h2.1) ?_)
  show (a.q.2.2.2 + 0 + 2 * pc (an a.q.2.2.1 0)) % 4 = a.q.2.2.2
  rw [an_zero, pc_zero]; omega
theorem Gp.one_mul {N : Int} (h : 1 ≤ N ∧ N ≤ 4) (a : Gp N) : Gp.one h * a = a := by
  obtain ⟨h1, h2, h3⟩ := a.sm
  refine Gp.ext (q4_ext a.n.symm (zero_xo h1.1) (zero_xo h2.1) ?_)
  show (0 + a.q.2.2.2 + 2 * pc (an 0 a.q.2.1)) % 4 = a.q.2.2.2
  rw [zero_an, pc_zero]; omega
theorem Gp.sq_iff {N : Int} (h : 1 ≤ N ∧ N ≤ 4) (a : Gp N) : hP a.q = true ↔ a * a = Gp.one h := by
  unfold hP
  rw [a.v, Bool.true_and, decide_eq_true_eq]
  constructor
  · intro hp
    refine Gp.ext (q4_ext a.n (xo_self _) (xo_self _) ?_)
    show (a.q.2.2.2 + a.q.2.2.2 + 2 * pc (an a.q.2.2.1 a.q.2.1)) % 4 = 0
    rw [an_comm]
    omega
  · intro he
    have he : (a.q.2.2.2 + a.q.2.2.2 + 2 * pc (an a.q.2.2.1 a.q.2.1)) % 4 = 0 := congrArg (fun x : Gp N => x.q.2.2.2) he
    rw [an_comm] at he
    omega
/-- A factor, if a bit is set. -/
def Gp.pw {N : Int} (acc a : Gp N) (b : Bool) : Gp N := if b then acc * a else acc
def bt (x : Int) (j : Nat) : Bool := x.toNat.testBit j
theorem bt_xo (x y : Int) (j : Nat) : bt (xo x y) j = (bt x j ^^ bt y j) := by
  unfold bt xo; rw [Int.toNat_natCast, Nat.testBit_xor]
/-- The product of the rows that two masks pick. -/
def prd {N : Int} (h : 1 ≤ N ∧ N ≤ 4) (A B : Nat → Gp N) (x z : Int) : Nat → Gp N
  | 0 => Gp.one h
  | k + 1 => ((prd h A B x z k).pw (A k) (bt x k)).pw (B k) (bt z k)
/-- Rows that stand to each other as X and Z do. -/
structure Fam {N : Int} (h : 1 ≤ N ∧ N ≤ 4) (n : Nat) (A B : Nat → Gp N) : Prop where
  aa : ∀ j, j < n → A j * A j = Gp.one h
  bb : ∀ j, j < n → B j * B j = Gp.one h
  ba : ∀ j, j < n → B j * A j = (A j * B j).ph 2
  xaa : ∀ i j, i < n → j < n → i ≠ j → A i * A j = A j * A i
  xbb : ∀ i j, i < n → j < n → i ≠ j → B i * B j = B j * B i
  xab : ∀ i j, i < n → j < n → i ≠ j → A i * B j = B j * A i
theorem pw_comm {N : Int} {acc a c : Gp N} (b : Bool) (h1 : c * acc = acc * c) (h2 : c * a = a * c) : c * acc.pw a b = acc.pw a b * c := by
  unfold Gp.pw
  cases b
  · simpa using h1
  · simp only [if_true]
    rw [← Gp.assoc, h1, Gp.assoc, h2, ← Gp.assoc]
theorem prd_comm {N : Int} (h : 1 ≤ N ∧ N ≤ 4) (A B : Nat → Gp N) (x z : Int) (c : Gp N) : ∀ k, (∀ j, j < k → c * A j = A j * c ∧ c * B j = B j * c) → c * prd h A B x z k = prd h A B x z k * c
  | 0, _ => by simp only [prd]; rw [Gp.one_mul, Gp.mul_one]
  | k + 1, hj => by
    have ih := prd_comm h A B x z c k (fun j hj' => hj j (by omega))
    exact pw_comm _ (pw_comm _ ih (hj k (by omega)).1) (hj k (by omega)).2
def cntZ (z x : Int) : Nat → Int
  | 0 => 0
  | k + 1 => cntZ z x k + (if bt z k && bt x k then 1 else 0)
theorem pair_mul {N : Int} (h : 1 ≤ N ∧ N ≤ 4) {a b p q : Gp N} (aa : a * a = Gp.one h) (bb : b * b = Gp.one h) (ba : b * a = (a * b).ph 2) (aq : a * q = q * a) (bq : b * q = q * b) (x z x' z' : Bool) :
    ((p.pw a x).pw b z) * ((q.pw a x').pw b z') = (((p * q).pw a (x ^^ x')).pw b (z ^^ z')).ph (if z && x' then 2 else 0) := by
  have aaR : ∀ c : Gp N, a * (a * c) = c := fun c => by rw [← Gp.assoc, aa, Gp.one_mul]
  have bbR : ∀ c : Gp N, b * (b * c) = c := fun c => by rw [← Gp.assoc, bb, Gp.one_mul]
  have baR : ∀ c : Gp N, b * (a * c) = (a * (b * c)).ph 2 := fun c => by rw [← Gp.assoc, ba, Gp.ph_mul, Gp.assoc]
  have aqR : ∀ c : Gp N, a * (q * c) = q * (a * c) := fun c => by rw [← Gp.assoc, aq, Gp.assoc]
  have bqR : ∀ c : Gp N, b * (q * c) = q * (b * c) := fun c => by rw [← Gp.assoc, bq, Gp.assoc]
  have o1 : ∀ c : Gp N, c * Gp.one h = c := Gp.mul_one h
  have p22 : ∀ c : Gp N, (c.ph 2).ph 2 = c := fun c => by rw [Gp.ph_ph, Gp.ph_mod c (k := 0) (by decide), Gp.ph_zero]
  unfold Gp.pw
  cases x <;> cases z <;> cases x' <;> cases z' <;>
    simp only [Bool.false_eq_true, if_true, if_false, Bool.xor_false, Bool.xor_true, Bool.false_xor, Bool.true_xor, Bool.not_false, Bool.not_true, Bool.and_true, Bool.and_false, Bool.true_and, Bool.false_and, Gp.assoc, aa, bb, ba, aq, bq, aaR, bbR, baR, aqR, bqR, o1, Gp.ph_zero, Gp.mul_ph, Gp.ph_mul, p22]
theorem prd_mul {N : Int} {h : 1 ≤ N ∧ N ≤ 4} {n : Nat} {A B : Nat → Gp N} (F : Fam h n A B) (x z x' z' : Int) : ∀ k, k ≤ n →
    prd h A B x z k * prd h A B x' z' k = (prd h A B (xo x x') (xo z z') k).ph (2 * cntZ z x' k)
  | 0, _ => by simp only [prd, cntZ]; rw [Gp.one_mul, Int.mul_zero, Gp.ph_zero]
  | k + 1, hk => by
    have ih := prd_mul F x z x' z' k (by omega)
    have ca : A k * prd h A B x' z' k = prd h A B x' z' k * A k := prd_comm h A B x' z' (A k) k fun j hj => ⟨F.xaa k j (by omega) (by omega) (by omega), F.xab k j (by omega) (by omega) (by omega)⟩
    have cb : B k * prd h A B x' z' k = prd h A B x' z' k * B k := prd_comm h A B x' z' (B k) k fun j hj => ⟨(F.xab j k (by omega) (by omega) (by omega)).symm, F.xbb k j (by omega) (by omega) (by omega)⟩
    simp only [prd, cntZ]
    rw [pair_mul h (F.aa k (by omega)) (F.bb k (by omega)) (F.ba k (by omega)) ca cb, ih, bt_xo, bt_xo]
    have e : ∀ (k : Int) (c a : Gp N) (b : Bool), (c.ph k).pw a b = (c.pw a b).ph k := fun k c a b => by
      unfold Gp.pw; cases b <;> simp [Gp.ph_mul]
    rw [e, e, Gp.ph_ph]
    refine Gp.ph_mod _ ?_
    cases (bt z k && bt x' k) <;> simp <;> omega
/-- What p becomes if X and Z of each qubit become these rows. -/
def led {N : Int} (h : 1 ≤ N ∧ N ≤ 4) (A B : Nat → Gp N) (p : Gp N) : Gp N := (prd h A B p.q.2.1 p.q.2.2.1 N.toNat).ph p.q.2.2.2
theorem cntZ4 : ∀ z x : Fin 16, cntZ (z.val : Int) (x.val : Int) 4 = pc (an (z.val : Int) (x.val : Int)) := by decide +kernel
theorem bt_hi {x : Int} {n j : Nat} (h : 0 ≤ x ∧ x < 2 ^ n) (hj : n ≤ j) : bt x j = false := by
  unfold bt
  refine Nat.testBit_lt_two_pow ?_
  have e : ((2 ^ n : Nat) : Int) = 2 ^ n := by simp
  have : 2 ^ n ≤ 2 ^ j := Nat.pow_le_pow_right (by omega) hj
  omega
theorem cntZ_hi {z x : Int} {n : Nat} (h : 0 ≤ z ∧ z < 2 ^ n) : ∀ d, cntZ z x (n + d) = cntZ z x n
  | 0 => rfl
  | d + 1 => by
    show cntZ z x (n + d) + (if bt z (n + d) && bt x (n + d) then 1 else 0) = _
    rw [cntZ_hi h d, bt_hi h (Nat.le_add_right n d)]
    simp
theorem cntZ_pc {N : Int} (a b : Gp N) : cntZ a.q.2.2.1 b.q.2.1 N.toNat = pc (an a.q.2.2.1 b.q.2.1) := by
  obtain ⟨h1, h2, h3, _⟩ := vP_iff.1 (show vP (a.q.1, a.q.2.1, a.q.2.2.1, a.q.2.2.2) = true from a.v)
  rw [a.n] at h1 h3
  have e := cntZ_hi (x := b.q.2.1) h3 (4 - N.toNat)
  rw [show N.toNat + (4 - N.toNat) = 4 by omega] at e
  rw [← e]
  obtain ⟨z, hz⟩ := a.sm.2.1.fin
  obtain ⟨x, hx⟩ := b.sm.1.fin
  rw [hz, hx]
  exact cntZ4 z x
theorem led_mul {N : Int} {h : 1 ≤ N ∧ N ≤ 4} {A B : Nat → Gp N} (F : Fam h N.toNat A B) (a b : Gp N) : led h A B a * led h A B b = led h A B (a * b) := by
  unfold led
  rw [Gp.ph_mul, Gp.mul_ph, prd_mul F _ _ _ _ _ (Nat.le_refl _), cntZ_pc, Gp.ph_ph, Gp.ph_ph]
  show _ = Gp.ph ((a.q.2.2.2 + b.q.2.2.2 + 2 * pc (an a.q.2.2.1 b.q.2.1)) % 4) (prd h A B (xo a.q.2.1 b.q.2.1) (xo a.q.2.2.1 b.q.2.2.1) N.toNat)
  exact Gp.ph_mod _ (by omega)
theorem led_ph {N : Int} {h : 1 ≤ N ∧ N ≤ 4} {A B : Nat → Gp N} (k : Int) (a : Gp N) : led h A B (a.ph k) = (led h A B a).ph k := by
  unfold led
  rw [Gp.ph_ph]
  exact Gp.ph_mod _ (by simp only [Gp.ph_q]; omega)
theorem prd_zero {N : Int} (h : 1 ≤ N ∧ N ≤ 4) (A B : Nat → Gp N) : ∀ k, prd h A B 0 0 k = Gp.one h
  | 0 => rfl
  | k + 1 => by simp [prd, prd_zero h A B k, Gp.pw, bt]
theorem led_one {N : Int} {h : 1 ≤ N ∧ N ≤ 4} {A B : Nat → Gp N} : led h A B (Gp.one h) = Gp.one h := by
  show Gp.ph 0 (prd h A B 0 0 N.toNat) = _
  rw [Gp.ph_zero, prd_zero]
/-- Such a map keeps what commutes and what is Hermitian. -/
theorem led_comm {N : Int} {h : 1 ≤ N ∧ N ≤ 4} {A B : Nat → Gp N} (F : Fam h N.toNat A B) (a b : Gp N) : cP (led h A B a).q (led h A B b).q = cP a.q b.q := by
  cases hc : cP a.q b.q with
  | true => exact Gp.comm_iff.2 (by rw [led_mul F, led_mul F, Gp.comm hc])
  | false =>
    cases hd : cP (led h A B a).q (led h A B b).q with
    | false => rfl
    | true =>
      have e := Gp.comm hd
      rw [led_mul F, led_mul F, Gp.anti hc, led_ph] at e
      have := Gp.ph_inj (j := 2) (k := 0) (by rw [Gp.ph_zero]; exact e)
      omega
theorem one_ph_herm {N : Int} (h : 1 ≤ N ∧ N ≤ 4) {k : Int} (e : (Gp.one h).ph k = Gp.one h) : k % 4 = 0 := by
  have := Gp.ph_inj (j := k) (k := 0) (by rw [Gp.ph_zero]; exact e)
  omega
theorem sq_scalar {N : Int} (h : 1 ≤ N ∧ N ≤ 4) (a : Gp N) : ∃ k, a * a = (Gp.one h).ph k := by
  refine ⟨a.q.2.2.2 + a.q.2.2.2 + 2 * pc (an a.q.2.2.1 a.q.2.1), Gp.ext (q4_ext a.n (xo_self _) (xo_self _) ?_)⟩
  show (a.q.2.2.2 + a.q.2.2.2 + 2 * pc (an a.q.2.2.1 a.q.2.1)) % 4 = (0 + (a.q.2.2.2 + a.q.2.2.2 + 2 * pc (an a.q.2.2.1 a.q.2.1))) % 4
  omega
theorem led_herm {N : Int} {h : 1 ≤ N ∧ N ≤ 4} {A B : Nat → Gp N} (F : Fam h N.toNat A B) (a : Gp N) : hP (led h A B a).q = hP a.q := by
  rw [Bool.eq_iff_iff, Gp.sq_iff h, Gp.sq_iff h, led_mul F]
  constructor
  · intro e
    obtain ⟨k, hk⟩ := sq_scalar h a
    rw [hk, led_ph, led_one] at e
    rw [hk]; exact e
  · intro e; rw [e, led_one]
/-- One map after the other. -/
theorem led_pw {N : Int} {h : 1 ≤ N ∧ N ≤ 4} {A B : Nat → Gp N} (F : Fam h N.toNat A B) (acc a : Gp N) (b : Bool) : led h A B (acc.pw a b) = (led h A B acc).pw (led h A B a) b := by
  unfold Gp.pw
  cases b
  · rfl
  · simp only [if_true]; rw [led_mul F]
theorem led_prd {N : Int} {h : 1 ≤ N ∧ N ≤ 4} {A B : Nat → Gp N} (F : Fam h N.toNat A B) (C D : Nat → Gp N) (x z : Int) : ∀ k, led h A B (prd h C D x z k) = prd h (fun j => led h A B (C j)) (fun j => led h A B (D j)) x z k
  | 0 => led_one
  | k + 1 => by simp only [prd]; rw [led_pw F, led_pw F, led_prd F C D x z k]
theorem led_led {N : Int} {h : 1 ≤ N ∧ N ≤ 4} {A B : Nat → Gp N} (F : Fam h N.toNat A B) (C D : Nat → Gp N) (p : Gp N) : led h A B (led h C D p) = led h (fun j => led h A B (C j)) (fun j => led h A B (D j)) p := by
  show led h A B ((prd h C D p.q.2.1 p.q.2.2.1 N.toNat).ph p.q.2.2.2) = _
  rw [led_ph, led_prd F]
  rfl
/-- The family of what the rows become. -/
theorem Fam.led {N : Int} {h : 1 ≤ N ∧ N ≤ 4} {A B : Nat → Gp N} (F : Fam h N.toNat A B) {n : Nat} {C D : Nat → Gp N} (K : Fam h n C D) : Fam h n (fun j => led h A B (C j)) (fun j => led h A B (D j)) :=
  ⟨fun j hj => by rw [led_mul F, K.aa j hj, led_one], fun j hj => by rw [led_mul F, K.bb j hj, led_one], fun j hj => by rw [led_mul F, led_mul F, K.ba j hj, led_ph],
   fun i j hi hj hne => by rw [led_mul F, led_mul F, K.xaa i j hi hj hne], fun i j hi hj hne => by rw [led_mul F, led_mul F, K.xbb i j hi hj hne], fun i j hi hj hne => by rw [led_mul F, led_mul F, K.xab i j hi hj hne]⟩
theorem prd_congr {N : Int} (h : 1 ≤ N ∧ N ≤ 4) {A B C D : Nat → Gp N} (x z : Int) : ∀ k, (∀ j, j < k → A j = C j ∧ B j = D j) → prd h A B x z k = prd h C D x z k
  | 0, _ => rfl
  | k + 1, hj => by simp only [prd]; rw [prd_congr h x z k (fun j hj' => hj j (by omega)), (hj k (by omega)).1, (hj k (by omega)).2]
theorem led_congr {N : Int} (h : 1 ≤ N ∧ N ≤ 4) {A B C D : Nat → Gp N} (p : Gp N) (hj : ∀ j, j < N.toNat → A j = C j ∧ B j = D j) : led h A B p = led h C D p := by
  unfold led; rw [prd_congr h _ _ _ hj]
end Go.Proofs.Ytcclapenpaediaa
