/- Joined texts: Pf Pg. -/
import Derived.Test.YtfjopjalhllplaaGreatK8
import Derived.Test.YtfjopjalhllplaaGreatK9
import Derived.Test.YtfjopjalhllplaaGreatK5
/- Joined texts: Pq Pf. -/
/- Plain laws: Paulis on some qubits as a group; products of rows. -/
namespace Go.Proofs.YtfjopjalhllplaaGreat
open Go.RowKit
set_option maxRecDepth 100000
set_option linter.unusedVariables false
set_option linter.unusedSimpArgs false
/-- The valid Paulis on N qubits. -/
structure Gp (N : Int) where
 q : Q4
 v : vP q = true
 n : q.1 = N
theorem Gp.ext {N : Int} {a b : Gp N} (h : a.q = b.q) : a = b := by
 cases a; cases b; simp only at h; subst h; rfl
instance {N : Int} : Mul (Gp N) := ⟨fun a b => ⟨mulQ a.q b.q, mulQ_vP a.v b.v (a.n.trans b.n.symm), a.n⟩⟩
theorem xo_assoc (a b c : Int) : xo (xo a b) c = xo a (xo b c) := by
 unfold xo; simp only [Int.toNat_natCast, Nat.xor_assoc]
theorem xo_comm (a b : Int) : xo a b = xo b a := by unfold xo; rw [Nat.xor_comm]
theorem xo_self (a : Int) : xo a a = 0 := by unfold xo; simp
theorem xo_zero {a : Int} (h : 0 ≤ a) : xo a 0 = a := by unfold xo; simp; omega
theorem zero_xo {a : Int} (h : 0 ≤ a) : xo 0 a = a := by unfold xo; simp; omega
theorem Gp.sm {N : Int} (a : Gp N) : Sm a.q.2.1 ∧ Sm a.q.2.2.1 ∧ (0 ≤ a.q.2.2.2 ∧ a.q.2.2.2 ≤ 3) := vP_sm (n := a.q.1) a.v
theorem q4_ext {a b : Q4} (h0 : a.1 = b.1) (h1 : a.2.1 = b.2.1) (h2 : a.2.2.1 = b.2.2.1) (h3 : a.2.2.2 = b.2.2.2) : a = b := by
 obtain ⟨a0, a1, a2, a3⟩ := a; obtain ⟨b0, b1, b2, b3⟩ := b
 simp only at h0 h1 h2 h3; subst h0 h1 h2 h3; rfl
theorem Gp.assoc {N : Int} (a b c : Gp N) : a * b * c = a * (b * c) := by
 obtain ⟨a1, a2, a3⟩ := a.sm; obtain ⟨b1, b2, b3⟩ := b.sm; obtain ⟨c1, c2, c3⟩ := c.sm
 refine Gp.ext (q4_ext rfl (xo_assoc _ _ _) (xo_assoc _ _ _) ?_)
 show ((a.q.2.2.2 + b.q.2.2.2 + 2 * pc (an a.q.2.2.1 b.q.2.1)) % 4 + c.q.2.2.2 + 2 * pc (an (xo a.q.2.2.1 b.q.2.2.1) c.q.2.1)) % 4 =
  (a.q.2.2.2 + (b.q.2.2.2 + c.q.2.2.2 + 2 * pc (an b.q.2.2.1 c.q.2.1)) % 4 + 2 * pc (an a.q.2.2.1 (xo b.q.2.1 c.q.2.1))) % 4
 have e1 := pc_xo a2 b1 c1
 have e2 := pc_xo c1 a2 b2
 rw [an_comm c.q.2.1, an_comm c.q.2.1, an_comm c.q.2.1] at e2
 omega
/-- A phase. -/
def Gp.ph {N : Int} (k : Int) (a : Gp N) : Gp N := ⟨(a.q.1, a.q.2.1, a.q.2.2.1, (a.q.2.2.2 + k) % 4), by
  obtain ⟨h1, h2, h3, _⟩ := vP_iff.1 (show vP (a.q.1, a.q.2.1, a.q.2.2.1, a.q.2.2.2) = true from a.v)
  exact vP_iff.2 ⟨h1, h2, h3, by omega⟩, a.n⟩
theorem Gp.ph_q {N : Int} (k : Int) (a : Gp N) : (a.ph k).q = (a.q.1, a.q.2.1, a.q.2.2.1, (a.q.2.2.2 + k) % 4) := rfl
theorem Gp.ph_mod {N : Int} {j k : Int} (a : Gp N) (h : (j - k) % 4 = 0) : a.ph j = a.ph k := by
 refine Gp.ext (q4_ext rfl rfl rfl ?_)
 show (a.q.2.2.2 + j) % 4 = (a.q.2.2.2 + k) % 4
 omega
theorem Gp.ph_zero {N : Int} (a : Gp N) : a.ph 0 = a := by
 refine Gp.ext (q4_ext rfl rfl rfl ?_)
 have := a.sm.2.2
 show (a.q.2.2.2 + 0) % 4 = a.q.2.2.2
 omega
theorem Gp.ph_ph {N : Int} (j k : Int) (a : Gp N) : (a.ph j).ph k = a.ph (j + k) := by
 refine Gp.ext (q4_ext rfl rfl rfl ?_)
 show ((a.q.2.2.2 + j) % 4 + k) % 4 = (a.q.2.2.2 + (j + k)) % 4
 omega
theorem Gp.ph_mul {N : Int} (k : Int) (a b : Gp N) : a.ph k * b = (a * b).ph k := by
 refine Gp.ext (q4_ext rfl rfl rfl ?_)
 show ((a.q.2.2.2 + k) % 4 + b.q.2.2.2 + 2 * pc (an a.q.2.2.1 b.q.2.1)) % 4 = ((a.q.2.2.2 + b.q.2.2.2 + 2 * pc (an a.q.2.2.1 b.q.2.1)) % 4 + k) % 4
 omega
theorem Gp.mul_ph {N : Int} (k : Int) (a b : Gp N) : a * b.ph k = (a * b).ph k := by
 refine Gp.ext (q4_ext rfl rfl rfl ?_)
 show (a.q.2.2.2 + (b.q.2.2.2 + k) % 4 + 2 * pc (an a.q.2.2.1 b.q.2.1)) % 4 = ((a.q.2.2.2 + b.q.2.2.2 + 2 * pc (an a.q.2.2.1 b.q.2.1)) % 4 + k) % 4
 omega
theorem Gp.ph_inj {N : Int} {j k : Int} {a : Gp N} (h : a.ph j = a.ph k) : (j - k) % 4 = 0 := by
 have h : (a.q.2.2.2 + j) % 4 = (a.q.2.2.2 + k) % 4 := congrArg (fun x : Gp N => x.q.2.2.2) h
 omega
theorem Gp.comm {N : Int} {a b : Gp N} (h : cP a.q b.q = true) : a * b = b * a := by
 refine Gp.ext (q4_ext (a.n.trans b.n.symm) (xo_comm _ _) (xo_comm _ _) ?_)
 show (a.q.2.2.2 + b.q.2.2.2 + 2 * pc (an a.q.2.2.1 b.q.2.1)) % 4 = (b.q.2.2.2 + a.q.2.2.2 + 2 * pc (an b.q.2.2.1 a.q.2.1)) % 4
 have h := of_decide_eq_true h
 rw [an_comm b.q.2.2.1]
 omega
theorem Gp.anti {N : Int} {a b : Gp N} (h : cP a.q b.q = false) : a * b = (b * a).ph 2 := by
 refine Gp.ext (q4_ext (a.n.trans b.n.symm) (xo_comm _ _) (xo_comm _ _) ?_)
 show (a.q.2.2.2 + b.q.2.2.2 + 2 * pc (an a.q.2.2.1 b.q.2.1)) % 4 = ((b.q.2.2.2 + a.q.2.2.2 + 2 * pc (an b.q.2.2.1 a.q.2.1)) % 4 + 2) % 4
 have h := of_decide_eq_false h
 rw [an_comm b.q.2.2.1]
 omega
theorem Gp.comm_iff {N : Int} {a b : Gp N} : cP a.q b.q = true ↔ a * b = b * a := by
 refine ⟨Gp.comm, fun h => ?_⟩
 cases hc : cP a.q b.q with
 | true => rfl
 | false =>
  have e := Gp.anti hc
  rw [h] at e
  have := Gp.ph_inj (j := 0) (k := 2) (a := b * a) (by rw [Gp.ph_zero]; exact e)
  omega
def Gp.one {N : Int} (h : 1 ≤ N ∧ N ≤ 4) : Gp N := ⟨(N, 0, 0, 0), by rcases four h with rfl | rfl | rfl | rfl <;> rfl, rfl⟩
theorem an_zero (x : Int) : an x 0 = 0 := by unfold an; simp
theorem zero_an (x : Int) : an 0 x = 0 := by unfold an; simp
theorem pc_zero : pc 0 = 0 := rfl
theorem Gp.mul_one {N : Int} (h : 1 ≤ N ∧ N ≤ 4) (a : Gp N) : a * Gp.one h = a := by
 obtain ⟨h1, h2, h3⟩ := a.sm
 refine Gp.ext (q4_ext rfl (xo_zero h1.1) (xo_zero h2.1) ?_)
 show (a.q.2.2.2 + 0 + 2 * pc (an a.q.2.2.1 0)) % 4 = a.q.2.2.2
 rw [an_zero, pc_zero]; omega
theorem Gp.one_mul {N : Int} (h : 1 ≤ N ∧ N ≤ 4) (a : Gp N) : Gp.one h * a = a := by
 obtain ⟨h1, h2, h3⟩ := a.sm
 refine Gp.ext (q4_ext a.n.symm (zero_xo h1.1) (zero_xo h2.1) ?_)
 show (0 + a.q.2.2.2 + 2 * pc (an 0 a.q.2.1)) % 4 = a.q.2.2.2
 rw [zero_an, pc_zero]; omega
theorem Gp.sq_iff {N : Int} (h : 1 ≤ N ∧ N ≤ 4) (a : Gp N) : hP a.q = true ↔ a * a = Gp.one h := by
 unfold hP
 rw [a.v, Bool.true_and, decide_eq_true_eq]
 constructor
 ·intro hp
  refine Gp.ext (q4_ext a.n (xo_self _) (xo_self _) ?_)
  show (a.q.2.2.2 + a.q.2.2.2 + 2 * pc (an a.q.2.2.1 a.q.2.1)) % 4 = 0
  rw [an_comm]
  omega
 ·intro he
  have he : (a.q.2.2.2 + a.q.2.2.2 + 2 * pc (an a.q.2.2.1 a.q.2.1)) % 4 = 0 := congrArg (fun x : Gp N => x.q.2.2.2) he
  rw [an_comm] at he
  omega
/-- A factor, if a bit is set. -/
def Gp.pw {N : Int} (acc a : Gp N) (b : Bool) : Gp N := if b then acc * a else acc
def bt (x : Int) (j : Nat) : Bool := x.toNat.testBit j
theorem bt_xo (x y : Int) (j : Nat) : bt (xo x y) j = (bt x j ^^ bt y j) := by
 unfold bt xo; rw [Int.toNat_natCast, Nat.testBit_xor]
/-- The product of the rows that two masks pick. -/
def prd {N : Int} (h : 1 ≤ N ∧ N ≤ 4) (A B : Nat → Gp N) (x z : Int) : Nat → Gp N
 | 0 => Gp.one h
 | k + 1 => ((prd h A B x z k).pw (A k) (bt x k)).pw (B k) (bt z k)
/-- Rows that stand to each other as X and Z do. -/
structure Fam {N : Int} (h : 1 ≤ N ∧ N ≤ 4) (n : Nat) (A B : Nat → Gp N) : Prop where
 aa : ∀ j, j < n → A j * A j = Gp.one h
 bb : ∀ j, j < n → B j * B j = Gp.one h
 ba : ∀ j, j < n → B j * A j = (A j * B j).ph 2
 xaa : ∀ i j, i < n → j < n → i ≠ j → A i * A j = A j * A i
 xbb : ∀ i j, i < n → j < n → i ≠ j → B i * B j = B j * B i
 xab : ∀ i j, i < n → j < n → i ≠ j → A i * B j = B j * A i
theorem pw_comm {N : Int} {acc a c : Gp N} (b : Bool) (h1 : c * acc = acc * c) (h2 : c * a = a * c) : c * acc.pw a b = acc.pw a b * c := by
 unfold Gp.pw
 cases b
 ·simpa using h1
 ·simp only [if_true]
  rw [← Gp.assoc, h1, Gp.assoc, h2, ← Gp.assoc]
theorem prd_comm {N : Int} (h : 1 ≤ N ∧ N ≤ 4) (A B : Nat → Gp N) (x z : Int) (c : Gp N) : ∀ k, (∀ j, j < k → c * A j = A j * c ∧ c * B j = B j * c) → c * prd h A B x z k = prd h A B x z k * c
 | 0, _ => by simp only [prd]; rw [Gp.one_mul, Gp.mul_one]
 | k + 1, hj => by
  have ih := prd_comm h A B x z c k (fun j hj' => hj j (by omega))
  exact pw_comm _ (pw_comm _ ih (hj k (by omega)).1) (hj k (by omega)).2
def cntZ (z x : Int) : Nat → Int
 | 0 => 0
 | k + 1 => cntZ z x k + (if bt z k && bt x k then 1 else 0)
theorem pair_mul {N : Int} (h : 1 ≤ N ∧ N ≤ 4) {a b p q : Gp N} (aa : a * a = Gp.one h) (bb : b * b = Gp.one h) (ba : b * a = (a * b).ph 2) (aq : a * q = q * a) (bq : b * q = q * b) (x z x' z' : Bool) :
  ((p.pw a x).pw b z) * ((q.pw a x').pw b z') = (((p * q).pw a (x ^^ x')).pw b (z ^^ z')).ph (if z && x' then 2 else 0) := by
 have aaR : ∀ c : Gp N, a * (a * c) = c := fun c => by rw [← Gp.assoc, aa, Gp.one_mul]
 have bbR : ∀ c : Gp N, b * (b * c) = c := fun c => by rw [← Gp.assoc, bb, Gp.one_mul]
 have baR : ∀ c : Gp N, b * (a * c) = (a * (b * c)).ph 2 := fun c => by rw [← Gp.assoc, ba, Gp.ph_mul, Gp.assoc]
 have aqR : ∀ c : Gp N, a * (q * c) = q * (a * c) := fun c => by rw [← Gp.assoc, aq, Gp.assoc]
 have bqR : ∀ c : Gp N, b * (q * c) = q * (b * c) := fun c => by rw [← Gp.assoc, bq, Gp.assoc]
 have o1 : ∀ c : Gp N, c * Gp.one h = c := Gp.mul_one h
 have p22 : ∀ c : Gp N, (c.ph 2).ph 2 = c := fun c => by rw [Gp.ph_ph, Gp.ph_mod c (k := 0) (by decide), Gp.ph_zero]
 unfold Gp.pw
 cases x <;> cases z <;> cases x' <;> cases z' <;>
  simp only [Bool.false_eq_true, if_true, if_false, Bool.xor_false, Bool.xor_true, Bool.false_xor, Bool.true_xor, Bool.not_false, Bool.not_true, Bool.and_true, Bool.and_false, Bool.true_and, Bool.false_and, Gp.assoc, aa, bb, ba, aq, bq, aaR, bbR, baR, aqR, bqR, o1, Gp.ph_zero, Gp.mul_ph, Gp.ph_mul, p22]
theorem prd_mul {N : Int} {h : 1 ≤ N ∧ N ≤ 4} {n : Nat} {A B : Nat → Gp N} (F : Fam h n A B) (x z x' z' : Int) : ∀ k, k ≤ n →
  prd h A B x z k * prd h A B x' z' k = (prd h A B (xo x x') (xo z z') k).ph (2 * cntZ z x' k)
 | 0, _ => by simp only [prd, cntZ]; rw [Gp.one_mul, Int.mul_zero, Gp.ph_zero]
 | k + 1, hk => by
  have ih := prd_mul F x z x' z' k (by omega)
  have ca : A k * prd h A B x' z' k = prd h A B x' z' k * A k := prd_comm h A B x' z' (A k) k fun j hj => ⟨F.xaa k j (by omega) (by omega) (by omega), F.xab k j (by omega) (by omega) (by omega)⟩
  have cb : B k * prd h A B x' z' k = prd h A B x' z' k * B k := prd_comm h A B x' z' (B k) k fun j hj => ⟨(F.xab j k (by omega) (by omega) (by omega)).symm, F.xbb k j (by omega) (by omega) (by omega)⟩
  simp only [prd, cntZ]
  rw [pair_mul h (F.aa k (by omega)) (F.bb k (by omega)) (F.ba k (by omega)) ca cb, ih, bt_xo, bt_xo]
  have e : ∀ (k : Int) (c a : Gp N) (b : Bool), (c.ph k).pw a b = (c.pw a b).ph k := fun k c a b => by
   unfold Gp.pw; cases b <;> simp [Gp.ph_mul]
  rw [e, e, Gp.ph_ph]
  refine Gp.ph_mod _ ?_
  cases (bt z k && bt x' k) <;> simp <;> omega
/-- What p becomes if X and Z of each qubit become these rows. -/
def led {N : Int} (h : 1 ≤ N ∧ N ≤ 4) (A B : Nat → Gp N) (p : Gp N) : Gp N := (prd h A B p.q.2.1 p.q.2.2.1 N.toNat).ph p.q.2.2.2
theorem cntZ4 : ∀ z x : Fin 16, cntZ (z.val : Int) (x.val : Int) 4 = pc (an (z.val : Int) (x.val : Int)) := by decide +kernel
theorem bt_hi {x : Int} {n j : Nat} (h : 0 ≤ x ∧ x < 2 ^ n) (hj : n ≤ j) : bt x j = false := by
 unfold bt
 refine Nat.testBit_lt_two_pow ?_
 have e : ((2 ^ n : Nat) : Int) = 2 ^ n := by simp
 have : 2 ^ n ≤ 2 ^ j := Nat.pow_le_pow_right (by omega) hj
 omega
theorem cntZ_hi {z x : Int} {n : Nat} (h : 0 ≤ z ∧ z < 2 ^ n) : ∀ d, cntZ z x (n + d) = cntZ z x n
 | 0 => rfl
 | d + 1 => by
  show cntZ z x (n + d) + (if bt z (n + d) && bt x (n + d) then 1 else 0) = _
  rw [cntZ_hi h d, bt_hi h (Nat.le_add_right n d)]
  simp
theorem cntZ_pc {N : Int} (a b : Gp N) : cntZ a.q.2.2.1 b.q.2.1 N.toNat = pc (an a.q.2.2.1 b.q.2.1) := by
 obtain ⟨h1, h2, h3, _⟩ := vP_iff.1 (show vP (a.q.1, a.q.2.1, a.q.2.2.1, a.q.2.2.2) = true from a.v)
 rw [a.n] at h1 h3
 have e := cntZ_hi (x := b.q.2.1) h3 (4 - N.toNat)
 rw [show N.toNat + (4 - N.toNat) = 4 by omega] at e
 rw [← e]
 obtain ⟨z, hz⟩ := a.sm.2.1.fin
 obtain ⟨x, hx⟩ := b.sm.1.fin
 rw [hz, hx]
 exact cntZ4 z x
theorem led_mul {N : Int} {h : 1 ≤ N ∧ N ≤ 4} {A B : Nat → Gp N} (F : Fam h N.toNat A B) (a b : Gp N) : led h A B a * led h A B b = led h A B (a * b) := by
 unfold led
 rw [Gp.ph_mul, Gp.mul_ph, prd_mul F _ _ _ _ _ (Nat.le_refl _), cntZ_pc, Gp.ph_ph, Gp.ph_ph]
 show _ = Gp.ph ((a.q.2.2.2 + b.q.2.2.2 + 2 * pc (an a.q.2.2.1 b.q.2.1)) % 4) (prd h A B (xo a.q.2.1 b.q.2.1) (xo a.q.2.2.1 b.q.2.2.1) N.toNat)
 exact Gp.ph_mod _ (by omega)
theorem led_ph {N : Int} {h : 1 ≤ N ∧ N ≤ 4} {A B : Nat → Gp N} (k : Int) (a : Gp N) : led h A B (a.ph k) = (led h A B a).ph k := by
 unfold led
 rw [Gp.ph_ph]
 exact Gp.ph_mod _ (by simp only [Gp.ph_q]; omega)
theorem prd_zero {N : Int} (h : 1 ≤ N ∧ N ≤ 4) (A B : Nat → Gp N) : ∀ k, prd h A B 0 0 k = Gp.one h
 | 0 => rfl
 | k + 1 => by simp [prd, prd_zero h A B k, Gp.pw, bt]
theorem led_one {N : Int} {h : 1 ≤ N ∧ N ≤ 4} {A B : Nat → Gp N} : led h A B (Gp.one h) = Gp.one h := by
 show Gp.ph 0 (prd h A B 0 0 N.toNat) = _
 rw [Gp.ph_zero, prd_zero]
/-- Such a map keeps what commutes and what is Hermitian. -/
theorem led_comm {N : Int} {h : 1 ≤ N ∧ N ≤ 4} {A B : Nat → Gp N} (F : Fam h N.toNat A B) (a b : Gp N) : cP (led h A B a).q (led h A B b).q = cP a.q b.q := by
 cases hc : cP a.q b.q with
 | true => exact Gp.comm_iff.2 (by rw [led_mul F, led_mul F, Gp.comm hc])
 | false =>
  cases hd : cP (led h A B a).q (led h A B b).q with
  | false => rfl
  | true =>
   have e := Gp.comm hd
   rw [led_mul F, led_mul F, Gp.anti hc, led_ph] at e
   have := Gp.ph_inj (j := 2) (k := 0) (by rw [Gp.ph_zero]; exact e)
   omega
theorem sq_scalar {N : Int} (h : 1 ≤ N ∧ N ≤ 4) (a : Gp N) : ∃ k, a * a = (Gp.one h).ph k := by
 refine ⟨a.q.2.2.2 + a.q.2.2.2 + 2 * pc (an a.q.2.2.1 a.q.2.1), Gp.ext (q4_ext a.n (xo_self _) (xo_self _) ?_)⟩
 show (a.q.2.2.2 + a.q.2.2.2 + 2 * pc (an a.q.2.2.1 a.q.2.1)) % 4 = (0 + (a.q.2.2.2 + a.q.2.2.2 + 2 * pc (an a.q.2.2.1 a.q.2.1))) % 4
 omega
theorem led_herm {N : Int} {h : 1 ≤ N ∧ N ≤ 4} {A B : Nat → Gp N} (F : Fam h N.toNat A B) (a : Gp N) : hP (led h A B a).q = hP a.q := by
 rw [Bool.eq_iff_iff, Gp.sq_iff h, Gp.sq_iff h, led_mul F]
 constructor
 ·intro e
  obtain ⟨k, hk⟩ := sq_scalar h a
  rw [hk, led_ph, led_one] at e
  rw [hk]; exact e
 ·intro e; rw [e, led_one]
/-- The family of what the rows become. -/
theorem Fam.led {N : Int} {h : 1 ≤ N ∧ N ≤ 4} {A B : Nat → Gp N} (F : Fam h N.toNat A B) {n : Nat} {C D : Nat → Gp N} (K : Fam h n C D) : Fam h n (fun j => led h A B (C j)) (fun j => led h A B (D j)) :=
 ⟨fun j hj => by rw [led_mul F, K.aa j hj, led_one], fun j hj => by rw [led_mul F, K.bb j hj, led_one], fun j hj => by rw [led_mul F, led_mul F, K.ba j hj, led_ph],
  fun i j hi hj hne => by rw [led_mul F, led_mul F, K.xaa i j hi hj hne], fun i j hi hj hne => by rw [led_mul F, led_mul F, K.xbb i j hi hj hne], fun i j hi hj hne => by rw [led_mul F, led_mul F, K.xab i j hi hj hne]⟩
end Go.Proofs.YtfjopjalhllplaaGreat
/- Plain laws: conjugation, by a gate and by a tableau, as a map of the group. -/
namespace Go.Proofs.YtfjopjalhllplaaGreat
open Go.RowKit
set_option maxRecDepth 100000
set_option linter.unusedVariables false
set_option linter.unusedSimpArgs false
def toG {N : Int} (h : 1 ≤ N ∧ N ≤ 4) (q : Q4) : Gp N := if hq : vP q = true ∧ q.1 = N then ⟨q, hq.1, hq.2⟩ else Gp.one h
theorem toG_q {N : Int} (h : 1 ≤ N ∧ N ≤ 4) {q : Q4} (h1 : vP q = true) (h2 : q.1 = N) : (toG h q).q = q := by unfold toG; rw [dif_pos ⟨h1, h2⟩]
theorem ph_pw {N : Int} (k : Int) (c a : Gp N) (b : Bool) : (c.ph k).pw a b = (c.pw a b).ph k := by
 unfold Gp.pw; cases b <;> simp [Gp.ph_mul]
theorem led_loop {N : Int} {β : Type} (L : Nat → Int → Q4 → Option β) (F : Q4 → Option β) (h : 1 ≤ N ∧ N ≤ 4) (A B : Nat → Gp N) (x z ph : Int)
  (hs : ∀ m (v : Nat) (p : Gp N), v < N.toNat → L (m + 1) (v : Int) p.q = L m ((v + 1 : Nat) : Int) ((p.pw (A v) (bt x v)).pw (B v) (bt z v)).q)
  (he : ∀ m (p : Gp N), L (m + 1) N p.q = F p.q) : L FU 0 ((Gp.one h).ph ph).q = F ((prd h A B x z N.toNat).ph ph).q := by
 have key : ∀ m (v : Nat), v ≤ N.toNat → N.toNat - v < m → L m (v : Int) ((prd h A B x z v).ph ph).q = F ((prd h A B x z N.toNat).ph ph).q := by
  intro m
  induction m with
  | zero => intro v _ h; omega
  | succ m ih =>
   intro v hv hm
   by_cases e : v = N.toNat
   ·subst e
    have := he m ((prd h A B x z N.toNat).ph ph)
    rw [Int.toNat_of_nonneg (by omega)]
    exact this
   ·rw [hs m v _ (by omega), ph_pw, ph_pw]
    exact ih (v + 1) (by omega) (by omega)
 exact key FU 0 (by omega) (by rw [FU_eq]; omega)
theorem bit_fin : ∀ x : Fin 16, ∀ v : Fin 4, (bits .and .i64 (Int.fdiv (x.val : Int) (2 ^ min (Int.toNat (v.val : Int)) (IntKind.bits .i64))) 1 == 1) = bt (x.val : Int) v.val := by decide +kernel
theorem bit_eq {x : Int} (h : Sm x) {v : Nat} (hv : v < 4) : (bits .and .i64 (Int.fdiv x (2 ^ min (Int.toNat (v : Int)) (IntKind.bits .i64))) 1 == 1) = bt x v := by
 obtain ⟨k, rfl⟩ := h.fin
 exact bit_fin k ⟨v, hv⟩
def outG {N : Int} (p : Gp N) : Int × Int × Int × Int × Bool := (p.q.1, p.q.2.1, p.q.2.2.1, p.q.2.2.2, true)
theorem one_ph {N : Int} (h : 1 ≤ N ∧ N ≤ 4) {p : Int} (hp : 0 ≤ p ∧ p ≤ 3) : ((Gp.one h).ph p).q = (N, 0, 0, p) := by
 refine q4_ext rfl rfl rfl ?_
 show (0 + p) % 4 = p
 omega
theorem mulG {N : Int} (p q : Gp N) : s_MulPauli p.q.1 p.q.2.1 p.q.2.2.1 p.q.2.2.2 q.q.1 q.q.2.1 q.q.2.2.1 q.q.2.2.2 = some (outG (p * q)) ∧ i_MulPauli p.q.1 p.q.2.1 p.q.2.2.1 p.q.2.2.2 q.q.1 q.q.2.1 q.q.2.2.1 q.q.2.2.2 = some (outG (p * q)) := by
 obtain ⟨h1, h2, _, _⟩ := mulC p.v q.v p.n q.n
 exact ⟨h1, h2⟩
/-- The images of X and Z under a gate. -/
def iQ (N k a b : Int) (v : Nat) (z : Bool) : Q4 := match s_l25Image N k a b 0 (v : Int) z with | some q => q | none => (0, 0, 0, 0)
def gA {N : Int} (h : 1 ≤ N ∧ N ≤ 4) (k a b : Int) (v : Nat) : Gp N := toG h (iQ N k a b v false)
def gB {N : Int} (h : 1 ≤ N ∧ N ≤ 4) (k a b : Int) (v : Nat) : Gp N := toG h (iQ N k a b v true)
theorem img_g {k a b c N : Int} (h : 1 ≤ N ∧ N ≤ 4) (h1 : clif k = true) (h2 : ivg k a b c N = true) {v : Nat} (hv : v < N.toNat) :
  s_l25Image N k a b c v false = some (gA h k a b v).q ∧ s_l25Image N k a b c v true = some (gB h k a b v).q ∧ (gA h k a b v).q = iQ N k a b v false ∧ (gB h k a b v).q = iQ N k a b v true := by
 obtain ⟨rfl, _⟩ := gate_dom h1 h2
 obtain ⟨X, Z, _, g2, g3, vX, nX, vZ, nZ⟩ := img_ok h1 h2 (v := (v : Int)) (by omega)
 have eX : iQ N k a b v false = X := by unfold iQ; rw [g2]
 have eZ : iQ N k a b v true = Z := by unfold iQ; rw [g3]
 unfold gA gB
 rw [eX, eZ, toG_q h vX nX, toG_q h vZ nZ]
 exact ⟨g2, g3, rfl, rfl⟩
theorem conj_s {k a b c N x z p : Int} (h1 : clif k = true) (h2 : ivg k a b c N = true) (hp : vP (N, x, z, p) = true) (h : 1 ≤ N ∧ N ≤ 4) :
  s_ConjugatePauli N x z p k a b c = some (outG (led h (gA h k a b) (gB h k a b) ⟨(N, x, z, p), hp, rfl⟩)) := by
 obtain ⟨hx, hz, hpp⟩ := vP_sm hp
 unfold s_ConjugatePauli
 simp only [s_valid, s_ivg, s_clif, h1, h2, hp, bO_some, Bool.not_true, br_false, s_ConjugatePauli_j1]
 have := led_loop (N := N) (fun m v q => s_ConjugatePauli_l1 N x z k a b c m v q.1 q.2.1 q.2.2.1 q.2.2.2) (fun q => some (q.1, q.2.1, q.2.2.1, q.2.2.2, true)) h (gA h k a b) (gB h k a b) x z p (fun m v q hv => ?_) (fun m q => ?_)
 ·rw [one_ph h hpp] at this
  exact this
 ·show s_ConjugatePauli_l1 N x z k a b c (m + 1) (v : Int) q.q.1 q.q.2.1 q.q.2.2.1 q.q.2.2.2 = _
  rw [s_ConjugatePauli_l1]
  have hlt : (v : Int) < N := by omega
  have h0 : ¬ (v : Int) < 0 := by omega
  obtain ⟨g1, g2, _, _⟩ := img_g h h1 h2 hv
  have hw : IntKind.wrap .i64 ((v : Int) + 1) = ((v + 1 : Nat) : Int) := by rw [w64 (by omega) (by omega)]; omega
  simp only [hlt, decide_true, br_true, u64_s (n := (v : Int)) (by omega), h0, not_false_eq_true, gd_true, g1, g2, bO_some, s_ConjugatePauli_j8, s_ConjugatePauli_j7, hw, bit_eq hx (by omega : v < 4), bit_eq hz (by omega : v < 4), (mulG _ _).1, outG]
  unfold Gp.pw
  cases bt x v <;> cases bt z v <;> simp only [br_true, br_false, Bool.false_eq_true, if_true, if_false, (mulG _ _).1, outG, bO_some]
 ·show s_ConjugatePauli_l1 N x z k a b c (m + 1) N q.q.1 q.q.2.1 q.q.2.2.1 q.q.2.2.2 = _
  rw [s_ConjugatePauli_l1]
  have hlt : ¬ N < N := by omega
  simp only [hlt, decide_false, br_false, s_ConjugatePauli_j2]
/-- The images of a gate stand to each other as X and Z do. -/
def famOk (N : Nat) (k a b : Int) : Bool := (List.range N).all fun i => (hP (iQ N k a b i false) && (hP (iQ N k a b i true) && !cP (iQ N k a b i true) (iQ N k a b i false))) && (List.range N).all fun j => i == j || (cP (iQ N k a b i false) (iQ N k a b j false) && (cP (iQ N k a b i true) (iQ N k a b j true) && cP (iQ N k a b i false) (iQ N k a b j true)))
theorem fam_fin : ∀ k : Fin 12, ∀ a b : Fin 4, ∀ N : Fin 5, (clif k.val && ivg k.val a.val b.val 0 N.val) = true → famOk N.val k.val a.val b.val = true := by decide +kernel
theorem gate_fam {k a b c N : Int} (h : 1 ≤ N ∧ N ≤ 4) (h1 : clif k = true) (h2 : ivg k a b c N = true) : Fam h N.toNat (gA h k a b) (gB h k a b) := by
 obtain ⟨rfl, d1, d2, d3, _⟩ := gate_dom h1 h2
 have hf : famOk N.toNat k a b = true := by
  obtain ⟨k, rfl⟩ := fin_of' (n := 12) d1
  obtain ⟨a, rfl⟩ := fin_of' (n := 4) d2
  obtain ⟨b, rfl⟩ := fin_of' (n := 4) d3
  obtain ⟨N, rfl⟩ := fin_of' (n := 5) (x := N) (by omega)
  exact fam_fin k a b N (by rw [h1, h2]; rfl)
 unfold famOk at hf
 have hN : ((N.toNat : Nat) : Int) = N := by omega
 simp only [hN, List.all_eq_true, List.mem_range, Bool.and_eq_true, Bool.not_eq_true', Bool.or_eq_true, beq_iff_eq] at hf
 have eA : ∀ j, j < N.toNat → (gA h k a b j).q = iQ N k a b j false := fun j hj => (img_g h h1 h2 hj).2.2.1
 have eB : ∀ j, j < N.toNat → (gB h k a b j).q = iQ N k a b j true := fun j hj => (img_g h h1 h2 hj).2.2.2
 have pr : ∀ i j, i < N.toNat → j < N.toNat → i ≠ j → cP (iQ N k a b i false) (iQ N k a b j false) = true ∧ cP (iQ N k a b i true) (iQ N k a b j true) = true ∧ cP (iQ N k a b i false) (iQ N k a b j true) = true := fun i j hi hj hne => by
  rcases (hf i hi).2 j hj with e | e
  ·exact absurd e hne
  ·exact e
 exact ⟨fun j hj => (Gp.sq_iff h _).1 (by rw [eA j hj]; exact (hf j hj).1.1), fun j hj => (Gp.sq_iff h _).1 (by rw [eB j hj]; exact (hf j hj).1.2.1), fun j hj => Gp.anti (by rw [eA j hj, eB j hj]; exact (hf j hj).1.2.2),
   fun i j hi hj hne => Gp.comm (by rw [eA i hi, eA j hj]; exact (pr i j hi hj hne).1), fun i j hi hj hne => Gp.comm (by rw [eB i hi, eB j hj]; exact (pr i j hi hj hne).2.1), fun i j hi hj hne => Gp.comm (by rw [eA i hi, eB j hj]; exact (pr i j hi hj hne).2.2)⟩
end Go.Proofs.YtfjopjalhllplaaGreat
/- Plain law: LedAlong. -/
namespace Go.Proofs.YtfjopjalhllplaaGreat
open Go.RowKit
set_option maxRecDepth 100000
set_option linter.unusedVariables false
set_option linter.unusedSimpArgs false
theorem big_eq (code : List Int) : l_big code = some (decide (1048576 < (code.length : Int))) := rfl
end Go.Proofs.YtfjopjalhllplaaGreat
