/- Joined texts: Pa Pb Pm. -/
import Derived.Test.YtfjopjalhllplaaKMa
/- Plain laws: Paulis and tableaux. What the models of these functions give. -/
namespace Go.Proofs.Ytfjopjalhllplaa
open Go.RowKit
set_option maxRecDepth 100000
set_option linter.unusedVariables false
set_option linter.unusedSimpArgs false
abbrev Q4 := Int × Int × Int × Int
theorem w64 {x : Int} (h1 : -9223372036854775808 ≤ x) (h2 : x < 9223372036854775808) : IntKind.wrap .i64 x = x := IntWalk.i64_in _ (by omega)
theorem w64s {k n : Nat} (h : k < n) (hn : n ≤ 4194304) : IntKind.wrap .i64 ((k : Int) + 1) = ((k + 1 : Nat) : Int) := by rw [w64 (by omega) (by omega)]; omega
theorem geti_nat {α : Type} {l : List α} {k : Nat} {q : α} (h : l[k]? = some q) : geti l (k : Int) = some q := by
 have hk : k < l.length := by
  rcases Nat.lt_or_ge k l.length with h' | h'
  ·exact h'
  ·rw [List.getElem?_eq_none h'] at h; cases h
 unfold geti
 rw [if_pos ⟨by omega, by omega⟩, Int.toNat_natCast, h]
theorem geti_lt {α : Type} {l : List α} {k : Nat} (h : k < l.length) : geti l (k : Int) = some l[k] := geti_nat (List.getElem?_eq_getElem h)
/-- A loop that checks, one after the other. -/
theorem loop_all (L : Nat → Int → Option Bool) (n : Nat) (f : Nat → Bool) (hs : ∀ m k, k < n → L (m + 1) (k : Int) = br (f k) (L m ((k + 1 : Nat) : Int)) (some false)) (c : Option Bool) (he : ∀ m, L (m + 1) (n : Int) = c) :
  ∀ m k, k ≤ n → n - k < m → L m (k : Int) = br ((List.range' k (n - k)).all f) c (some false)
 | 0, k, _, h => by omega
 | m + 1, k, hk, h => by
  by_cases e : k = n
  ·subst e; rw [he, Nat.sub_self]; rfl
  ·rw [hs m k (by omega), loop_all L n f hs c he m (k + 1) (by omega) (by omega), show n - k = (n - (k + 1)) + 1 by omega, List.range'_succ, List.all_cons]
   cases f k <;> rfl
theorem FU_eq : FU = 4194304 := rfl
theorem loop_all0 (L : Nat → Int → Option Bool) (n : Nat) (f : Nat → Bool) (hn : n ≤ 4000000) (hs : ∀ m k, k < n → L (m + 1) (k : Int) = br (f k) (L m ((k + 1 : Nat) : Int)) (some false)) (c : Option Bool) (he : ∀ m, L (m + 1) (n : Int) = c) :
  L FU 0 = br ((List.range n).all f) c (some false) := by
 have := loop_all L n f hs c he FU 0 (by omega) (by rw [FU_eq]; omega)
 rw [Nat.sub_zero, ← List.range_eq_range'] at this
 exact this

theorem i_in_eq (x lo hi : Int) : i_in x lo hi = some (decide (lo ≤ x ∧ x ≤ hi)) := by
 unfold i_in i_in_j1
 by_cases h1 : lo ≤ x <;> by_cases h2 : x ≤ hi <;> simp [br, bO, h1, h2]
theorem s_in_eq (x lo hi : Int) : s_l1In x lo hi = some (decide (lo ≤ x ∧ x ≤ hi)) := by
 unfold s_l1In s_l1In_j1
 by_cases h1 : lo ≤ x <;> by_cases h2 : x ≤ hi <;> simp [br, bO, h1, h2]
/-- A valid Pauli. -/
def vP (q : Q4) : Bool := decide ((1 ≤ q.1 ∧ q.1 ≤ 4) ∧ (0 ≤ q.2.1 ∧ q.2.1 < 2 ^ q.1.toNat) ∧ (0 ≤ q.2.2.1 ∧ q.2.2.1 < 2 ^ q.1.toNat) ∧ (0 ≤ q.2.2.2 ∧ q.2.2.2 ≤ 3))
theorem vP_iff {n x z p : Int} : vP (n, x, z, p) = true ↔ (1 ≤ n ∧ n ≤ 4) ∧ (0 ≤ x ∧ x < 2 ^ n.toNat) ∧ (0 ≤ z ∧ z < 2 ^ n.toNat) ∧ (0 ≤ p ∧ p ≤ 3) := by simp [vP]
theorem four {n : Int} (h : 1 ≤ n ∧ n ≤ 4) : n = 1 ∨ n = 2 ∨ n = 3 ∨ n = 4 := by omega
theorem br_and {β : Type} (b c : Bool) (k : Bool → Option β) : bO (br b (some c) (some false)) k = k (b && c) := by cases b <;> rfl
theorem br_or {β : Type} (b c : Bool) (k : Bool → Option β) : bO (br b (some true) (some c)) k = k (b || c) := by cases b <;> rfl
/-- The number of bits among the lowest four. -/
def pc (x : Int) : Int := ((x.toNat % 2 + x.toNat / 2 % 2 + x.toNat / 4 % 2 + x.toNat / 8 % 2 : Nat) : Int)
def an (x y : Int) : Int := ((x.toNat &&& y.toNat : Nat) : Int)
def xo (x y : Int) : Int := ((x.toNat ^^^ y.toNat : Nat) : Int)
def Sm (x : Int) : Prop := 0 ≤ x ∧ x < 16
theorem Sm.fin {x : Int} (h : Sm x) : ∃ k : Fin 16, x = (k.val : Int) := ⟨⟨x.toNat, by have := h.1; have := h.2; omega⟩, by have := h.1; show x = (x.toNat : Int); omega⟩
theorem pc_bd (x : Int) : 0 ≤ pc x ∧ pc x ≤ 4 := by unfold pc; omega
theorem pow_le {n : Int} (h : 1 ≤ n ∧ n ≤ 4) : (2 : Int) ^ n.toNat ≤ 16 := by rcases four h with rfl | rfl | rfl | rfl <;> decide
theorem vP_sm {n x z p : Int} (h : vP (n, x, z, p) = true) : Sm x ∧ Sm z ∧ (0 ≤ p ∧ p ≤ 3) := by
 obtain ⟨h1, h2, h3, h4⟩ := vP_iff.1 h
 have := pow_le h1
 exact ⟨⟨h2.1, by omega⟩, ⟨h3.1, by omega⟩, h4⟩
/-- A Hermitian Pauli; two that commute. -/
def hP (q : Q4) : Bool := vP q && decide ((q.2.2.2 + pc (an q.2.1 q.2.2.1)) % 2 = 0)
def cP (a b : Q4) : Bool := decide ((pc (an a.2.1 b.2.2.1) + pc (an a.2.2.1 b.2.1)) % 2 = 0)
/-- A valid tableau. -/
def rowB (N : Int) (l : List Q4) (k : Nat) : Bool := match l[k]? with
 | some q => (q.1 == N) && (hP q && (List.range k).all fun i => match l[i]? with
   | some r => !(cP r q == decide ((k : Int) = (i : Int) + N))
   | none => false)
 | none => false
def tB (N : Int) (l : List Q4) : Bool := decide (1 ≤ N ∧ N ≤ 4) && (decide ((l.length : Int) = 2 * N) && (List.range l.length).all (rowB N l))
end Go.Proofs.Ytfjopjalhllplaa
/- Plain laws: valid tableaux. -/
namespace Go.Proofs.Ytfjopjalhllplaa
open Go.RowKit
set_option maxRecDepth 100000
set_option linter.unusedVariables false
set_option linter.unusedSimpArgs false
theorem rowB_herm {N : Int} {l : List Q4} {k : Nat} {q : Q4} (h : rowB N l k = true) (hq : l[k]? = some q) : q.1 = N ∧ hP q = true := by
 unfold rowB at h
 rw [hq] at h
 simp only [Bool.and_eq_true, beq_iff_eq] at h
 exact ⟨h.1, h.2.1⟩
theorem hP_vP {q : Q4} (h : hP q = true) : vP q = true := by
 unfold hP at h
 rw [Bool.and_eq_true] at h
 exact h.1
def cell4 (N : Int) (l : List Q4) (q : Q4) (k i : Nat) : Bool := match l[i]? with
 | some r => !(cP r q == decide ((k : Int) = (i : Int) + N))
 | none => false
theorem rowB_eq {N : Int} {l : List Q4} {k : Nat} {q : Q4} (hq : l[k]? = some q) : rowB N l k = ((q.1 == N) && (hP q && (List.range k).all (cell4 N l q k))) := by
 unfold rowB; rw [hq]; rfl
theorem slc_pre {α : Type} {l : List α} {k : Nat} (h : k ≤ l.length) : slc l 0 (k : Int) = some (l.take k) := by
 unfold slc
 rw [if_pos ⟨by omega, by omega, by omega⟩]
 simp
end Go.Proofs.Ytfjopjalhllplaa
/- Plain laws: products of Paulis. -/
namespace Go.Proofs.Ytfjopjalhllplaa
open Go.RowKit
set_option maxRecDepth 100000
set_option linter.unusedVariables false
set_option linter.unusedSimpArgs false
def mulQ (a b : Q4) : Q4 := (a.1, xo a.2.1 b.2.1, xo a.2.2.1 b.2.2.1, (a.2.2.2 + b.2.2.2 + 2 * pc (an a.2.2.1 b.2.1)) % 4)
theorem xo_lt {x y : Int} {k : Nat} (hx : 0 ≤ x ∧ x < 2 ^ k) (hy : 0 ≤ y ∧ y < 2 ^ k) : 0 ≤ xo x y ∧ xo x y < 2 ^ k := by
 have e : ((2 ^ k : Nat) : Int) = 2 ^ k := by simp
 have := Nat.xor_lt_two_pow (x := x.toNat) (y := y.toNat) (n := k) (by omega) (by omega)
 unfold xo; omega
theorem mulQ_vP {a b : Q4} (ha : vP a = true) (hb : vP b = true) (h : a.1 = b.1) : vP (mulQ a b) = true := by
 obtain ⟨n, x, z, p⟩ := a
 obtain ⟨m, y, w, r⟩ := b
 simp only at h
 subst h
 obtain ⟨h1, h2, h3, h4⟩ := vP_iff.1 ha
 obtain ⟨_, k2, k3, k4⟩ := vP_iff.1 hb
 have b1 := pc_bd (an z y)
 exact vP_iff.2 ⟨h1, xo_lt h2 k2, xo_lt h3 k3, by omega⟩
theorem pc_xo_fin : ∀ r a b : Fin 16, (pc (an (r.val : Int) (xo (a.val : Int) (b.val : Int))) - pc (an (r.val : Int) (a.val : Int)) - pc (an (r.val : Int) (b.val : Int))) % 2 = 0 := by decide +kernel
theorem pc_xo {r a b : Int} (hr : Sm r) (ha : Sm a) (hb : Sm b) : (pc (an r (xo a b)) - pc (an r a) - pc (an r b)) % 2 = 0 := by
 obtain ⟨r, rfl⟩ := hr.fin; obtain ⟨a, rfl⟩ := ha.fin; obtain ⟨b, rfl⟩ := hb.fin
 exact pc_xo_fin r a b
theorem an_comm (a b : Int) : an a b = an b a := by unfold an; rw [Nat.and_comm]
theorem cP_symm (a b : Q4) : cP a b = cP b a := by
 unfold cP
 rw [an_comm b.2.1, an_comm b.2.2.1, Int.add_comm]
theorem cP_self (a : Q4) : cP a a = true := by
 unfold cP
 rw [an_comm a.2.2.1]
 rw [decide_eq_true_eq]; omega
theorem cP_mul {r a b : Q4} (hr : vP r = true) (ha : vP a = true) (hb : vP b = true) (h1 : cP r a = true) (h2 : cP r b = true) : cP r (mulQ a b) = true := by
 obtain ⟨r0, r1, r2, r3⟩ := r
 obtain ⟨a0, a1, a2, a3⟩ := a
 obtain ⟨b0, b1, b2, b3⟩ := b
 obtain ⟨u1, u2, _⟩ := vP_sm hr
 obtain ⟨v1, v2, _⟩ := vP_sm ha
 obtain ⟨w1, w2, _⟩ := vP_sm hb
 simp only [cP, mulQ] at h1 h2 ⊢
 have h1 := of_decide_eq_true h1
 have h2 := of_decide_eq_true h2
 refine decide_eq_true ?_
 have e1 := pc_xo u1 v2 w2
 have e2 := pc_xo u2 v1 w1
 omega
theorem tB_inv2 {N : Int} {l : List Q4} (h : tB N l = true) : (1 ≤ N ∧ N ≤ 4) ∧ (l.length : Int) = 2 * N ∧ ∀ k, k < l.length → rowB N l k = true := by
 unfold tB at h
 simp only [Bool.and_eq_true, decide_eq_true_eq, List.all_eq_true, List.mem_range] at h
 exact ⟨h.1, h.2.1, h.2.2⟩
theorem row_vP {N : Int} {l : List Q4} (h : tB N l = true) {k : Nat} {q : Q4} (hq : l[k]? = some q) : q.1 = N ∧ vP q = true := by
 obtain ⟨_, _, h3⟩ := tB_inv2 h
 have hk : k < l.length := by
  rcases Nat.lt_or_ge k l.length with h' | h'
  ·exact h'
  ·rw [List.getElem?_eq_none h'] at hq; cases hq
 obtain ⟨e, g⟩ := rowB_herm (h3 k hk) hq
 exact ⟨e, hP_vP g⟩
theorem row_comm_lt {N : Int} {l : List Q4} (h : tB N l = true) {i k : Nat} {r q : Q4} (hr : l[i]? = some r) (hq : l[k]? = some q) (hik : i < k) (hk : k < l.length) (hN : N ≤ i) : cP r q = true := by
 obtain ⟨h1, h2, h3⟩ := tB_inv2 h
 have hb := h3 k hk
 rw [rowB_eq hq] at hb
 simp only [Bool.and_eq_true, List.all_eq_true, List.mem_range] at hb
 have hc := hb.2.2 i hik
 unfold cell4 at hc
 rw [hr] at hc
 have hne : decide ((k : Int) = (i : Int) + N) = false := decide_eq_false (by omega)
 simp only [hne] at hc
 cases hcp : cP r q with
 | true => rfl
 | false => rw [hcp] at hc; simp at hc
theorem row_comm {N : Int} {l : List Q4} (h : tB N l = true) {i k : Nat} {r q : Q4} (hr : l[i]? = some r) (hq : l[k]? = some q) (hi : i < l.length) (hk : k < l.length) (hN : N ≤ i) (hN' : N ≤ k) : cP r q = true := by
 rcases Nat.lt_trichotomy i k with h' | h' | h'
 ·exact row_comm_lt h hr hq h' hk hN
 ·subst h'
  rw [hr] at hq; injection hq with hq; subst hq
  exact cP_self r
 ·rw [cP_symm]; exact row_comm_lt h hq hr h' hi hN'
/-- What a product of stabilizer rows keeps. -/
def InvS (N : Int) (l : List Q4) (p : Q4) : Prop := p.1 = N ∧ vP p = true ∧ ∀ (j : Nat) (r : Q4), N ≤ j → l[j]? = some r → cP r p = true
theorem InvS.mul {N : Int} {l : List Q4} (h : tB N l = true) {p q : Q4} (hp : InvS N l p) {k : Nat} (hq : l[k]? = some q) (hk : N ≤ k) : InvS N l (mulQ p q) := by
 obtain ⟨e, g⟩ := row_vP h hq
 have lt : ∀ {j : Nat} {r : Q4}, l[j]? = some r → j < l.length := fun {j r} hr => by
  rcases Nat.lt_or_ge j l.length with h' | h'
  ·exact h'
  ·rw [List.getElem?_eq_none h'] at hr; cases hr
 refine ⟨hp.1, mulQ_vP hp.2.1 g (hp.1.trans e.symm), fun j r hj hr => ?_⟩
 exact cP_mul (row_vP h hr).2 hp.2.1 g (hp.2.2 j r hj hr) (row_comm h hr hq (lt hr) (lt hq) hj hk)
theorem pc0 (x : Int) : pc (an x 0) = 0 := by unfold an; simp [pc]
theorem InvS.one {N : Int} {l : List Q4} (h : tB N l = true) : InvS N l (N, 0, 0, 0) := by
 obtain ⟨h1, _, _⟩ := tB_inv2 h
 refine ⟨rfl, ?_, fun j r _ _ => ?_⟩
 ·rcases four h1 with rfl | rfl | rfl | rfl <;> rfl
 ·unfold cP; simp only [pc0]; rfl
end Go.Proofs.Ytfjopjalhllplaa
