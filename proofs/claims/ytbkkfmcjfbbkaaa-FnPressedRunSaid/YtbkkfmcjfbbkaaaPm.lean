/- Plain laws: products of Paulis. -/
import Derived.Test.YtbkkfmcjfbbkaaaMc
import Derived.Test.YtbkkfmcjfbbkaaaPb
namespace Go.Proofs.Ytbkkfmcjfbbkaaa
open Go.RowKit
set_option maxRecDepth 100000
set_option linter.unusedVariables false
set_option linter.unusedSimpArgs false
theorem loop_allG {β : Type} (L : Nat → Int → Option β) (n : Nat) (f : Nat → Bool) (bad : Option β) (hs : ∀ m k, k < n → L (m + 1) (k : Int) = br (f k) (L m ((k + 1 : Nat) : Int)) bad) (c : Option β) (he : ∀ m, L (m + 1) (n : Int) = c) :
    ∀ m k, k ≤ n → n - k < m → L m (k : Int) = br ((List.range' k (n - k)).all f) c bad
  | 0, k, _, h => by omega
  | m + 1, k, hk, h => by
    by_cases e : k = n
    · subst e; rw [he, Nat.sub_self]; rfl
    · rw [hs m k (by omega), loop_allG L n f bad hs c he m (k + 1) (by omega) (by omega), show n - k = (n - (k + 1)) + 1 by omega, List.range'_succ, List.all_cons]
      cases f k <;> rfl
theorem loop_allG0 {β : Type} (L : Nat → Int → Option β) (n : Nat) (f : Nat → Bool) (bad : Option β) (hn : n ≤ 4000000) (hs : ∀ m k, k < n → L (m + 1) (k : Int) = br (f k) (L m ((k + 1 : Nat) : Int)) bad) (c : Option β) (he : ∀ m, L (m + 1) (n : Int) = c) :
    L FU 0 = br ((List.range n).all f) c bad := by
  have := loop_allG L n f bad hs c he FU 0 (by omega) (by rw [FU_eq]; omega)
  rw [Nat.sub_zero, ← List.range_eq_range'] at this
  exact this
def mulQ (a b : Q4) : Q4 := (a.1, xo a.2.1 b.2.1, xo a.2.2.1 b.2.2.1, (a.2.2.2 + b.2.2.2 + 2 * pc (an a.2.2.1 b.2.1)) % 4)
theorem s_mul {n x z p y w r : Int} (ha : vP (n, x, z, p) = true) (hb : vP (n, y, w, r) = true) : s_MulPauli n x z p n y w r = some (n, xo x y, xo z w, (p + r + 2 * pc (an z y)) % 4, true) := by
  obtain ⟨h1, h2, h5⟩ := vP_sm ha
  obtain ⟨h3, h4, h6⟩ := vP_sm hb
  have b1 := pc_bd (an z y)
  unfold s_MulPauli s_MulPauli_j1
  simp only [s_valid, ha, hb, bO_some, Bool.not_true, br_false, bne_self_eq_false, and_eq h2 h3, s_ones_eq (an_sm h2 h3), xor_eq h1 h3, xor_eq h2 h4]
  rw [w64 (x := p + r) (by omega) (by omega), w64 (x := 2 * _) (by omega) (by omega), w64 (by omega) (by omega), Int.tmod_eq_emod_of_nonneg (by omega)]
theorem i_mul {n x z p y w r : Int} (ha : vP (n, x, z, p) = true) (hb : vP (n, y, w, r) = true) : i_MulPauli n x z p n y w r = some (n, xo x y, xo z w, (p + r + 2 * pc (an z y)) % 4, true) := by
  obtain ⟨h1, h2, h5⟩ := vP_sm ha
  obtain ⟨h3, h4, h6⟩ := vP_sm hb
  have b1 := pc_bd (an z y)
  unfold i_MulPauli i_MulPauli_j1
  simp only [i_valid, ha, hb, bO_some, Bool.not_true, br_false, bne_self_eq_false, and_eq h2 h3, i_ones_eq (an_sm h2 h3), xor_eq h1 h3, xor_eq h2 h4]
  rw [w64 (x := p + r) (by omega) (by omega), w64 (x := 2 * _) (by omega) (by omega), w64 (by omega) (by omega), Int.tmod_eq_emod_of_nonneg (by omega)]
theorem xo_lt {x y : Int} {k : Nat} (hx : 0 ≤ x ∧ x < 2 ^ k) (hy : 0 ≤ y ∧ y < 2 ^ k) : 0 ≤ xo x y ∧ xo x y < 2 ^ k := by
  have e : ((2 ^ k : Nat) : Int) = 2 ^ k := by simp
  have := Nat.xor_lt_two_pow (x := x.toNat) (y := y.toNat) (n := k) (by omega) (by omega)
  unfold xo; omega
theorem mulQ_vP {a b : Q4} (ha : vP a = true) (hb : vP b = true) (h : a.1 = b.1) : vP (mulQ a b) = true := by
  obtain ⟨n, x, z, p⟩ := a
  obtain ⟨m, y, w, r⟩ := b
  simp only at h
  subst h
  obtain ⟨h1, h2, h3, h4⟩ := vP_iff.1 ha
  obtain ⟨_, k2, k3, k4⟩ := vP_iff.1 hb
  have b1 := pc_bd (an z y)
  exact vP_iff.2 ⟨h1, xo_lt h2 k2, xo_lt h3 k3, by omega⟩
theorem pc_xo_fin : ∀ r a b : Fin 16, (pc (an (r.val : Int) (xo (a.val : Int) (b.val : Int))) - pc (an (r.val : Int) (a.val : Int)) - pc (an (r.val : Int) (b.val : Int))) % 2 = 0 := by decide +kernel
theorem pc_xo {r a b : Int} (hr : Sm r) (ha : Sm a) (hb : Sm b) : (pc (an r (xo a b)) - pc (an r a) - pc (an r b)) % 2 = 0 := by
  obtain ⟨r, rfl⟩ := hr.fin; obtain ⟨a, rfl⟩ := ha.fin; obtain ⟨b, rfl⟩ := hb.fin
  exact pc_xo_fin r a b
theorem an_comm (a b : Int) : an a b = an b a := by unfold an; rw [Nat.and_comm]
theorem cP_symm (a b : Q4) : cP a b = cP b a := by
  unfold cP
  rw [an_comm b.2.1, an_comm b.2.2.1, Int.add_comm]
theorem cP_self (a : Q4) : cP a a = true := by
  unfold cP
  rw [an_comm a.2.2.1]
  rw [decide_eq_true_eq]; omega
theorem cP_mul {r a b : Q4} (hr : vP r = true) (ha : vP a = true) (hb : vP b = true) (h1 : cP r a = true) (h2 : cP r b = true) : cP r (mulQ a b) = true := by
  obtain ⟨r0, r1, r2, r3⟩ := r
  obtain ⟨a0, a1, a2, a3⟩ := a
  obtain ⟨b0, b1, b2, b3⟩ := b
  obtain ⟨u1, u2, _⟩ := vP_sm hr
  obtain ⟨v1, v2, _⟩ := vP_sm ha
  obtain ⟨w1, w2, _⟩ := vP_sm hb
  simp only [cP, mulQ] at h1 h2 ⊢
  have h1 := of_decide_eq_true h1
  have h2 := of_decide_eq_true h2
  refine decide_eq_true ?_
  have e1 := pc_xo u1 v2 w2
  have e2 := pc_xo u2 v1 w1
  omega
theorem tB_inv2 {N : Int} {l : List Q4} (h : tB N l = true) : (1 ≤ N ∧ N ≤ 4) ∧ (l.length : Int) = 2 * N ∧ ∀ k, k < l.length → rowB N l k = true := by
  unfold tB at h
  simp only [Bool.and_eq_true, decide_eq_true_eq, List.all_eq_true, List.mem_range] at h
  exact ⟨h.1, h.2.1, h.2.2⟩
theorem row_vP {N : Int} {l : List Q4} (h : tB N l = true) {k : Nat} {q : Q4} (hq : l[k]? = some q) : q.1 = N ∧ vP q = true := by
  obtain ⟨_, _, h3⟩ := tB_inv2 h
  have hk : k < l.length := by
    rcases Nat.lt_or_ge k l.length with h' | h'
    · exact h'
    · rw [List.getElem?_eq_none h'] at hq; cases hq
  obtain ⟨e, g⟩ := rowB_herm (h3 k hk) hq
  exact ⟨e, hP_vP g⟩
theorem row_comm_lt {N : Int} {l : List Q4} (h : tB N l = true) {i k : Nat} {r q : Q4} (hr : l[i]? = some r) (hq : l[k]? = some q) (hik : i < k) (hk : k < l.length) (hN : N ≤ i) : cP r q = true := by
  obtain ⟨h1, h2, h3⟩ := tB_inv2 h
  have hb := h3 k hk
  rw [rowB_eq hq] at hb
  simp only [Bool.and_eq_true, List.all_eq_true, List.mem_range] at hb
  have hc := hb.2.2 i hik
  unfold cell4 at hc
  rw [hr] at hc
  have hne : decide ((k : Int) = (i : Int) + N) = false := decide_eq_false (by omega)
  simp only [hne] at hc
  cases hcp : cP r q with
  | true => rfl
  | false => rw [hcp] at hc; simp at hc
theorem row_comm {N : Int} {l : List Q4} (h : tB N l = true) {i k : Nat} {r q : Q4} (hr : l[i]? = some r) (hq : l[k]? = some q) (hi : i < l.length) (hk : k < l.length) (hN : N ≤ i) (hN' : N ≤ k) : cP r q = true := by
  rcases Nat.lt_trichotomy i k with h' | h' | h'
  · exact row_comm_lt h hr hq h' hk hN
  · subst h'
    rw [hr] at hq; injection hq with hq; subst hq
    exact cP_self r
  · rw [cP_symm]; exact row_comm_lt h hq hr h' hi hN'
/-- What a product of stabilizer rows keeps. -/
def InvS (N : Int) (l : List Q4) (p : Q4) : Prop := p.1 = N ∧ vP p = true ∧ ∀ (j : Nat) (r : Q4), N ≤ j → l[j]? = some r → cP r p = true
theorem InvS.mul {N : Int} {l : List Q4} (h : tB N l = true) {p q : Q4} (hp : InvS N l p) {k : Nat} (hq : l[k]? = some q) (hk : N ≤ k) : InvS N l (mulQ p q) := by
  obtain ⟨e, g⟩ := row_vP h hq
  have lt : ∀ {j : Nat} {r : Q4}, l[j]? = some r → j < l.length := fun {j r} hr => by
    rcases Nat.lt_or_ge j l.length with h' | h'
    · exact h'
    · rw [List.getElem?_eq_none h'] at hr; cases hr
  refine ⟨hp.1, mulQ_vP hp.2.1 g (hp.1.trans e.symm), fun j r hj hr => ?_⟩
  exact cP_mul (row_vP h hr).2 hp.2.1 g (hp.2.2 j r hj hr) (row_comm h hr hq (lt hr) (lt hq) hj hk)
theorem pc0 (x : Int) : pc (an x 0) = 0 := by unfold an; simp [pc]
theorem InvS.one {N : Int} {l : List Q4} (h : tB N l = true) : InvS N l (N, 0, 0, 0) := by
  obtain ⟨h1, _, _⟩ := tB_inv2 h
  refine ⟨rfl, ?_, fun j r _ _ => ?_⟩
  · rcases four h1 with rfl | rfl | rfl | rfl <;> rfl
  · unfold cP; simp only [pc0]; rfl
end Go.Proofs.Ytbkkfmcjfbbkaaa
