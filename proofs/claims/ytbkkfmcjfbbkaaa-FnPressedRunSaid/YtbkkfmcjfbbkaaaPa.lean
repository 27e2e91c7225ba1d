/- Plain laws: Paulis and tableaux. What the models of these functions give. -/
import Derived.Test.YtbkkfmcjfbbkaaaMb
namespace Go.Proofs.Ytbkkfmcjfbbkaaa
open Go.RowKit
set_option maxRecDepth 100000
set_option linter.unusedVariables false
set_option linter.unusedSimpArgs false
abbrev Q4 := Int × Int × Int × Int
theorem w64 {x : Int} (h1 : -9223372036854775808 ≤ x) (h2 : x < 9223372036854775808) : IntKind.wrap .i64 x = x := IntWalk.i64_in _ (by omega)
theorem w64s {k n : Nat} (h : k < n) (hn : n ≤ 4194304) : IntKind.wrap .i64 ((k : Int) + 1) = ((k + 1 : Nat) : Int) := by rw [w64 (by omega) (by omega)]; omega
theorem geti_nat {α : Type} {l : List α} {k : Nat} {q : α} (h : l[k]? = some q) : geti l (k : Int) = some q := by
  have hk : k < l.length := by
    rcases Nat.lt_or_ge k l.length with h' | h'
    · exact h'
    · rw [List.getElem?_eq_none h'] at h; cases h
  unfold geti
  rw [if_pos ⟨by omega, by omega⟩, Int.toNat_natCast, h]
theorem geti_lt {α : Type} {l : List α} {k : Nat} (h : k < l.length) : geti l (k : Int) = some l[k] := geti_nat (List.getElem?_eq_getElem h)
/-- A loop that checks, one after the other. -/
theorem loop_all (L : Nat → Int → Option Bool) (n : Nat) (f : Nat → Bool) (hs : ∀ m k, k < n → L (m + 1) (k : Int) = br (f k) (L m ((k + 1 : Nat) : Int)) (some false)) (c : Option Bool) (he : ∀ m, L (m + 1) (n : Int) = c) :
    ∀ m k, k ≤ n → n - k < m → L m (k : Int) = br ((List.range' k (n - k)).all f) c (some false)
  | 0, k, _, h => by omega
  | m + 1, k, hk, h => by
    by_cases e : k = n
    · subst e; rw [he, Nat.sub_self]; rfl
    · rw [hs m k (by omega), loop_all L n f hs c he m (k + 1) (by omega) (by omega), show n - k = (n - (k + 1)) + 1 by omega, List.range'_succ, List.all_cons]
      cases f k <;> rfl
theorem FU_eq : FU = 4194304 := rfl
theorem loop_all0 (L : Nat → Int → Option Bool) (n : Nat) (f : Nat → Bool) (hn : n ≤ 4000000) (hs : ∀ m k, k < n → L (m + 1) (k : Int) = br (f k) (L m ((k + 1 : Nat) : Int)) (some false)) (c : Option Bool) (he : ∀ m, L (m + 1) (n : Int) = c) :
    L FU 0 = br ((List.range n).all f) c (some false) := by
  have := loop_all L n f hs c he FU 0 (by omega) (by rw [FU_eq]; omega)
  rw [Nat.sub_zero, ← List.range_eq_range'] at this
  exact this

theorem i_in_eq (x lo hi : Int) : i_in x lo hi = some (decide (lo ≤ x ∧ x ≤ hi)) := by
  unfold i_in i_in_j1
  by_cases h1 : lo ≤ x <;> by_cases h2 : x ≤ hi <;> simp [br, bO, h1, h2]
theorem s_in_eq (x lo hi : Int) : s_l1In x lo hi = some (decide (lo ≤ x ∧ x ≤ hi)) := by
  unfold s_l1In s_l1In_j1
  by_cases h1 : lo ≤ x <;> by_cases h2 : x ≤ hi <;> simp [br, bO, h1, h2]
/-- A valid Pauli. -/
def vP (q : Q4) : Bool := decide ((1 ≤ q.1 ∧ q.1 ≤ 4) ∧ (0 ≤ q.2.1 ∧ q.2.1 < 2 ^ q.1.toNat) ∧ (0 ≤ q.2.2.1 ∧ q.2.2.1 < 2 ^ q.1.toNat) ∧ (0 ≤ q.2.2.2 ∧ q.2.2.2 ≤ 3))
theorem vP_iff {n x z p : Int} : vP (n, x, z, p) = true ↔ (1 ≤ n ∧ n ≤ 4) ∧ (0 ≤ x ∧ x < 2 ^ n.toNat) ∧ (0 ≤ z ∧ z < 2 ^ n.toNat) ∧ (0 ≤ p ∧ p ≤ 3) := by simp [vP]
theorem four {n : Int} (h : 1 ≤ n ∧ n ≤ 4) : n = 1 ∨ n = 2 ∨ n = 3 ∨ n = 4 := by omega
theorem top_s {n : Int} (h : 1 ≤ n ∧ n ≤ 4) : IntKind.wrap .i64 ((IntKind.wrap .i64 (1 * 2 ^ min (Int.toNat (IntKind.wrap .u64 n)) (IntKind.bits .i64))) - 1) = 2 ^ n.toNat - 1 := by
  rcases four h with rfl | rfl | rfl | rfl <;> rfl
theorem top_i {n : Int} (h : 1 ≤ n ∧ n ≤ 4) : IntKind.wrap .i64 ((IntKind.wrap .i64 (1 * 2 ^ min (Int.toNat n) (IntKind.bits .i64))) - 1) = 2 ^ n.toNat - 1 := by
  rcases four h with rfl | rfl | rfl | rfl <;> rfl
theorem u64_s {n : Int} (h : 0 ≤ n ∧ n ≤ 4000000) : IntKind.wrap .u64 n = n := by rw [IntKind.wrap_u64]; omega
theorem br_and {β : Type} (b c : Bool) (k : Bool → Option β) : bO (br b (some c) (some false)) k = k (b && c) := by cases b <;> rfl
theorem br_or {β : Type} (b c : Bool) (k : Bool → Option β) : bO (br b (some true) (some c)) k = k (b || c) := by cases b <;> rfl
theorem br_and1 {β : Type} (c : Bool) (k : Bool → Option β) : bO (br true (some c) (some false)) k = k c := rfl
theorem s_valid (n x z p : Int) : s_IsValidPauli n x z p = some (vP (n, x, z, p)) := by
  unfold s_IsValidPauli s_IsValidPauli_j1
  simp only [s_in_eq, bO_some]
  by_cases hn : 1 ≤ n ∧ n ≤ 4
  · rw [top_s hn, u64_s (by omega)]
    have h0 : ¬ n < 0 := by omega
    simp only [hn, and_self, decide_true, Bool.not_true, br_false, h0, not_false_eq_true, gd_true, bO_some, br_and]
    congr 1
    rw [Bool.eq_iff_iff]
    simp only [vP, Bool.and_eq_true, decide_eq_true_eq]
    omega
  · have : vP (n, x, z, p) = false := by simp only [vP, decide_eq_false_iff_not]; omega
    simp [hn, br, this]
theorem i_valid (n x z p : Int) : i_IsValidPauli n x z p = some (vP (n, x, z, p)) := by
  unfold i_IsValidPauli i_IsValidPauli_j1
  simp only [i_in_eq, bO_some]
  by_cases hn : 1 ≤ n ∧ n ≤ 4
  · rw [top_i hn]
    have h0 : ¬ n < 0 := by omega
    simp only [hn, and_self, decide_true, Bool.not_true, br_true, br_false, h0, not_false_eq_true, gd_true, bO_some, br_and]
    congr 1
    rw [Bool.eq_iff_iff]
    simp only [vP, Bool.and_eq_true, decide_eq_true_eq]
    omega
  · have : vP (n, x, z, p) = false := by simp only [vP, decide_eq_false_iff_not]; omega
    simp [hn, br, bO, this]
/-- The number of bits among the lowest four. -/
def pc (x : Int) : Int := ((x.toNat % 2 + x.toNat / 2 % 2 + x.toNat / 4 % 2 + x.toNat / 8 % 2 : Nat) : Int)
def an (x y : Int) : Int := ((x.toNat &&& y.toNat : Nat) : Int)
def xo (x y : Int) : Int := ((x.toNat ^^^ y.toNat : Nat) : Int)
def Sm (x : Int) : Prop := 0 ≤ x ∧ x < 16
theorem Sm.fin {x : Int} (h : Sm x) : ∃ k : Fin 16, x = (k.val : Int) := ⟨⟨x.toNat, by have := h.1; have := h.2; omega⟩, by have := h.1; show x = (x.toNat : Int); omega⟩
theorem ones_i : ∀ k : Fin 16, i_ones (k.val : Int) = some (pc k.val) := by decide +kernel
theorem ones_s : ∀ k : Fin 16, s_l25Ones (k.val : Int) = some (pc k.val) := by decide +kernel
theorem i_ones_eq {x : Int} (h : Sm x) : i_ones x = some (pc x) := by obtain ⟨k, rfl⟩ := h.fin; exact ones_i k
theorem s_ones_eq {x : Int} (h : Sm x) : s_l25Ones x = some (pc x) := by obtain ⟨k, rfl⟩ := h.fin; exact ones_s k
theorem and_fin : ∀ a b : Fin 16, bits .and .i64 (a.val : Int) (b.val : Int) = ((a.val &&& b.val : Nat) : Int) := by decide +kernel
theorem xor_fin : ∀ a b : Fin 16, bits .xor .i64 (a.val : Int) (b.val : Int) = ((a.val ^^^ b.val : Nat) : Int) := by decide +kernel
theorem and_eq {x y : Int} (hx : Sm x) (hy : Sm y) : bits .and .i64 x y = an x y := by
  obtain ⟨a, rfl⟩ := hx.fin; obtain ⟨b, rfl⟩ := hy.fin; exact and_fin a b
theorem xor_eq {x y : Int} (hx : Sm x) (hy : Sm y) : bits .xor .i64 x y = xo x y := by
  obtain ⟨a, rfl⟩ := hx.fin; obtain ⟨b, rfl⟩ := hy.fin; exact xor_fin a b
theorem an_sm {x y : Int} (hx : Sm x) (hy : Sm y) : Sm (an x y) := by
  have := Nat.and_le_left (n := x.toNat) (m := y.toNat)
  have := hx.1; have := hx.2
  unfold an Sm; omega
theorem pc_bd (x : Int) : 0 ≤ pc x ∧ pc x ≤ 4 := by unfold pc; omega
theorem pow_le {n : Int} (h : 1 ≤ n ∧ n ≤ 4) : (2 : Int) ^ n.toNat ≤ 16 := by rcases four h with rfl | rfl | rfl | rfl <;> decide
theorem vP_sm {n x z p : Int} (h : vP (n, x, z, p) = true) : Sm x ∧ Sm z ∧ (0 ≤ p ∧ p ≤ 3) := by
  obtain ⟨h1, h2, h3, h4⟩ := vP_iff.1 h
  have := pow_le h1
  exact ⟨⟨h2.1, by omega⟩, ⟨h3.1, by omega⟩, h4⟩
/-- A Hermitian Pauli; two that commute. -/
def hP (q : Q4) : Bool := vP q && decide ((q.2.2.2 + pc (an q.2.1 q.2.2.1)) % 2 = 0)
def cP (a b : Q4) : Bool := decide ((pc (an a.2.1 b.2.2.1) + pc (an a.2.2.1 b.2.1)) % 2 = 0)
theorem s_herm (n x z p : Int) : s_IsHermitianPauli n x z p = some (hP (n, x, z, p)) := by
  unfold s_IsHermitianPauli s_IsHermitianPauli_j1
  rw [s_valid, bO_some]
  cases h : vP (n, x, z, p) with
  | false => simp [br, bO, hP, h]
  | true =>
    obtain ⟨h1, h2, h3⟩ := vP_sm h
    have hb := pc_bd (an x z)
    simp only [br_true, and_eq h1 h2, s_ones_eq (an_sm h1 h2), bO_some, hP, h, Bool.true_and]
    rw [w64 (by omega) (by omega), Int.tmod_eq_emod_of_nonneg (by omega)]
    rfl
theorem i_herm (n x z p : Int) : i_IsHermitianPauli n x z p = some (hP (n, x, z, p)) := by
  unfold i_IsHermitianPauli i_IsHermitianPauli_j1
  rw [i_valid, bO_some]
  cases h : vP (n, x, z, p) with
  | false => simp [br, bO, hP, h]
  | true =>
    obtain ⟨h1, h2, h3⟩ := vP_sm h
    have hb := pc_bd (an x z)
    simp only [br_true, and_eq h1 h2, i_ones_eq (an_sm h1 h2), bO_some, hP, h, Bool.true_and]
    rw [Int.tmod_eq_emod_of_nonneg (by omega), Int.tmod_eq_emod_of_nonneg (by omega)]
    congr 1
    rw [Bool.eq_iff_iff, beq_iff_eq, decide_eq_true_eq]
    omega
theorem s_comm {n x z p m y w r : Int} (ha : vP (n, x, z, p) = true) (hb : vP (m, y, w, r) = true) : s_PaulisCommute n x z p m y w r = some (cP (n, x, z, p) (m, y, w, r)) := by
  obtain ⟨h1, h2, _⟩ := vP_sm ha
  obtain ⟨h3, h4, _⟩ := vP_sm hb
  unfold s_PaulisCommute
  have b1 := pc_bd (an x w); have b2 := pc_bd (an z y)
  simp only [and_eq h1 h4, and_eq h2 h3, s_ones_eq (an_sm h1 h4), s_ones_eq (an_sm h2 h3), bO_some]
  rw [w64 (by omega) (by omega), Int.tmod_eq_emod_of_nonneg (by omega)]
  rfl
theorem i_comm {n x z p m y w r : Int} (ha : vP (n, x, z, p) = true) (hb : vP (m, y, w, r) = true) : i_PaulisCommute n x z p m y w r = some (cP (n, x, z, p) (m, y, w, r)) := by
  obtain ⟨h1, h2, _⟩ := vP_sm ha
  obtain ⟨h3, h4, _⟩ := vP_sm hb
  unfold i_PaulisCommute
  have b1 := pc_bd (an x w); have b2 := pc_bd (an z y)
  simp only [and_eq h1 h4, and_eq h2 h3, i_ones_eq (an_sm h1 h4), i_ones_eq (an_sm h2 h3), bO_some]
  rw [w64 (by omega) (by omega), Int.tmod_eq_emod_of_nonneg (by omega)]
  rfl
/-- A valid tableau. -/
def rowB (N : Int) (l : List Q4) (k : Nat) : Bool := match l[k]? with
  | some q => (q.1 == N) && (hP q && (List.range k).all fun i => match l[i]? with
    | some r => !(cP r q == decide ((k : Int) = (i : Int) + N))
    | none => false)
  | none => false
def tB (N : Int) (l : List Q4) : Bool := decide (1 ≤ N ∧ N ≤ 4) && (decide ((l.length : Int) = 2 * N) && (List.range l.length).all (rowB N l))
end Go.Proofs.Ytbkkfmcjfbbkaaa
