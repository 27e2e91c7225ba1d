/- Joined texts: Pa Pb Pm Pc Pn. -/
import Derived.Test.YtfjopjalhllplaaGreatK2
/- Plain laws: Paulis and tableaux. What the models of these functions give. -/
namespace Go.Proofs.YtfjopjalhllplaaGreat
open Go.RowKit
set_option maxRecDepth 100000
set_option linter.unusedVariables false
set_option linter.unusedSimpArgs false
abbrev Q4 := Int × Int × Int × Int
theorem w64 {x : Int} (h1 : -9223372036854775808 ≤ x) (h2 : x < 9223372036854775808) : IntKind.wrap .i64 x = x := IntWalk.i64_in _ (by omega)
theorem w64s {k n : Nat} (h : k < n) (hn : n ≤ 4194304) : IntKind.wrap .i64 ((k : Int) + 1) = ((k + 1 : Nat) : Int) := by rw [w64 (by omega) (by omega)]; omega
theorem geti_nat {α : Type} {l : List α} {k : Nat} {q : α} (h : l[k]? = some q) : geti l (k : Int) = some q := by
 have hk : k < l.length := by
  rcases Nat.lt_or_ge k l.length with h' | h'
  ·exact h'
  ·rw [List.getElem?_eq_none h'] at h; cases h
 unfold geti
 rw [if_pos ⟨by omega, by omega⟩, Int.toNat_natCast, h]
theorem geti_lt {α : Type} {l : List α} {k : Nat} (h : k < l.length) : geti l (k : Int) = some l[k] := geti_nat (List.getElem?_eq_getElem h)
/-- A loop that checks, one after the other. -/
theorem loop_all (L : Nat → Int → Option Bool) (n : Nat) (f : Nat → Bool) (hs : ∀ m k, k < n → L (m + 1) (k : Int) = br (f k) (L m ((k + 1 : Nat) : Int)) (some false)) (c : Option Bool) (he : ∀ m, L (m + 1) (n : Int) = c) :
  ∀ m k, k ≤ n → n - k < m → L m (k : Int) = br ((List.range' k (n - k)).all f) c (some false)
 | 0, k, _, h => by omega
 | m + 1, k, hk, h => by
  by_cases e : k = n
  ·subst e; rw [he, Nat.sub_self]; rfl
  ·rw [hs m k (by omega), loop_all L n f hs c he m (k + 1) (by omega) (by omega), show n - k = (n - (k + 1)) + 1 by omega, List.range'_succ, List.all_cons]
   cases f k <;> rfl
theorem FU_eq : FU = 4194304 := rfl
theorem loop_all0 (L : Nat → Int → Option Bool) (n : Nat) (f : Nat → Bool) (hn : n ≤ 4000000) (hs : ∀ m k, k < n → L (m + 1) (k : Int) = br (f k) (L m ((k + 1 : Nat) : Int)) (some false)) (c : Option Bool) (he : ∀ m, L (m + 1) (n : Int) = c) :
  L FU 0 = br ((List.range n).all f) c (some false) := by
 have := loop_all L n f hs c he FU 0 (by omega) (by rw [FU_eq]; omega)
 rw [Nat.sub_zero, ← List.range_eq_range'] at this
 exact this

theorem i_in_eq (x lo hi : Int) : i_in x lo hi = some (decide (lo ≤ x ∧ x ≤ hi)) := by
 unfold i_in i_in_j1
 by_cases h1 : lo ≤ x <;> by_cases h2 : x ≤ hi <;> simp [br, bO, h1, h2]
theorem s_in_eq (x lo hi : Int) : s_l1In x lo hi = some (decide (lo ≤ x ∧ x ≤ hi)) := by
 unfold s_l1In s_l1In_j1
 by_cases h1 : lo ≤ x <;> by_cases h2 : x ≤ hi <;> simp [br, bO, h1, h2]
/-- A valid Pauli. -/
def vP (q : Q4) : Bool := decide ((1 ≤ q.1 ∧ q.1 ≤ 4) ∧ (0 ≤ q.2.1 ∧ q.2.1 < 2 ^ q.1.toNat) ∧ (0 ≤ q.2.2.1 ∧ q.2.2.1 < 2 ^ q.1.toNat) ∧ (0 ≤ q.2.2.2 ∧ q.2.2.2 ≤ 3))
theorem vP_iff {n x z p : Int} : vP (n, x, z, p) = true ↔ (1 ≤ n ∧ n ≤ 4) ∧ (0 ≤ x ∧ x < 2 ^ n.toNat) ∧ (0 ≤ z ∧ z < 2 ^ n.toNat) ∧ (0 ≤ p ∧ p ≤ 3) := by simp [vP]
theorem four {n : Int} (h : 1 ≤ n ∧ n ≤ 4) : n = 1 ∨ n = 2 ∨ n = 3 ∨ n = 4 := by omega
theorem top_s {n : Int} (h : 1 ≤ n ∧ n ≤ 4) : IntKind.wrap .i64 ((IntKind.wrap .i64 (1 * 2 ^ min (Int.toNat (IntKind.wrap .u64 n)) (IntKind.bits .i64))) - 1) = 2 ^ n.toNat - 1 := by
 rcases four h with rfl | rfl | rfl | rfl <;> rfl
theorem top_i {n : Int} (h : 1 ≤ n ∧ n ≤ 4) : IntKind.wrap .i64 ((IntKind.wrap .i64 (1 * 2 ^ min (Int.toNat n) (IntKind.bits .i64))) - 1) = 2 ^ n.toNat - 1 := by
 rcases four h with rfl | rfl | rfl | rfl <;> rfl
theorem u64_s {n : Int} (h : 0 ≤ n ∧ n ≤ 4000000) : IntKind.wrap .u64 n = n := by rw [IntKind.wrap_u64]; omega
theorem br_and {β : Type} (b c : Bool) (k : Bool → Option β) : bO (br b (some c) (some false)) k = k (b && c) := by cases b <;> rfl
theorem br_or {β : Type} (b c : Bool) (k : Bool → Option β) : bO (br b (some true) (some c)) k = k (b || c) := by cases b <;> rfl
theorem s_valid (n x z p : Int) : s_IsValidPauli n x z p = some (vP (n, x, z, p)) := by
 unfold s_IsValidPauli s_IsValidPauli_j1
 simp only [s_in_eq, bO_some]
 by_cases hn : 1 ≤ n ∧ n ≤ 4
 ·rw [top_s hn, u64_s (by omega)]
  have h0 : ¬ n < 0 := by omega
  simp only [hn, and_self, decide_true, Bool.not_true, br_false, h0, not_false_eq_true, gd_true, bO_some, br_and]
  congr 1
  rw [Bool.eq_iff_iff]
  simp only [vP, Bool.and_eq_true, decide_eq_true_eq]
  omega
 ·have : vP (n, x, z, p) = false := by simp only [vP, decide_eq_false_iff_not]; omega
  simp [hn, br, this]
theorem i_valid (n x z p : Int) : i_IsValidPauli n x z p = some (vP (n, x, z, p)) := by
 unfold i_IsValidPauli i_IsValidPauli_j1
 simp only [i_in_eq, bO_some]
 by_cases hn : 1 ≤ n ∧ n ≤ 4
 ·rw [top_i hn]
  have h0 : ¬ n < 0 := by omega
  simp only [hn, and_self, decide_true, Bool.not_true, br_true, br_false, h0, not_false_eq_true, gd_true, bO_some, br_and]
  congr 1
  rw [Bool.eq_iff_iff]
  simp only [vP, Bool.and_eq_true, decide_eq_true_eq]
  omega
 ·have : vP (n, x, z, p) = false := by simp only [vP, decide_eq_false_iff_not]; omega
  simp [hn, br, bO, this]
/-- The number of bits among the lowest four. -/
def pc (x : Int) : Int := ((x.toNat % 2 + x.toNat / 2 % 2 + x.toNat / 4 % 2 + x.toNat / 8 % 2 : Nat) : Int)
def an (x y : Int) : Int := ((x.toNat &&& y.toNat : Nat) : Int)
def xo (x y : Int) : Int := ((x.toNat ^^^ y.toNat : Nat) : Int)
def Sm (x : Int) : Prop := 0 ≤ x ∧ x < 16
theorem Sm.fin {x : Int} (h : Sm x) : ∃ k : Fin 16, x = (k.val : Int) := ⟨⟨x.toNat, by have := h.1; have := h.2; omega⟩, by have := h.1; show x = (x.toNat : Int); omega⟩
theorem ones_i : ∀ k : Fin 16, i_ones (k.val : Int) = some (pc k.val) := by decide +kernel
theorem ones_s : ∀ k : Fin 16, s_l25Ones (k.val : Int) = some (pc k.val) := by decide +kernel
theorem i_ones_eq {x : Int} (h : Sm x) : i_ones x = some (pc x) := by obtain ⟨k, rfl⟩ := h.fin; exact ones_i k
theorem s_ones_eq {x : Int} (h : Sm x) : s_l25Ones x = some (pc x) := by obtain ⟨k, rfl⟩ := h.fin; exact ones_s k
theorem and_fin : ∀ a b : Fin 16, bits .and .i64 (a.val : Int) (b.val : Int) = ((a.val &&& b.val : Nat) : Int) := by decide +kernel
theorem xor_fin : ∀ a b : Fin 16, bits .xor .i64 (a.val : Int) (b.val : Int) = ((a.val ^^^ b.val : Nat) : Int) := by decide +kernel
theorem and_eq {x y : Int} (hx : Sm x) (hy : Sm y) : bits .and .i64 x y = an x y := by
 obtain ⟨a, rfl⟩ := hx.fin; obtain ⟨b, rfl⟩ := hy.fin; exact and_fin a b
theorem xor_eq {x y : Int} (hx : Sm x) (hy : Sm y) : bits .xor .i64 x y = xo x y := by
 obtain ⟨a, rfl⟩ := hx.fin; obtain ⟨b, rfl⟩ := hy.fin; exact xor_fin a b
theorem an_sm {x y : Int} (hx : Sm x) (hy : Sm y) : Sm (an x y) := by
 have := Nat.and_le_left (n := x.toNat) (m := y.toNat)
 have := hx.1; have := hx.2
 unfold an Sm; omega
theorem pc_bd (x : Int) : 0 ≤ pc x ∧ pc x ≤ 4 := by unfold pc; omega
theorem pow_le {n : Int} (h : 1 ≤ n ∧ n ≤ 4) : (2 : Int) ^ n.toNat ≤ 16 := by rcases four h with rfl | rfl | rfl | rfl <;> decide
theorem vP_sm {n x z p : Int} (h : vP (n, x, z, p) = true) : Sm x ∧ Sm z ∧ (0 ≤ p ∧ p ≤ 3) := by
 obtain ⟨h1, h2, h3, h4⟩ := vP_iff.1 h
 have := pow_le h1
 exact ⟨⟨h2.1, by omega⟩, ⟨h3.1, by omega⟩, h4⟩
/-- A Hermitian Pauli; two that commute. -/
def hP (q : Q4) : Bool := vP q && decide ((q.2.2.2 + pc (an q.2.1 q.2.2.1)) % 2 = 0)
def cP (a b : Q4) : Bool := decide ((pc (an a.2.1 b.2.2.1) + pc (an a.2.2.1 b.2.1)) % 2 = 0)
theorem s_herm (n x z p : Int) : s_IsHermitianPauli n x z p = some (hP (n, x, z, p)) := by
 unfold s_IsHermitianPauli s_IsHermitianPauli_j1
 rw [s_valid, bO_some]
 cases h : vP (n, x, z, p) with
 | false => simp [br, bO, hP, h]
 | true =>
  obtain ⟨h1, h2, h3⟩ := vP_sm h
  have hb := pc_bd (an x z)
  simp only [br_true, and_eq h1 h2, s_ones_eq (an_sm h1 h2), bO_some, hP, h, Bool.true_and]
  rw [w64 (by omega) (by omega), Int.tmod_eq_emod_of_nonneg (by omega)]
  rfl
theorem i_herm (n x z p : Int) : i_IsHermitianPauli n x z p = some (hP (n, x, z, p)) := by
 unfold i_IsHermitianPauli i_IsHermitianPauli_j1
 rw [i_valid, bO_some]
 cases h : vP (n, x, z, p) with
 | false => simp [br, bO, hP, h]
 | true =>
  obtain ⟨h1, h2, h3⟩ := vP_sm h
  have hb := pc_bd (an x z)
  simp only [br_true, and_eq h1 h2, i_ones_eq (an_sm h1 h2), bO_some, hP, h, Bool.true_and]
  rw [Int.tmod_eq_emod_of_nonneg (by omega), Int.tmod_eq_emod_of_nonneg (by omega)]
  congr 1
  rw [Bool.eq_iff_iff, beq_iff_eq, decide_eq_true_eq]
  omega
theorem s_comm {n x z p m y w r : Int} (ha : vP (n, x, z, p) = true) (hb : vP (m, y, w, r) = true) : s_PaulisCommute n x z p m y w r = some (cP (n, x, z, p) (m, y, w, r)) := by
 obtain ⟨h1, h2, _⟩ := vP_sm ha
 obtain ⟨h3, h4, _⟩ := vP_sm hb
 unfold s_PaulisCommute
 have b1 := pc_bd (an x w); have b2 := pc_bd (an z y)
 simp only [and_eq h1 h4, and_eq h2 h3, s_ones_eq (an_sm h1 h4), s_ones_eq (an_sm h2 h3), bO_some]
 rw [w64 (by omega) (by omega), Int.tmod_eq_emod_of_nonneg (by omega)]
 rfl
theorem i_comm {n x z p m y w r : Int} (ha : vP (n, x, z, p) = true) (hb : vP (m, y, w, r) = true) : i_PaulisCommute n x z p m y w r = some (cP (n, x, z, p) (m, y, w, r)) := by
 obtain ⟨h1, h2, _⟩ := vP_sm ha
 obtain ⟨h3, h4, _⟩ := vP_sm hb
 unfold i_PaulisCommute
 have b1 := pc_bd (an x w); have b2 := pc_bd (an z y)
 simp only [and_eq h1 h4, and_eq h2 h3, i_ones_eq (an_sm h1 h4), i_ones_eq (an_sm h2 h3), bO_some]
 rw [w64 (by omega) (by omega), Int.tmod_eq_emod_of_nonneg (by omega)]
 rfl
/-- A valid tableau. -/
def rowB (N : Int) (l : List Q4) (k : Nat) : Bool := match l[k]? with
 | some q => (q.1 == N) && (hP q && (List.range k).all fun i => match l[i]? with
   | some r => !(cP r q == decide ((k : Int) = (i : Int) + N))
   | none => false)
 | none => false
def tB (N : Int) (l : List Q4) : Bool := decide (1 ≤ N ∧ N ≤ 4) && (decide ((l.length : Int) = 2 * N) && (List.range l.length).all (rowB N l))
end Go.Proofs.YtfjopjalhllplaaGreat
/- Plain laws: valid tableaux. -/
namespace Go.Proofs.YtfjopjalhllplaaGreat
open Go.RowKit
set_option maxRecDepth 100000
set_option linter.unusedVariables false
set_option linter.unusedSimpArgs false
theorem loop_allI (L : Nat → Int → Option Bool) (n : Nat) (f : Nat → Bool) (hs : ∀ m k, k < n → (∀ j, j < k → f j = true) → L (m + 1) (k : Int) = br (f k) (L m ((k + 1 : Nat) : Int)) (some false)) (c : Option Bool) (he : ∀ m, L (m + 1) (n : Int) = c) :
  ∀ m k, k ≤ n → n - k < m → (∀ j, j < k → f j = true) → L m (k : Int) = br ((List.range' k (n - k)).all f) c (some false)
 | 0, k, _, h, _ => by omega
 | m + 1, k, hk, h, hj => by
  by_cases e : k = n
  ·subst e; rw [he, Nat.sub_self]; rfl
  ·rw [hs m k (by omega) hj, show n - k = (n - (k + 1)) + 1 by omega, List.range'_succ, List.all_cons]
   cases hf : f k with
   | false => rfl
   | true =>
    rw [br_true, loop_allI L n f hs c he m (k + 1) (by omega) (by omega) (fun j hjk => by
      rcases Nat.lt_or_ge j k with h' | h'
      · exact hj j h'
      · obtain rfl : j = k := by omega
        exact hf)]
    rfl
theorem loop_allI0 (L : Nat → Int → Option Bool) (n : Nat) (f : Nat → Bool) (hn : n ≤ 4000000) (hs : ∀ m k, k < n → (∀ j, j < k → f j = true) → L (m + 1) (k : Int) = br (f k) (L m ((k + 1 : Nat) : Int)) (some false)) (c : Option Bool) (he : ∀ m, L (m + 1) (n : Int) = c) :
  L FU 0 = br ((List.range n).all f) c (some false) := by
 have := loop_allI L n f hs c he FU 0 (by omega) (by rw [FU_eq]; omega) (by omega)
 rw [Nat.sub_zero, ← List.range_eq_range'] at this
 exact this
theorem rowB_herm {N : Int} {l : List Q4} {k : Nat} {q : Q4} (h : rowB N l k = true) (hq : l[k]? = some q) : q.1 = N ∧ hP q = true := by
 unfold rowB at h
 rw [hq] at h
 simp only [Bool.and_eq_true, beq_iff_eq] at h
 exact ⟨h.1, h.2.1⟩
theorem hP_vP {q : Q4} (h : hP q = true) : vP q = true := by
 unfold hP at h
 rw [Bool.and_eq_true] at h
 exact h.1
def cell4 (N : Int) (l : List Q4) (q : Q4) (k i : Nat) : Bool := match l[i]? with
 | some r => !(cP r q == decide ((k : Int) = (i : Int) + N))
 | none => false
theorem rowB_eq {N : Int} {l : List Q4} {k : Nat} {q : Q4} (hq : l[k]? = some q) : rowB N l k = ((q.1 == N) && (hP q && (List.range k).all (cell4 N l q k))) := by
 unfold rowB; rw [hq]; rfl
theorem s_tab (N : Int) (l : List Q4) (hl : l.length ≤ 1048576) : s_IsValidTableau N l = some (tB N l) := by
 unfold s_IsValidTableau
 rw [s_in_eq, bO_some]
 by_cases hN : 1 ≤ N ∧ N ≤ 4
 ·rw [w64 (by omega) (by omega)]
  simp only [hN, and_self, decide_true, Bool.not_true, br_false, bO_some]
  unfold tB s_IsValidTableau_j1
  by_cases hlen : (l.length : Int) = 2 * N
  ·simp only [hlen, hN, and_self, bne_self_eq_false, br_false, decide_true, Bool.true_and]
   rw [loop_allI0 (s_IsValidTableau_l1 N l) l.length (rowB N l) (by omega) ?_ (some true) ?_]
   ·cases (List.range l.length).all (rowB N l) <;> rfl
   ·intro m k hk hj
    have hq := List.getElem?_eq_getElem hk
    obtain ⟨q, hqe⟩ : ∃ q, q = l[k] := ⟨_, rfl⟩
    rw [← hqe] at hq
    rw [s_IsValidTableau_l1, geti_nat hq, rowB_eq hq]
    have hlt : (k : Int) < (l.length : Int) := by omega
    simp only [hlt, decide_true, br_true, bO_some, s_herm]
    cases hqN : (q.1 == N) with
    | false =>
     have : (q.1 != N) = true := by simp only [bne, hqN, Bool.not_false]
     simp only [this, br_true, bO_some, s_IsValidTableau_j8, Bool.false_and, br_false]
    | true =>
     have : (q.1 != N) = false := by simp only [bne, hqN, Bool.not_true]
     simp only [this, br_false, bO_some, s_IsValidTableau_j8, Bool.true_and]
     cases hh : hP q with
     | false => simp only [show hP (q.1, q.2.1, q.2.2.1, q.2.2.2) = false from hh, Bool.not_false, br_true, Bool.false_and, br_false]
     | true =>
      simp only [show hP (q.1, q.2.1, q.2.2.1, q.2.2.2) = true from hh, Bool.not_true, br_false, Bool.true_and]
      rw [loop_allI0 (s_IsValidTableau_l4 N l k (s_IsValidTableau_l1 N l m)) k (cell4 N l q k) (by omega) ?_ (s_IsValidTableau_l1 N l m ((k + 1 : Nat) : Int)) ?_]
      ·intro m' i hi _
       have hir : i < l.length := by omega
       have hr := List.getElem?_eq_getElem hir
       have hrv := hP_vP (rowB_herm (hj i hi) hr).2
       rw [s_IsValidTableau_l4, geti_nat hr, geti_nat hq, w64s hi (by omega), w64 (by omega) (by omega)]
       have hlt' : (i : Int) < (k : Int) := by omega
       simp only [hlt', decide_true, br_true, bO_some]
       rw [s_comm (by exact hrv) (by exact hP_vP hh), bO_some]
       unfold cell4
       rw [hr]
       show br (cP l[i] q == decide ((k : Int) = (i : Int) + N)) _ _ = br (!(cP l[i] q == decide ((k : Int) = (i : Int) + N))) _ _
       cases (cP l[i] q == decide ((k : Int) = (i : Int) + N)) <;> rfl
      ·intro m'
       rw [s_IsValidTableau_l4]
       have hlt' : ¬ (k : Int) < (k : Int) := by omega
       simp only [hlt', decide_false, br_false, s_IsValidTableau_j7]
       rw [w64s (n := l.length) hk (by omega)]
   ·intro m
    rw [s_IsValidTableau_l1]
    have hlt : ¬ (l.length : Int) < (l.length : Int) := by omega
    simp only [hlt, decide_false, br_false, s_IsValidTableau_j2]
  ·have : ((l.length : Int) != 2 * N) = true := by simpa using hlen
   simp only [this, br_true, hlen, decide_false, Bool.false_and, Bool.and_false]
 ·simp [hN, br, bO, s_IsValidTableau_j1, tB]
theorem slc_pre {α : Type} {l : List α} {k : Nat} (h : k ≤ l.length) : slc l 0 (k : Int) = some (l.take k) := by
 unfold slc
 rw [if_pos ⟨by omega, by omega, by omega⟩]
 simp
theorem i_tab (N : Int) (l : List Q4) (hl : l.length ≤ 1048576) : i_IsValidTableau N l = some (tB N l) := by
 unfold i_IsValidTableau
 rw [i_in_eq, bO_some]
 by_cases hN : 1 ≤ N ∧ N ≤ 4
 ·rw [w64 (by omega) (by omega)]
  simp only [hN, and_self, decide_true, Bool.not_true, br_false, bO_some]
  unfold tB i_IsValidTableau_j1
  by_cases hlen : (l.length : Int) = 2 * N
  ·have hne : ((l.length : Int) != 2 * N) = false := by simpa using hlen
   simp only [hlen, hN, and_self, bne_self_eq_false, br_false, decide_true, Bool.true_and]
   rw [← hlen]
   rw [loop_allI0 (fun m k => i_IsValidTableau_l1 N l m (l.length : Int) k) l.length (rowB N l) (by omega) ?_ (some true) ?_]
   ·cases (List.range l.length).all (rowB N l) <;> rfl
   ·intro m k hk hj
    have hq := List.getElem?_eq_getElem hk
    obtain ⟨q, hqe⟩ : ∃ q, q = l[k] := ⟨_, rfl⟩
    rw [← hqe] at hq
    show i_IsValidTableau_l1 N l (m + 1) (l.length : Int) (k : Int) = br (rowB N l k) (i_IsValidTableau_l1 N l m (l.length : Int) ((k + 1 : Nat) : Int)) (some false)
    rw [i_IsValidTableau_l1, geti_nat hq, rowB_eq hq]
    have hlt : (k : Int) < (l.length : Int) := by omega
    simp only [hlt, decide_true, br_true, bO_some, i_herm]
    cases hqN : (q.1 == N) with
    | false =>
     have : (q.1 != N) = true := by simp only [bne, hqN, Bool.not_false]
     simp only [this, br_true, bO_some, i_IsValidTableau_j8, Bool.false_and, br_false]
    | true =>
     have : (q.1 != N) = false := by simp only [bne, hqN, Bool.not_true]
     simp only [this, br_false, bO_some, i_IsValidTableau_j8, Bool.true_and]
     cases hh : hP q with
     | false => simp only [show hP (q.1, q.2.1, q.2.2.1, q.2.2.2) = false from hh, Bool.not_false, br_true, Bool.false_and, br_false]
     | true =>
      simp only [show hP (q.1, q.2.1, q.2.2.1, q.2.2.2) = true from hh, Bool.not_true, br_false, Bool.true_and]
      rw [slc_pre (by omega), bO_some]
      have htl : (l.take k).length = k := by simp; omega
      rw [htl]
      rw [loop_allI0 (fun m' i => i_IsValidTableau_l7 N (l.length : Int) k (i_IsValidTableau_l1 N l m) q (l.take k) m' (k : Int) i) k (cell4 N l q k) (by omega) ?_ (i_IsValidTableau_l1 N l m (l.length : Int) ((k + 1 : Nat) : Int)) ?_]
      ·intro m' i hi _
       have hir : i < l.length := by omega
       have hr := List.getElem?_eq_getElem hir
       have hrt : (l.take k)[i]? = some l[i] := by rw [List.getElem?_take, if_pos hi]; exact hr
       have hrv := hP_vP (rowB_herm (hj i hi) hr).2
       show i_IsValidTableau_l7 N (l.length : Int) k (i_IsValidTableau_l1 N l m) q (l.take k) (m' + 1) (k : Int) (i : Int) = br (cell4 N l q k i) (i_IsValidTableau_l7 N (l.length : Int) k (i_IsValidTableau_l1 N l m) q (l.take k) m' (k : Int) ((i + 1 : Nat) : Int)) (some false)
       rw [i_IsValidTableau_l7, geti_nat hrt, w64s hi (by omega), w64 (by omega) (by omega)]
       have hlt' : (i : Int) < (k : Int) := by omega
       simp only [hlt', decide_true, br_true, bO_some]
       rw [i_comm (by exact hrv) (by exact hP_vP hh), bO_some]
       unfold cell4
       rw [hr]
       show br (cP l[i] q == decide ((k : Int) = (i : Int) + N)) _ _ = br (!(cP l[i] q == decide ((k : Int) = (i : Int) + N))) _ _
       cases (cP l[i] q == decide ((k : Int) = (i : Int) + N)) <;> rfl
      ·intro m'
       show i_IsValidTableau_l7 N (l.length : Int) k (i_IsValidTableau_l1 N l m) q (l.take k) (m' + 1) (k : Int) (k : Int) = _
       rw [i_IsValidTableau_l7]
       have hlt' : ¬ (k : Int) < (k : Int) := by omega
       simp only [hlt', decide_false, br_false, i_IsValidTableau_j7]
       rw [w64s (n := l.length) hk (by omega)]
   ·intro m
    show i_IsValidTableau_l1 N l (m + 1) (l.length : Int) (l.length : Int) = _
    rw [i_IsValidTableau_l1]
    have hlt : ¬ (l.length : Int) < (l.length : Int) := by omega
    simp only [hlt, decide_false, br_false, i_IsValidTableau_j2]
  ·have : ((l.length : Int) != 2 * N) = true := by simpa using hlen
   simp only [this, br_true, hlen, decide_false, Bool.false_and, Bool.and_false]
 ·simp [hN, br, bO, i_IsValidTableau_j1, tB]
end Go.Proofs.YtfjopjalhllplaaGreat
/- Plain laws: products of Paulis. -/
namespace Go.Proofs.YtfjopjalhllplaaGreat
open Go.RowKit
set_option maxRecDepth 100000
set_option linter.unusedVariables false
set_option linter.unusedSimpArgs false
def mulQ (a b : Q4) : Q4 := (a.1, xo a.2.1 b.2.1, xo a.2.2.1 b.2.2.1, (a.2.2.2 + b.2.2.2 + 2 * pc (an a.2.2.1 b.2.1)) % 4)
theorem s_mul {n x z p y w r : Int} (ha : vP (n, x, z, p) = true) (hb : vP (n, y, w, r) = true) : s_MulPauli n x z p n y w r = some (n, xo x y, xo z w, (p + r + 2 * pc (an z y)) % 4, true) := by
 obtain ⟨h1, h2, h5⟩ := vP_sm ha
 obtain ⟨h3, h4, h6⟩ := vP_sm hb
 have b1 := pc_bd (an z y)
 unfold s_MulPauli s_MulPauli_j1
 simp only [s_valid, ha, hb, bO_some, Bool.not_true, br_false, bne_self_eq_false, and_eq h2 h3, s_ones_eq (an_sm h2 h3), xor_eq h1 h3, xor_eq h2 h4]
 rw [w64 (x := p + r) (by omega) (by omega), w64 (x := 2 * _) (by omega) (by omega), w64 (by omega) (by omega), Int.tmod_eq_emod_of_nonneg (by omega)]
theorem i_mul {n x z p y w r : Int} (ha : vP (n, x, z, p) = true) (hb : vP (n, y, w, r) = true) : i_MulPauli n x z p n y w r = some (n, xo x y, xo z w, (p + r + 2 * pc (an z y)) % 4, true) := by
 obtain ⟨h1, h2, h5⟩ := vP_sm ha
 obtain ⟨h3, h4, h6⟩ := vP_sm hb
 have b1 := pc_bd (an z y)
 unfold i_MulPauli i_MulPauli_j1
 simp only [i_valid, ha, hb, bO_some, Bool.not_true, br_false, bne_self_eq_false, and_eq h2 h3, i_ones_eq (an_sm h2 h3), xor_eq h1 h3, xor_eq h2 h4]
 rw [w64 (x := p + r) (by omega) (by omega), w64 (x := 2 * _) (by omega) (by omega), w64 (by omega) (by omega), Int.tmod_eq_emod_of_nonneg (by omega)]
theorem xo_lt {x y : Int} {k : Nat} (hx : 0 ≤ x ∧ x < 2 ^ k) (hy : 0 ≤ y ∧ y < 2 ^ k) : 0 ≤ xo x y ∧ xo x y < 2 ^ k := by
 have e : ((2 ^ k : Nat) : Int) = 2 ^ k := by simp
 have := Nat.xor_lt_two_pow (x := x.toNat) (y := y.toNat) (n := k) (by omega) (by omega)
 unfold xo; omega
theorem mulQ_vP {a b : Q4} (ha : vP a = true) (hb : vP b = true) (h : a.1 = b.1) : vP (mulQ a b) = true := by
 obtain ⟨n, x, z, p⟩ := a
 obtain ⟨m, y, w, r⟩ := b
 simp only at h
 subst h
 obtain ⟨h1, h2, h3, h4⟩ := vP_iff.1 ha
 obtain ⟨_, k2, k3, k4⟩ := vP_iff.1 hb
 have b1 := pc_bd (an z y)
 exact vP_iff.2 ⟨h1, xo_lt h2 k2, xo_lt h3 k3, by omega⟩
theorem pc_xo_fin : ∀ r a b : Fin 16, (pc (an (r.val : Int) (xo (a.val : Int) (b.val : Int))) - pc (an (r.val : Int) (a.val : Int)) - pc (an (r.val : Int) (b.val : Int))) % 2 = 0 := by decide +kernel
theorem pc_xo {r a b : Int} (hr : Sm r) (ha : Sm a) (hb : Sm b) : (pc (an r (xo a b)) - pc (an r a) - pc (an r b)) % 2 = 0 := by
 obtain ⟨r, rfl⟩ := hr.fin; obtain ⟨a, rfl⟩ := ha.fin; obtain ⟨b, rfl⟩ := hb.fin
 exact pc_xo_fin r a b
theorem an_comm (a b : Int) : an a b = an b a := by unfold an; rw [Nat.and_comm]
theorem cP_symm (a b : Q4) : cP a b = cP b a := by
 unfold cP
 rw [an_comm b.2.1, an_comm b.2.2.1, Int.add_comm]
theorem cP_self (a : Q4) : cP a a = true := by
 unfold cP
 rw [an_comm a.2.2.1]
 rw [decide_eq_true_eq]; omega
theorem cP_mul {r a b : Q4} (hr : vP r = true) (ha : vP a = true) (hb : vP b = true) (h1 : cP r a = true) (h2 : cP r b = true) : cP r (mulQ a b) = true := by
 obtain ⟨r0, r1, r2, r3⟩ := r
 obtain ⟨a0, a1, a2, a3⟩ := a
 obtain ⟨b0, b1, b2, b3⟩ := b
 obtain ⟨u1, u2, _⟩ := vP_sm hr
 obtain ⟨v1, v2, _⟩ := vP_sm ha
 obtain ⟨w1, w2, _⟩ := vP_sm hb
 simp only [cP, mulQ] at h1 h2 ⊢
 have h1 := of_decide_eq_true h1
 have h2 := of_decide_eq_true h2
 refine decide_eq_true ?_
 have e1 := pc_xo u1 v2 w2
 have e2 := pc_xo u2 v1 w1
 omega
theorem tB_inv2 {N : Int} {l : List Q4} (h : tB N l = true) : (1 ≤ N ∧ N ≤ 4) ∧ (l.length : Int) = 2 * N ∧ ∀ k, k < l.length → rowB N l k = true := by
 unfold tB at h
 simp only [Bool.and_eq_true, decide_eq_true_eq, List.all_eq_true, List.mem_range] at h
 exact ⟨h.1, h.2.1, h.2.2⟩
theorem row_vP {N : Int} {l : List Q4} (h : tB N l = true) {k : Nat} {q : Q4} (hq : l[k]? = some q) : q.1 = N ∧ vP q = true := by
 obtain ⟨_, _, h3⟩ := tB_inv2 h
 have hk : k < l.length := by
  rcases Nat.lt_or_ge k l.length with h' | h'
  ·exact h'
  ·rw [List.getElem?_eq_none h'] at hq; cases hq
 obtain ⟨e, g⟩ := rowB_herm (h3 k hk) hq
 exact ⟨e, hP_vP g⟩
theorem row_comm_lt {N : Int} {l : List Q4} (h : tB N l = true) {i k : Nat} {r q : Q4} (hr : l[i]? = some r) (hq : l[k]? = some q) (hik : i < k) (hk : k < l.length) (hN : N ≤ i) : cP r q = true := by
 obtain ⟨h1, h2, h3⟩ := tB_inv2 h
 have hb := h3 k hk
 rw [rowB_eq hq] at hb
 simp only [Bool.and_eq_true, List.all_eq_true, List.mem_range] at hb
 have hc := hb.2.2 i hik
 unfold cell4 at hc
 rw [hr] at hc
 have hne : decide ((k : Int) = (i : Int) + N) = false := decide_eq_false (by omega)
 simp only [hne] at hc
 cases hcp : cP r q with
 | true => rfl
 | false => rw [hcp] at hc; simp at hc
theorem row_comm {N : Int} {l : List Q4} (h : tB N l = true) {i k : Nat} {r q : Q4} (hr : l[i]? = some r) (hq : l[k]? = some q) (hi : i < l.length) (hk : k < l.length) (hN : N ≤ i) (hN' : N ≤ k) : cP r q = true := by
 rcases Nat.lt_trichotomy i k with h' | h' | h'
 ·exact row_comm_lt h hr hq h' hk hN
 ·subst h'
  rw [hr] at hq; injection hq with hq; subst hq
  exact cP_self r
 ·rw [cP_symm]; exact row_comm_lt h hq hr h' hi hN'
/-- What a product of stabilizer rows keeps. -/
def InvS (N : Int) (l : List Q4) (p : Q4) : Prop := p.1 = N ∧ vP p = true ∧ ∀ (j : Nat) (r : Q4), N ≤ j → l[j]? = some r → cP r p = true
theorem InvS.mul {N : Int} {l : List Q4} (h : tB N l = true) {p q : Q4} (hp : InvS N l p) {k : Nat} (hq : l[k]? = some q) (hk : N ≤ k) : InvS N l (mulQ p q) := by
 obtain ⟨e, g⟩ := row_vP h hq
 have lt : ∀ {j : Nat} {r : Q4}, l[j]? = some r → j < l.length := fun {j r} hr => by
  rcases Nat.lt_or_ge j l.length with h' | h'
  ·exact h'
  ·rw [List.getElem?_eq_none h'] at hr; cases hr
 refine ⟨hp.1, mulQ_vP hp.2.1 g (hp.1.trans e.symm), fun j r hj hr => ?_⟩
 exact cP_mul (row_vP h hr).2 hp.2.1 g (hp.2.2 j r hj hr) (row_comm h hr hq (lt hr) (lt hq) hj hk)
theorem pc0 (x : Int) : pc (an x 0) = 0 := by unfold an; simp [pc]
theorem InvS.one {N : Int} {l : List Q4} (h : tB N l = true) : InvS N l (N, 0, 0, 0) := by
 obtain ⟨h1, _, _⟩ := tB_inv2 h
 refine ⟨rfl, ?_, fun j r _ _ => ?_⟩
 ·rcases four h1 with rfl | rfl | rfl | rfl <;> rfl
 ·unfold cP; simp only [pc0]; rfl
end Go.Proofs.YtfjopjalhllplaaGreat
/- Plain law: CosetIndex. -/
namespace Go.Proofs.YtfjopjalhllplaaGreat
open Go.RowKit
set_option maxRecDepth 100000
set_option linter.unusedVariables false
set_option linter.unusedSimpArgs false
theorem fin_of {x : Int} {n : Nat} (h : 0 ≤ x ∧ x < n) : ∃ k : Fin n, x = (k.val : Int) := ⟨⟨x.toNat, by omega⟩, by show x = (x.toNat : Int); omega⟩
theorem tB_inv {N : Int} {l : List Q4} (h : tB N l = true) : (1 ≤ N ∧ N ≤ 4) ∧ (l.length : Int) = 2 * N ∧ ∀ k, k < l.length → rowB N l k = true := by
 unfold tB at h
 simp only [Bool.and_eq_true, decide_eq_true_eq, List.all_eq_true, List.mem_range] at h
 exact ⟨h.1, h.2.1, h.2.2⟩
theorem two_rows {l : List Q4} (h : tB 1 l = true) : ∃ x0 z0 x1 z1 : Fin 2, ∃ p0 p1 : Fin 4, l = ([(1, x0.val, z0.val, p0.val), (1, x1.val, z1.val, p1.val)] : List Q4) := by
 obtain ⟨_, h2, h3⟩ := tB_inv h
 have hl : l.length = 2 := by omega
 match l, hl with
 | [(n0, x0, z0, p0), (n1, x1, z1, p1)], _ =>
  obtain ⟨e0, r0⟩ := rowB_herm (h3 0 (by simp)) (q := (n0, x0, z0, p0)) rfl
  obtain ⟨e1, r1⟩ := rowB_herm (h3 1 (by simp)) (q := (n1, x1, z1, p1)) rfl
  simp only at e0 e1
  subst e0 e1
  obtain ⟨_, a1, a2, a3⟩ := vP_iff.1 (hP_vP r0)
  obtain ⟨_, b1, b2, b3⟩ := vP_iff.1 (hP_vP r1)
  have e2 : (2 : Int) ^ (1 : Int).toNat = 2 := rfl
  rw [e2] at a1 a2 b1 b2
  obtain ⟨x0, rfl⟩ := fin_of (n := 2) a1
  obtain ⟨z0, rfl⟩ := fin_of (n := 2) a2
  obtain ⟨p0, rfl⟩ := fin_of (n := 4) (by omega : 0 ≤ p0 ∧ p0 < (4 : Nat))
  obtain ⟨x1, rfl⟩ := fin_of (n := 2) b1
  obtain ⟨z1, rfl⟩ := fin_of (n := 2) b2
  obtain ⟨p1, rfl⟩ := fin_of (n := 4) (by omega : 0 ≤ p1 ∧ p1 < (4 : Nat))
  exact ⟨x0, z0, x1, z1, p0, p1, rfl⟩
end Go.Proofs.YtfjopjalhllplaaGreat
/- Plain law: IsValidNormalForm. -/
namespace Go.Proofs.YtfjopjalhllplaaGreat
open Go.RowKit
set_option maxRecDepth 100000
set_option linter.unusedVariables false
set_option linter.unusedSimpArgs false
def syB (l : List Int) (k : Nat) : Bool := match l[k]? with
 | some q => decide (0 ≤ q ∧ q ≤ 2) && !(decide (0 < k) && q == 0)
 | none => false
theorem syB_eq {l : List Int} {k : Nat} {q : Int} (hq : l[k]? = some q) : syB l k = (decide (0 ≤ q ∧ q ≤ 2) && !(decide (0 < k) && q == 0)) := by
 unfold syB; rw [hq]
theorem s_nfv (y : List Int) (N : Int) (l : List Q4) (hy : y.length ≤ 1048576) (hl : l.length ≤ 1048576) : s_IsValidNormalForm y N l = some ((List.range y.length).all (syB y) && (tB N l && N == 1)) := by
 unfold s_IsValidNormalForm
 rw [loop_all0 (s_IsValidNormalForm_l1 y N l) y.length (syB y) (by omega) (fun m k hk => ?_) (some (tB N l && N == 1)) (fun m => ?_)]
 ·cases (List.range y.length).all (syB y) <;> rfl
 ·have hq := List.getElem?_eq_getElem hk
  have hlt : (k : Int) < (y.length : Int) := by omega
  rw [s_IsValidNormalForm_l1, geti_nat hq, syB_eq hq]
  simp only [hlt, decide_true, br_true, bO_some, s_in_eq, s_IsValidNormalForm_j4]
  rw [w64s hk (by omega)]
  by_cases h1 : 0 ≤ y[k] ∧ y[k] ≤ 2
  ·by_cases h2 : 0 < k
   ·have h2' : 0 < (k : Int) := by omega
    simp only [h1, h2, h2', and_self, decide_true, Bool.not_true, br_false, br_true, bO_some, Bool.true_and]
    cases (y[k] == 0) <;> rfl
   ·have h2' : ¬ 0 < (k : Int) := by omega
    simp only [h1, h2, h2', and_self, decide_true, decide_false, Bool.not_true, br_false, br_true, bO_some, Bool.true_and, Bool.false_and, Bool.not_false]
  ·simp only [h1, decide_false, Bool.not_false, br_true, bO_some, Bool.false_and, br_false]
 ·have hlt : ¬ (y.length : Int) < (y.length : Int) := by omega
  rw [s_IsValidNormalForm_l1]
  simp only [hlt, decide_false, br_false, s_IsValidNormalForm_j1, s_tab N l hl, bO_some]
  cases tB N l <;> rfl
theorem i_nfv (y : List Int) (N : Int) (l : List Q4) (hy : y.length ≤ 1048576) (hl : l.length ≤ 1048576) : i_IsValidNormalForm y N l = some ((List.range y.length).all (syB y) && (tB N l && N == 1)) := by
 unfold i_IsValidNormalForm
 rw [loop_all0 (fun m k => i_IsValidNormalForm_l1 y N l m (y.length : Int) k) y.length (syB y) (by omega) (fun m k hk => ?_) (some (tB N l && N == 1)) (fun m => ?_)]
 ·cases (List.range y.length).all (syB y) <;> rfl
 ·have hq := List.getElem?_eq_getElem hk
  have hlt : (k : Int) < (y.length : Int) := by omega
  show i_IsValidNormalForm_l1 y N l (m + 1) (y.length : Int) k = _
  rw [i_IsValidNormalForm_l1, geti_nat hq, syB_eq hq]
  simp only [hlt, decide_true, br_true, bO_some, i_in_eq, i_IsValidNormalForm_j4]
  rw [w64s hk (by omega)]
  by_cases h1 : 0 ≤ y[k] ∧ y[k] ≤ 2
  ·by_cases h2 : 0 < k
   ·have h2' : 0 < (k : Int) := by omega
    simp only [h1, h2, h2', and_self, decide_true, Bool.not_true, br_false, br_true, bO_some, Bool.true_and]
    cases (y[k] == 0) <;> rfl
   ·have h2' : ¬ 0 < (k : Int) := by omega
    simp only [h1, h2, h2', and_self, decide_true, decide_false, Bool.not_true, br_false, br_true, bO_some, Bool.true_and, Bool.false_and, Bool.not_false]
  ·simp only [h1, decide_false, Bool.not_false, br_true, bO_some, Bool.false_and, br_false]
 ·have hlt : ¬ (y.length : Int) < (y.length : Int) := by omega
  show i_IsValidNormalForm_l1 y N l (m + 1) (y.length : Int) (y.length : Int) = _
  rw [i_IsValidNormalForm_l1]
  simp only [hlt, decide_false, br_false, i_IsValidNormalForm_j1]
  by_cases h : N = 1
  ·have : (N == 1) = true := by simpa using h
   simp only [this, br_true, i_tab N l hl, bO_some, i_IsValidNormalForm_j5, Bool.and_true]
  ·have : (N == 1) = false := by simpa using h
   simp only [this, br_false, bO_some, i_IsValidNormalForm_j5, Bool.and_false]
end Go.Proofs.YtfjopjalhllplaaGreat
