/- Plain laws: the reduction of a tableau, as a function. -/
import Derived.Test.YtflfodcgoffjkaaK11
namespace Go.Proofs.Ytflfodcgoffjkaa
open Go.RowKit
set_option maxRecDepth 100000
set_option linter.unusedVariables false
set_option linter.unusedSimpArgs false
abbrev RS := List Q4 × List Q4
def dg {N : Int} (h : 1 ≤ N ∧ N ≤ 4) (s : RS) (k a b : Int) : RS := (s.1.map (gmap h k a b), s.2 ++ [(k, a, b, 0)])
def rwX (s : RS) (j k : Nat) : Bool := match s.1[j]? with | some r => bt r.2.1 k | none => false
def rwZ (s : RS) (j k : Nat) : Bool := match s.1[j]? with | some r => bt r.2.2.1 k | none => false
def rwP (s : RS) (j : Nat) : Bool := match s.1[j]? with | some r => r.2.2.2 == 2 | none => false
def iterN {α : Type} (f : Nat → α → α) (k : Nat) : Nat → α → α
  | 0, s => s
  | c + 1, s => iterN f (k + 1) c (f k s)
section
variable {N : Int} (h : 1 ≤ N ∧ N ≤ 4)
def f1 (q : Nat) (k : Nat) (s : RS) : RS := if rwX s q k && rwZ s q k then dg h s 5 k 0 else if rwZ s q k then dg h s 4 k 0 else s
def findK (s : RS) (q : Nat) : Nat → Nat → Nat
  | 0, k => k
  | c + 1, k => if rwX s q k then k else findK s q c (k + 1)
def f2 (q : Nat) (s : RS) : RS := let k := findK s q (N.toNat - 1 - q) q; if k = q then s else dg h s 11 q k
def f3 (q : Nat) (k : Nat) (s : RS) : RS := if rwX s q k then dg h s 9 q k else s
def f4 (j : Nat) (k : Nat) (s : RS) : RS := if rwX s j k && rwZ s j k then dg h (dg h s 5 k 0) 4 k 0 else if rwX s j k then dg h s 4 k 0 else s
def f5 (j q : Nat) (k : Nat) (s : RS) : RS := if rwZ s j k then dg h s 9 k q else s
def f6 (j q : Nat) (s : RS) : RS := if rwX s j q then dg h (dg h (dg h s 4 q 0) 5 q 0) 4 q 0 else s
def f7 (q : Nat) (s : RS) : RS := if rwP s q then dg h s 3 q 0 else s
def f8 (j q : Nat) (s : RS) : RS := if rwP s j then dg h s 1 q 0 else s
def firstP (q : Nat) (s : RS) : RS := iterN (f3 h q) (q + 1) (N.toNat - 1 - q) (f2 h q (iterN (f1 h q) q (N.toNat - q) s))
def secondP (q : Nat) (s : RS) : RS := f8 h (N.toNat + q) q (f7 h q (f6 h (N.toNat + q) q (iterN (f5 h (N.toNat + q) q) (q + 1) (N.toNat - 1 - q) (iterN (f4 h (N.toNat + q)) (q + 1) (N.toNat - 1 - q) s))))
def redP (l : List Q4) : RS := iterN (fun q s => secondP h q (firstP h q s)) 0 N.toNat (l, [])
/-- What holds of a state on the way. -/
def RI (B : Nat) (s : RS) : Prop := tB N s.1 = true ∧ s.2.length ≤ B ∧ B ≤ 10000
theorem one_fin : ∀ kd : Fin 7, ∀ k : Fin 4, ∀ N : Fin 5, (decide (kd.val < 1) || (decide (N.val ≤ k.val) || (clif kd.val && ivg kd.val k.val 0 0 N.val))) = true := by decide +kernel
theorem two_fin : ∀ a b : Fin 4, ∀ N : Fin 5, (decide (N.val ≤ a.val) || (decide (N.val ≤ b.val) || (a == b || ((clif 9 && ivg 9 a.val b.val 0 N.val) && (clif 11 && ivg 11 a.val b.val 0 N.val))))) = true := by decide +kernel
theorem one_ok (h : 1 ≤ N ∧ N ≤ 4) {kd : Nat} (h1 : 1 ≤ kd ∧ kd ≤ 6) {k : Nat} (hk : k < N.toNat) : clif (kd : Int) = true ∧ ivg (kd : Int) (k : Int) 0 0 N = true := by
  have e := one_fin ⟨kd, by omega⟩ ⟨k, by omega⟩ ⟨N.toNat, by omega⟩
  rw [decide_eq_false (by show ¬ kd < 1; omega), decide_eq_false (by show ¬ N.toNat ≤ k; omega), Bool.false_or, Bool.false_or, Bool.and_eq_true] at e
  have hN : ((N.toNat : Nat) : Int) = N := by omega
  simp only [hN] at e
  exact e
theorem two_ok (h : 1 ≤ N ∧ N ≤ 4) {a b : Nat} (ha : a < N.toNat) (hb : b < N.toNat) (hne : a ≠ b) : (clif 9 = true ∧ ivg 9 (a : Int) (b : Int) 0 N = true) ∧ (clif 11 = true ∧ ivg 11 (a : Int) (b : Int) 0 N = true) := by
  have e := two_fin ⟨a, by omega⟩ ⟨b, by omega⟩ ⟨N.toNat, by omega⟩
  have hab : ((⟨a, by omega⟩ : Fin 4) == ⟨b, by omega⟩) = false := by
    rw [beq_eq_false_iff_ne]; intro hh; exact hne (by simpa using hh)
  rw [decide_eq_false (by show ¬ N.toNat ≤ a; omega), decide_eq_false (by show ¬ N.toNat ≤ b; omega), hab, Bool.false_or, Bool.false_or, Bool.false_or, Bool.and_eq_true, Bool.and_eq_true, Bool.and_eq_true] at e
  have hN : ((N.toNat : Nat) : Int) = N := by omega
  simp only [hN] at e
  exact e
variable {h}
theorem RI.dg {B : Nat} {s : RS} (hs : RI (N := N) B s) (hB : B < 10000) {k a b : Int} (h1 : clif k = true) (h2 : ivg k a b 0 N = true) : RI (N := N) (B + 1) (Go.Proofs.Ytflfodcgoffjkaa.dg h s k a b) :=
  ⟨gmap_tB h h1 h2 hs.1, by show (s.2 ++ [_]).length ≤ _; have := hs.2.1; simp; omega, by omega⟩
theorem RI.mono {B C : Nat} {s : RS} (hs : RI (N := N) B s) (h1 : B ≤ C) (h2 : C ≤ 10000) : RI (N := N) C s := ⟨hs.1, by have := hs.2.1; omega, h2⟩
theorem RI.len {B : Nat} {s : RS} (hs : RI (N := N) B s) : s.1.length = 2 * N.toNat := by have := (tB_len hs.1); omega
theorem RI.row {B : Nat} {s : RS} (hs : RI (N := N) B s) {j : Nat} (hj : j < 2 * N.toNat) : ∃ r : Q4, geti s.1 (j : Int) = some r ∧ s.1[j]? = some r ∧ Sm r.2.1 ∧ Sm r.2.2.1 := by
  have hl := hs.len
  have hq := List.getElem?_eq_getElem (l := s.1) (i := j) (by omega)
  obtain ⟨e, g⟩ := row_vP hs.1 hq
  obtain ⟨a, b, _⟩ := vP_sm (n := s.1[j].1) (x := s.1[j].2.1) (z := s.1[j].2.2.1) (p := s.1[j].2.2.2) g
  exact ⟨_, geti_nat hq, hq, a, b⟩
theorem n_le (h : 1 ≤ N ∧ N ≤ 4) : N.toNat ≤ 4 := by omega
/-- A loop over the states. -/
theorem st_loop {β : Type} (L : Nat → Int → RS → Option β) (f : Nat → RS → RS) (C : RS → Option β) (n : Nat) (I : Nat → RS → Prop)
    (hs : ∀ m k s, k < n → I k s → L (m + 1) (k : Int) s = L m ((k + 1 : Nat) : Int) (f k s)) (hI : ∀ k s, k < n → I k s → I (k + 1) (f k s)) (he : ∀ m s, I n s → L (m + 1) (n : Int) s = C s) :
    ∀ (c m k : Nat) (s : RS), k + c = n → c < m → I k s → L m (k : Int) s = C (iterN f k c s) ∧ I n (iterN f k c s)
  | 0, m, k, s, hk, hm, hi => by
    obtain ⟨m, rfl⟩ : ∃ m', m = m' + 1 := ⟨m - 1, by omega⟩
    have : k = n := by omega
    subst this
    exact ⟨he m s hi, hi⟩
  | c + 1, m, k, s, hk, hm, hi => by
    obtain ⟨m, rfl⟩ : ∃ m', m = m' + 1 := ⟨m - 1, by omega⟩
    rw [hs m k s (by omega) hi]
    exact st_loop L f C n I hs hI he c m (k + 1) _ (by omega) (by omega) (hI k s (by omega) hi)
theorem st_loop0 {β : Type} (L : Nat → Int → RS → Option β) (f : Nat → RS → RS) (C : RS → Option β) (n : Nat) (I : Nat → RS → Prop) (hn : n ≤ 10)
    (hs : ∀ m k s, k < n → I k s → L (m + 1) (k : Int) s = L m ((k + 1 : Nat) : Int) (f k s)) (hI : ∀ k s, k < n → I k s → I (k + 1) (f k s)) (he : ∀ m s, I n s → L (m + 1) (n : Int) s = C s) (q : Nat) (hq : q ≤ n) (s : RS) (hi : I q s) :
    L FU (q : Int) s = C (iterN f q (n - q) s) ∧ I n (iterN f q (n - q) s) := st_loop L f C n I hs hI he (n - q) FU q s (by omega) (by rw [FU_eq]; omega) hi
/-- The invariant of a loop: at most two gates a round. -/
def LI (B : Nat) (k : Nat) (s : RS) : Prop := RI (N := N) (B + 2 * k) s ∧ B ≤ 1000
theorem inv_f1 {B q : Nat} (hq : q < N.toNat) : ∀ k s, k < N.toNat → LI (N := N) B k s → LI (N := N) B (k + 1) (f1 h q k s) := fun k s hk hs => by
  have hB := hs.2
  have g5 := one_ok h (kd := 5) (by omega) hk
  have g4 := one_ok h (kd := 4) (by omega) hk
  unfold f1
  split
  · exact ⟨(hs.1.dg (by omega) g5.1 g5.2).mono (by omega) (by omega), hB⟩
  · split
    · exact ⟨(hs.1.dg (by omega) g4.1 g4.2).mono (by omega) (by omega), hB⟩
    · exact ⟨hs.1.mono (by omega) (by omega), hB⟩
theorem inv_f3 {B q : Nat} (hq : q < N.toNat) : ∀ k s, k < N.toNat → q < k → LI (N := N) B k s → LI (N := N) B (k + 1) (f3 h q k s) := fun k s hk hqk hs => by
  have hB := hs.2
  have g := two_ok h hq hk (by omega)
  unfold f3
  split
  · exact ⟨(hs.1.dg (by omega) g.1.1 g.1.2).mono (by omega) (by omega), hB⟩
  · exact ⟨hs.1.mono (by omega) (by omega), hB⟩
theorem inv_f4 {B j : Nat} : ∀ k s, k < N.toNat → LI (N := N) B k s → LI (N := N) B (k + 1) (f4 h j k s) := fun k s hk hs => by
  have hB := hs.2
  have g5 := one_ok h (kd := 5) (by omega) hk
  have g4 := one_ok h (kd := 4) (by omega) hk
  unfold f4
  split
  · exact ⟨((hs.1.dg (by omega) g5.1 g5.2).dg (by omega) g4.1 g4.2).mono (by omega) (by omega), hB⟩
  · split
    · exact ⟨(hs.1.dg (by omega) g4.1 g4.2).mono (by omega) (by omega), hB⟩
    · exact ⟨hs.1.mono (by omega) (by omega), hB⟩
theorem inv_f5 {B q j : Nat} (hq : q < N.toNat) : ∀ k s, k < N.toNat → q < k → LI (N := N) B k s → LI (N := N) B (k + 1) (f5 h j q k s) := fun k s hk hqk hs => by
  have hB := hs.2
  have g := two_ok h hk hq (by omega)
  unfold f5
  split
  · exact ⟨(hs.1.dg (by omega) g.1.1 g.1.2).mono (by omega) (by omega), hB⟩
  · exact ⟨hs.1.mono (by omega) (by omega), hB⟩
end
end Go.Proofs.Ytflfodcgoffjkaa
