/- Plain laws on Paulis as quadruples: products stay valid. -/
import Derived.Test.YtfpfalknddfejaaWl
namespace Go.Proofs.Ytfpfalknddfejaa
open Go.RowKit Pop
set_option maxRecDepth 100000
set_option linter.unusedVariables false
set_option linter.unusedSimpArgs false
def mulQ (a b : Quad) : Quad := (a.1, xorI a.2.1 b.2.1, xorI a.2.2.1 b.2.2.1, mulPh a.2.2.2 b.2.2.2 a.2.2.1 b.2.1)
def vq (q : Quad) : Bool := validB q.1 q.2.1 q.2.2.1 q.2.2.2
theorem xorI_nat : ∀ x y : Fin 16, xorI (x.val : Nat) (y.val : Nat) = ((x.val ^^^ y.val : Nat) : Int) := by decide +kernel
theorem xorI_small {x y : Int} (hx : 0 ≤ x ∧ x < 16) (hy : 0 ≤ y ∧ y < 16) : xorI x y = ((x.toNat ^^^ y.toNat : Nat) : Int) := by
  have := xorI_nat ⟨x.toNat, by omega⟩ ⟨y.toNat, by omega⟩
  simp only [Int.toNat_of_nonneg hx.1, Int.toNat_of_nonneg hy.1] at this
  exact this
theorem xorI_range {x y : Int} {k : Nat} (hk : k ≤ 4) (hx : 0 ≤ x ∧ x < 2 ^ k) (hy : 0 ≤ y ∧ y < 2 ^ k) : 0 ≤ xorI x y ∧ xorI x y < 2 ^ k := by
  have h16 : (2 : Int) ^ k ≤ 16 := by
    have : k = 0 ∨ k = 1 ∨ k = 2 ∨ k = 3 ∨ k = 4 := by omega
    rcases this with rfl | rfl | rfl | rfl | rfl <;> decide
  have hc : ((2 : Nat) ^ k : Nat) = ((2 : Int) ^ k) := by simp
  rw [xorI_small ⟨hx.1, by omega⟩ ⟨hy.1, by omega⟩]
  have := Nat.xor_lt_two_pow (x := x.toNat) (y := y.toNat) (n := k) (by omega) (by omega)
  omega
theorem vq_iff {q : Quad} : vq q = true ↔ (1 ≤ q.1 ∧ q.1 ≤ 4) ∧ (0 ≤ q.2.1 ∧ q.2.1 < 2 ^ q.1.toNat) ∧ (0 ≤ q.2.2.1 ∧ q.2.2.1 < 2 ^ q.1.toNat) ∧ (0 ≤ q.2.2.2 ∧ q.2.2.2 ≤ 3) := by
  simp only [vq, validB, Bool.and_eq_true, inB_true, pow2]
  constructor <;> intro h <;> obtain ⟨h1, h2, h3, h4⟩ := h <;> refine ⟨h1, ⟨h2.1, ?_⟩, ⟨h3.1, ?_⟩, h4⟩ <;> omega
theorem vq_mul {a b : Quad} (ha : vq a = true) (hb : vq b = true) (h : a.1 = b.1) : vq (mulQ a b) = true := by
  rw [vq_iff] at ha hb ⊢
  obtain ⟨a1, a2, a3, a4⟩ := ha
  obtain ⟨b1, b2, b3, b4⟩ := hb
  rw [← h] at b2 b3
  have a4n : a.1.toNat ≤ 4 := by omega
  refine ⟨a1, xorI_range a4n a2 b2, xorI_range a4n a3 b3, ?_⟩
  simp only [mulQ, mulPh]; omega
theorem mulQ_n (a b : Quad) : (mulQ a b).1 = a.1 := rfl
theorem hermB_vq {q : Quad} (h : hermB q.1 q.2.1 q.2.2.1 q.2.2.2 = true) : vq q = true := by simp only [hermB, Bool.and_eq_true] at h; exact h.1

/-- Row k of a tableau, or zeros. -/
def rowAt (l : List Quad) (k : Nat) : Quad := l.getD k (0, 0, 0, 0)
theorem rowAt_eq {l : List Quad} {k : Nat} {q : Quad} (h : l[k]? = some q) : rowAt l k = q := by simp [rowAt, h]
def mulIf (b : Int) (o r : Quad) : Quad := if b = 1 then mulQ o r else o
def cbtTo (l : List Quad) (M : Nat) (x z p : Int) : Nat → Quad
  | 0 => (M, 0, 0, p)
  | k + 1 => mulIf (z / 2 ^ k % 2) (mulIf (x / 2 ^ k % 2) (cbtTo l M x z p k) (rowAt l k)) (rowAt l (k + M))
theorem mulIf_ok {M : Int} {b : Int} {o r : Quad} (ho : vq o = true ∧ o.1 = M) (hr : vq r = true ∧ r.1 = M) : vq (mulIf b o r) = true ∧ (mulIf b o r).1 = M := by
  unfold mulIf; split
  · exact ⟨vq_mul ho.1 hr.1 (ho.2.trans hr.2.symm), ho.2⟩
  · exact ho
theorem tab_row {N : Int} {l : List Quad} (h : tabB N l = true) {k : Nat} (hk : (k : Int) < 2 * N) : vq (rowAt l k) = true ∧ (rowAt l k).1 = N := by
  obtain ⟨h1, h4, hl⟩ := tabB_len h
  have hk' : k < l.length := by omega
  have hr := List.getElem?_eq_getElem hk'
  rw [rowAt_eq hr]
  have := tabB_row h hr
  exact ⟨hermB_vq this.2, this.1⟩
theorem cbtTo_ok {l : List Quad} {M : Nat} {x z p : Int} (ht : tabB M l = true) (hp : 0 ≤ p ∧ p ≤ 3) : ∀ k, k ≤ M → vq (cbtTo l M x z p k) = true ∧ (cbtTo l M x z p k).1 = M
  | 0, _ => by
    obtain ⟨h1, h4, hl⟩ := tabB_len ht
    refine ⟨vq_iff.2 ⟨⟨h1, h4⟩, ⟨Int.le_refl _, ?_⟩, ⟨Int.le_refl _, ?_⟩, hp⟩, rfl⟩ <;> exact Int.pow_pos (by decide)
  | k + 1, h => by
    have ih := cbtTo_ok (l := l) (x := x) (z := z) ht hp k (by omega)
    exact mulIf_ok (mulIf_ok ih (tab_row ht (by omega))) (tab_row ht (by omega))
def cbt (N : Int) (l : List Quad) (m x z p : Int) : Quad := if tabB N l && (validB m x z p && decide (N = m)) then cbtTo l N.toNat x z p N.toNat else (0, 0, 0, 0)
def cbtB (N : Int) (l : List Quad) (m x z p : Int) : Bool := tabB N l && (validB m x z p && decide (N = m))
theorem cbt_ok {N : Int} {l : List Quad} {m x z p : Int} (h : cbtB N l m x z p = true) : vq (cbt N l m x z p) = true ∧ (cbt N l m x z p).1 = N := by
  have h' := h
  simp only [cbtB, Bool.and_eq_true, decide_eq_true_eq] at h
  obtain ⟨ht, hv, rfl⟩ := h
  obtain ⟨h1, h4, _⟩ := tabB_len ht
  have e : cbt N l N x z p = cbtTo l N.toNat x z p N.toNat := by unfold cbt; unfold cbtB at h'; rw [h']; rfl
  rw [e]
  have hc : ((N.toNat : Nat) : Int) = N := Int.toNat_of_nonneg (by omega)
  have := cbtTo_ok (l := l) (M := N.toNat) (x := x) (z := z) (by rw [hc]; exact ht) (valid_ph hv) N.toNat (Nat.le_refl _)
  rwa [hc] at this
end Go.Proofs.Ytfpfalknddfejaa
