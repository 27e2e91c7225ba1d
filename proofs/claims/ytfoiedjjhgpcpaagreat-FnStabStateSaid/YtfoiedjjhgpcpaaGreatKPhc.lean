/- Plain laws: how many Hadamard gates the reduction of a tableau holds. -/
import Derived.Test.YtfoiedjjhgpcpaaGreatKPrd
import Derived.Test.YtfoiedjjhgpcpaaGreatK15
namespace Go.Proofs.YtfoiedjjhgpcpaaGreat
open Go.RowKit
set_option maxRecDepth 100000
set_option linter.unusedVariables false
set_option linter.unusedSimpArgs false
section
variable {N : Int} (h : 1 ≤ N ∧ N ≤ 4)
theorem dg_hc (s : RS) (k a b : Int) : hc (dg h s k a b).2 = hc s.2 + (if k = 4 then 1 else 0) := by
  unfold dg
  rw [hc_append]
  simp only [hc]
  omega
/-- What the steps add, in all. -/
def wsum (w : Nat → Nat) : Nat → Nat → Nat
  | _, 0 => 0
  | k, c + 1 => w k + wsum w (k + 1) c
theorem wsum_const (B : Nat) : ∀ c k, wsum (fun _ => B) k c = c * B
  | 0, k => by simp [wsum]
  | c + 1, k => by rw [wsum, wsum_const B c, Nat.succ_mul]; omega
theorem iter_hc (f : Nat → RS → RS) (w : Nat → Nat) (hf : ∀ k s, hc (f k s).2 ≤ hc s.2 + w k) : ∀ (c k : Nat) (s : RS), hc (iterN f k c s).2 ≤ hc s.2 + wsum w k c
  | 0, k, s => by simp [iterN, wsum]
  | c + 1, k, s => by
    rw [iterN, wsum]
    have h1 := iter_hc f w hf c (k + 1) (f k s)
    have h2 := hf k s
    omega
theorem iter_hcB (f : Nat → RS → RS) (B : Nat) (hf : ∀ k s, hc (f k s).2 ≤ hc s.2 + B) (k c : Nat) (s : RS) : hc (iterN f k c s).2 ≤ hc s.2 + c * B := by
  have := iter_hc f (fun _ => B) hf c k s
  rwa [wsum_const] at this
theorem hc_f1 (q k : Nat) (s : RS) : hc (f1 h q k s).2 ≤ hc s.2 + 1 := by
  unfold f1
  (repeat' split) <;> first | omega | (simp only [dg_hc]; first | omega | (simp; try omega))
theorem hc_f2 (q : Nat) (s : RS) : hc (f2 h q s).2 ≤ hc s.2 := by
  unfold f2
  simp only []
  (repeat' split) <;> first | omega | (simp only [dg_hc]; first | omega | (simp; try omega))
theorem hc_f3 (q k : Nat) (s : RS) : hc (f3 h q k s).2 ≤ hc s.2 + 0 := by
  unfold f3
  (repeat' split) <;> first | omega | (simp only [dg_hc]; first | omega | (simp; try omega))
theorem hc_f4 (j k : Nat) (s : RS) : hc (f4 h j k s).2 ≤ hc s.2 + 1 := by
  unfold f4
  (repeat' split) <;> first | omega | (simp only [dg_hc]; first | omega | (simp; try omega))
theorem hc_f5 (j q k : Nat) (s : RS) : hc (f5 h j q k s).2 ≤ hc s.2 + 0 := by
  unfold f5
  (repeat' split) <;> first | omega | (simp only [dg_hc]; first | omega | (simp; try omega))
theorem hc_f6 (j q : Nat) (s : RS) : hc (f6 h j q s).2 ≤ hc s.2 + 2 := by
  unfold f6
  (repeat' split) <;> first | omega | (simp only [dg_hc]; first | omega | (simp; try omega))
theorem hc_f7 (q : Nat) (s : RS) : hc (f7 h q s).2 ≤ hc s.2 := by
  unfold f7
  (repeat' split) <;> first | omega | (simp only [dg_hc]; first | omega | (simp; try omega))
theorem hc_f8 (j q : Nat) (s : RS) : hc (f8 h j q s).2 ≤ hc s.2 := by
  unfold f8
  (repeat' split) <;> first | omega | (simp only [dg_hc]; first | omega | (simp; try omega))
theorem hc_qubit (q : Nat) (s : RS) : hc (secondP h q (firstP h q s)).2 ≤ hc s.2 + ((N.toNat - q) + (N.toNat - 1 - q) + 2) := by
  unfold secondP firstP
  generalize e0 : iterN (f1 h q) q (N.toNat - q) s = s0
  have h0 := iter_hcB (f1 h q) 1 (hc_f1 h q) q (N.toNat - q) s
  rw [e0] at h0
  generalize e1 : f2 h q s0 = s1
  have h1 := hc_f2 h q s0
  rw [e1] at h1
  generalize e2 : iterN (f3 h q) (q + 1) (N.toNat - 1 - q) s1 = s2
  have h2 := iter_hcB (f3 h q) 0 (hc_f3 h q) (q + 1) (N.toNat - 1 - q) s1
  rw [e2] at h2
  generalize e3 : iterN (f4 h (N.toNat + q)) (q + 1) (N.toNat - 1 - q) s2 = s3
  have h3 := iter_hcB (f4 h (N.toNat + q)) 1 (hc_f4 h (N.toNat + q)) (q + 1) (N.toNat - 1 - q) s2
  rw [e3] at h3
  generalize e4 : iterN (f5 h (N.toNat + q) q) (q + 1) (N.toNat - 1 - q) s3 = s4
  have h4 := iter_hcB (f5 h (N.toNat + q) q) 0 (hc_f5 h (N.toNat + q) q) (q + 1) (N.toNat - 1 - q) s3
  rw [e4] at h4
  have h5 := hc_f6 h (N.toNat + q) q s4
  have h6 := hc_f7 h q (f6 h (N.toNat + q) q s4)
  have h7 := hc_f8 h (N.toNat + q) q (f7 h q (f6 h (N.toNat + q) q s4))
  omega
/-- At most 24 of them. -/
theorem red_hc (l : List Q4) : hc (redP h l).2 ≤ 24 := by
  unfold redP
  have := iter_hc (fun q s => secondP h q (firstP h q s)) (fun q => (N.toNat - q) + (N.toNat - 1 - q) + 2) (fun k s => hc_qubit h k s) N.toNat 0 (l, [])
  have e : wsum (fun q => (N.toNat - q) + (N.toNat - 1 - q) + 2) 0 N.toNat ≤ 24 := by
    rcases four h with rfl | rfl | rfl | rfl <;> decide
  have e0 : hc ((l, []) : RS).2 = 0 := rfl
  omega
end
end Go.Proofs.YtfoiedjjhgpcpaaGreat
