/- Bit operations of the model on int and uint64, said in plain numbers; the number of set bits of an int. -/
import Derived.WalkKit
import Derived.Test.YtcclapenpaediaaPop
namespace Go.Proofs.Ytcclapenpaediaa
open Pop Go.RowKit

def two64I : Int := 18446744073709551616

/-- The number of set bits of an int (its 64 bits). -/
def popI (x : Int) : Int := (pcn 64 (x % two64I).toNat : Nat)

/-- The sum of the bits 0 .. k-1, as the reference adds them. -/
def sumBits (x : Int) : Nat → Int
  | 0 => 0
  | k + 1 => sumBits x k + x / 2 ^ k % 2

theorem sumBits_bd (x : Int) : ∀ k, 0 ≤ sumBits x k ∧ sumBits x k ≤ k
  | 0 => by simp [sumBits]
  | k + 1 => by have := sumBits_bd x k; simp only [sumBits]; omega

theorem pcn_snoc : ∀ (k x : Nat), pcn (k + 1) x = pcn k x + x / 2 ^ k % 2
  | 0, x => by simp [pcn]
  | k + 1, x => by
    have h := pcn_snoc k (x / 2)
    have e : x / 2 / 2 ^ k = x / 2 ^ (k + 1) := by rw [Nat.div_div_eq_div_mul, Nat.pow_succ, Nat.mul_comm]
    rw [e] at h
    show x % 2 + pcn (k + 1) (x / 2) = (x % 2 + pcn k (x / 2)) + _
    rw [h]; omega

theorem sumBits_pcn (x : Int) : ∀ k, k ≤ 64 → sumBits x k = (pcn k (x % two64I).toNat : Nat)
  | 0, _ => by simp [sumBits, pcn]
  | k + 1, h => by
    rw [pcn_snoc, sumBits, sumBits_pcn x k (by omega)]
    have h0 : 0 ≤ x % two64I := Int.emod_nonneg _ (by unfold two64I; omega)
    have e : x / 2 ^ k % 2 = (x % two64I) / 2 ^ k % 2 := by
      have hd : two64I = 2 ^ k * (2 ^ (63 - k) * 2) := by
        rw [show (2 : Int) ^ (63 - k) * 2 = 2 ^ (64 - k) from by rw [show 64 - k = (63 - k) + 1 from by omega, Int.pow_succ]]
        rw [← Int.pow_add, show k + (64 - k) = 64 from by omega]; rfl
      have hx : x = (x % two64I) + 2 ^ k * (2 ^ (63 - k) * 2 * (x / two64I)) := by
        have := Int.emod_add_ediv_mul x two64I
        rw [show 2 ^ k * (2 ^ (63 - k) * 2 * (x / two64I)) = (2 ^ k * (2 ^ (63 - k) * 2)) * (x / two64I) from by simp only [Int.mul_assoc], ← hd, Int.mul_comm]
        omega
      have hp : (2 : Int) ^ k ≠ 0 := by have : (0 : Int) < 2 ^ k := Int.pow_pos (by omega); omega
      have h1 : x / 2 ^ k = (x % two64I) / 2 ^ k + 2 ^ (63 - k) * 2 * (x / two64I) := by
        conv => lhs; rw [hx]
        rw [Int.add_mul_ediv_left _ _ hp]
      rw [h1, Int.mul_comm (2 ^ (63 - k)) 2, Int.mul_assoc]
      omega
    rw [e]
    obtain ⟨n, hn⟩ := Int.eq_ofNat_of_zero_le h0
    rw [hn, Int.toNat_natCast]
    have : ((n : Int) / 2 ^ k % 2) = ((n / 2 ^ k % 2 : Nat) : Int) := by simp
    rw [this]; omega

theorem popI_eq (x : Int) : sumBits x 64 = popI x := sumBits_pcn x 64 (by omega)
theorem popI_bd (x : Int) : 0 ≤ popI x ∧ popI x ≤ 64 := by rw [← popI_eq]; exact sumBits_bd x 64

theorem bits_and_one (y : Int) : bits .and .i64 y 1 = y % 2 := by
  have h : ((BitVec.ofInt 64 y) &&& (BitVec.ofInt 64 1)).toNat = ((y % 2).toNat) := by
    rw [BitVec.toNat_and, BitVec.toNat_ofInt, BitVec.toNat_ofInt]
    rw [show (1 % (2 ^ 64 : Nat) : Int).toNat = 1 from by decide, Nat.and_one_is_mod]
    omega
  show IntKind.i64.wrap ((BitVec.ofInt 64 y &&& BitVec.ofInt 64 1).toNat : Int) = _
  rw [h, IntKind.wrap_i64]
  omega

theorem bits_and_127 (y : Int) : bits .and .i64 y 127 = y % 128 := by
  have h : ((BitVec.ofInt 64 y) &&& (BitVec.ofInt 64 127)).toNat = ((y % 128).toNat) := by
    rw [BitVec.toNat_and, BitVec.toNat_ofInt, BitVec.toNat_ofInt]
    rw [show (127 % (2 ^ 64 : Nat) : Int).toNat = 2 ^ 7 - 1 from by decide, Nat.and_two_pow_sub_one_eq_mod]
    omega
  show IntKind.i64.wrap ((BitVec.ofInt 64 y &&& BitVec.ofInt 64 127).toNat : Int) = _
  rw [h, IntKind.wrap_i64]
  omega
theorem wrap64_mod128 (y : Int) : wrap64 y % 128 = y % 128 := by unfold wrap64; omega

theorem bits_and_u64 (a b : Nat) (ha : a < two64) (hb : b < two64) : bits .and .u64 (a : Int) (b : Int) = ((a &&& b : Nat) : Int) := by
  unfold two64 at *
  have hx : a &&& b < 18446744073709551616 := Nat.lt_of_le_of_lt Nat.and_le_left ha
  have h : ((BitVec.ofInt 64 (a : Int)) &&& (BitVec.ofInt 64 (b : Int))).toNat = a &&& b := by
    rw [BitVec.toNat_and, BitVec.ofInt_natCast, BitVec.ofInt_natCast, BitVec.toNat_ofNat, BitVec.toNat_ofNat, Nat.mod_eq_of_lt (by omega), Nat.mod_eq_of_lt (by omega)]
  show IntKind.u64.wrap ((BitVec.ofInt 64 (a : Int) &&& BitVec.ofInt 64 (b : Int)).toNat : Int) = _
  rw [h, IntKind.wrap_u64]
  omega
theorem and_comm_i64 (a b : Int) : bits .and .i64 a b = bits .and .i64 b a := by
  show IntKind.i64.wrap ((BitVec.ofInt 64 a &&& BitVec.ofInt 64 b).toNat : Int) = IntKind.i64.wrap ((BitVec.ofInt 64 b &&& BitVec.ofInt 64 a).toNat : Int)
  rw [BitVec.and_comm]
end Go.Proofs.Ytcclapenpaediaa
