/- Joined texts: Pop Bits Wa Ig. -/
import Derived.Test.YtoleoojcodlciaaGv
import Derived.WalkKit
import Derived.Test.YtoleoojcodlciaaProg
import Derived.Deep.QuietTactic
import Derived.BigQuiet
import Derived.Lib.Hide
import Derived.Handy
import Derived.Maps.OwnOps
import Derived.Maps.OwnIn
import Derived.Maps.Views
/- Counting bits: the parallel sum that math/bits uses gives the number of set bits of every 64-bit number. Plain arithmetic, no program. -/
namespace Go.Proofs.Ytoleoojcodlciaa
namespace Pop

/-- The sum of the lowest k binary digits. -/
def pcn : Nat → Nat → Nat
  | 0, _ => 0
  | k + 1, x => x % 2 + pcn k (x / 2)

theorem pcn_split : ∀ (j k x : Nat), pcn (j + k) x = pcn j (x % 2 ^ j) + pcn k (x / 2 ^ j)
  | 0, k, x => by simp [pcn]
  | j + 1, k, x => by
    rw [show j + 1 + k = (j + k) + 1 by omega]
    simp only [pcn]
    rw [pcn_split j k (x / 2)]
    have e1 : x % 2 ^ (j + 1) / 2 = x / 2 % 2 ^ j := by
      rw [Nat.pow_succ, Nat.mul_comm]; exact Nat.mod_mul_right_div_self x 2 (2 ^ j)
    have e2 : x % 2 ^ (j + 1) % 2 = x % 2 := Nat.mod_mod_of_dvd x (by rw [Nat.pow_succ]; exact Nat.dvd_mul_left 2 (2 ^ j))
    have e3 : x / 2 / 2 ^ j = x / 2 ^ (j + 1) := by rw [Nat.div_div_eq_div_mul, Nat.pow_succ, Nat.mul_comm]
    rw [e1, e2, e3]; omega

def val : List Nat → Nat
  | [] => 0
  | b :: l => b + 256 * val l
def mask (m : Nat) : Nat → Nat
  | 0 => 0
  | k + 1 => m + 256 * mask m k

theorem and_parts (b c h k : Nat) (hb : b < 256) (hc : c < 256) : (b + 256 * h) &&& (c + 256 * k) = (b &&& c) + 256 * (h &&& k) := by
  have hbc : b &&& c < 256 := Nat.lt_of_le_of_lt Nat.and_le_left hb
  apply Nat.eq_of_testBit_eq
  intro i
  have e1 := Nat.testBit_two_pow_mul_add h (i := 8) hb i
  have e2 := Nat.testBit_two_pow_mul_add k (i := 8) hc i
  have e3 := Nat.testBit_two_pow_mul_add (h &&& k) (i := 8) hbc i
  rw [Nat.testBit_and, Nat.add_comm b, Nat.add_comm c, Nat.add_comm (b &&& c)]
  rw [show (256 : Nat) = 2 ^ 8 from rfl, e1, e2, e3]
  split <;> simp

def s1 (b : Nat) : Nat := ((b / 2) &&& 85) + (b &&& 85)
def s2 (b : Nat) : Nat := ((b / 4) &&& 51) + (b &&& 51)
def s3 (b : Nat) : Nat := (b / 16 + b) &&& 15

theorem half_low : ∀ (b : Fin 256) (t : Fin 2), (b.val / 2 + 128 * t.val) &&& 85 = (b.val / 2) &&& 85 := by decide +kernel
theorem quarter_low : ∀ (b : Fin 256) (t : Fin 4), (b.val / 4 + 64 * t.val) &&& 51 = (b.val / 4) &&& 51 := by decide +kernel
theorem s1_facts : ∀ b : Fin 256, s1 b.val < 256 ∧ s2 (s1 b.val) ≤ 68 ∧ s2 (s1 b.val) % 16 ≤ 4 ∧ s3 (s2 (s1 b.val)) = pcn 8 b.val := by decide +kernel
theorem pc8_le : ∀ b : Fin 256, pcn 8 b.val ≤ 8 := by decide +kernel
theorem low_nibble : ∀ (b : Fin 69) (t : Fin 5), b.val % 16 ≤ 4 → (b.val / 16 + b.val + 16 * t.val) &&& 15 = (b.val / 16 + b.val) &&& 15 ∧ b.val / 16 + b.val + 16 * t.val < 256 := by decide +kernel

theorem step1 : ∀ l : List Nat, (∀ b ∈ l, b < 256) → ((val l / 2) &&& mask 85 l.length) + (val l &&& mask 85 l.length) = val (l.map s1)
  | [], _ => by simp [val, mask]
  | b :: l, h => by
    have hb : b < 256 := h b (by simp)
    have ih := step1 l (fun x hx => h x (by simp [hx]))
    have e : (b + 256 * val l) / 2 = (b / 2 + 128 * (val l % 2)) + 256 * (val l / 2) := by omega
    have hl : b / 2 + 128 * (val l % 2) < 256 := by omega
    have hh := half_low ⟨b, hb⟩ ⟨val l % 2, by omega⟩
    simp only at hh
    simp only [val, mask, List.length_cons, List.map_cons]
    rw [e, and_parts _ _ _ _ hl (by omega), and_parts _ _ _ _ hb (by omega), hh, ← ih]
    simp only [s1]; omega

theorem step2 : ∀ l : List Nat, (∀ b ∈ l, b < 256) → ((val l / 4) &&& mask 51 l.length) + (val l &&& mask 51 l.length) = val (l.map s2)
  | [], _ => by simp [val, mask]
  | b :: l, h => by
    have hb : b < 256 := h b (by simp)
    have ih := step2 l (fun x hx => h x (by simp [hx]))
    have e : (b + 256 * val l) / 4 = (b / 4 + 64 * (val l % 4)) + 256 * (val l / 4) := by omega
    have hl : b / 4 + 64 * (val l % 4) < 256 := by omega
    have hh := quarter_low ⟨b, hb⟩ ⟨val l % 4, by omega⟩
    simp only at hh
    simp only [val, mask, List.length_cons, List.map_cons]
    rw [e, and_parts _ _ _ _ hl (by omega), and_parts _ _ _ _ hb (by omega), hh, ← ih]
    simp only [s2]; omega

theorem step3 : ∀ l : List Nat, (∀ b ∈ l, b ≤ 68 ∧ b % 16 ≤ 4) → (val l / 16 + val l) &&& mask 15 l.length = val (l.map s3)
  | [], _ => by simp [val, mask]
  | b :: l, h => by
    have hb := h b (by simp)
    have ih := step3 l (fun x hx => h x (by simp [hx]))
    have ht : val l % 16 ≤ 4 := by
      cases l with
      | nil => simp [val]
      | cons c m => have := (h c (by simp)).2; simp only [val]; omega
    have e : (b + 256 * val l) / 16 + (b + 256 * val l) = (b / 16 + b + 16 * (val l % 16)) + 256 * (val l / 16 + val l) := by omega
    obtain ⟨hh, hl⟩ := low_nibble ⟨b, by omega⟩ ⟨val l % 16, by omega⟩ hb.2
    simp only at hh hl
    simp only [val, mask, List.length_cons, List.map_cons]
    rw [e, and_parts _ _ _ _ hl (by omega), hh, ih]
    simp only [s3]

theorem val_lt : ∀ l : List Nat, (∀ b ∈ l, b < 256) → val l < 256 ^ l.length
  | [], _ => by simp [val]
  | b :: l, h => by
    have hb : b < 256 := h b (by simp)
    have ih := val_lt l (fun x hx => h x (by simp [hx]))
    simp only [val, List.length_cons, Nat.pow_succ]
    omega

def M0 : Nat := 6148914691236517205
def M1 : Nat := 3689348814741910323
def M2 : Nat := 1085102592571150095
def two64 : Nat := 18446744073709551616

theorem mask0 : mask 85 8 = M0 := by decide
theorem mask1 : mask 51 8 = M1 := by decide
theorem mask2 : mask 15 8 = M2 := by decide

def byteList (x : Nat) : List Nat := [x % 256, x / 256 % 256, x / 65536 % 256, x / 16777216 % 256, x / 4294967296 % 256, x / 1099511627776 % 256, x / 281474976710656 % 256, x / 72057594037927936 % 256]
theorem byteList_lt (x : Nat) : ∀ b ∈ byteList x, b < 256 := by
  intro b hb
  simp only [byteList, List.mem_cons, List.not_mem_nil, or_false] at hb
  omega
theorem val_byteList (x : Nat) (h : x < two64) : val (byteList x) = x := by
  simp only [byteList, val, two64] at *
  omega

def t1 (x : Nat) : Nat := ((x / 2) &&& M0) + (x &&& M0)
def t2 (x : Nat) : Nat := ((x / 4) &&& M1) + (x &&& M1)
def t3 (x : Nat) : Nat := (x / 16 + x) &&& M2
def t4 (x : Nat) : Nat := x + x / 256
def t5 (x : Nat) : Nat := x + x / 65536
def t6 (x : Nat) : Nat := x + x / 4294967296

theorem pcn_bytes (x : Nat) : pcn 64 x = pcn 8 (x % 256) + (pcn 8 (x / 256 % 256) + (pcn 8 (x / 65536 % 256) + (pcn 8 (x / 16777216 % 256) + (pcn 8 (x / 4294967296 % 256) + (pcn 8 (x / 1099511627776 % 256) + (pcn 8 (x / 281474976710656 % 256) + pcn 8 (x / 72057594037927936 % 256))))))) := by
  have h8 : ∀ y, pcn 8 y = pcn 8 (y % 256) := fun y => by have := pcn_split 8 0 y; simpa [pcn] using this
  rw [show (64 : Nat) = 8 + (8 + (8 + (8 + (8 + (8 + (8 + 8)))))) from rfl]
  rw [pcn_split 8 _ x, pcn_split 8 _ (x / 2 ^ 8), pcn_split 8 _ (x / 2 ^ 8 / 2 ^ 8), pcn_split 8 _ (x / 2 ^ 8 / 2 ^ 8 / 2 ^ 8), pcn_split 8 _ (x / 2 ^ 8 / 2 ^ 8 / 2 ^ 8 / 2 ^ 8), pcn_split 8 _ (x / 2 ^ 8 / 2 ^ 8 / 2 ^ 8 / 2 ^ 8 / 2 ^ 8), pcn_split 8 _ (x / 2 ^ 8 / 2 ^ 8 / 2 ^ 8 / 2 ^ 8 / 2 ^ 8 / 2 ^ 8)]
  rw [h8 (x / 2 ^ 8 / 2 ^ 8 / 2 ^ 8 / 2 ^ 8 / 2 ^ 8 / 2 ^ 8 / 2 ^ 8)]
  simp only [Nat.div_div_eq_div_mul, Nat.reducePow, Nat.reduceMul]

theorem fold4 (c0 c1 c2 c3 c4 c5 c6 c7 : Nat) (k0 : c0 ≤ 8) : t4 (c0 + 256 * (c1 + 256 * (c2 + 256 * (c3 + 256 * (c4 + 256 * (c5 + 256 * (c6 + 256 * (c7 + 256 * 0)))))))) = (c0 + c1) + 256 * ((c1 + c2) + 256 * ((c2 + c3) + 256 * ((c3 + c4) + 256 * ((c4 + c5) + 256 * ((c5 + c6) + 256 * ((c6 + c7) + 256 * c7)))))) := by
  unfold t4; omega
theorem fold5 (d0 d1 d2 d3 d4 d5 d6 d7 : Nat) (k0 : d0 ≤ 16) (k1 : d1 ≤ 16) : t5 (d0 + 256 * (d1 + 256 * (d2 + 256 * (d3 + 256 * (d4 + 256 * (d5 + 256 * (d6 + 256 * d7))))))) = (d0 + d2) + 256 * ((d1 + d3) + 256 * ((d2 + d4) + 256 * ((d3 + d5) + 256 * ((d4 + d6) + 256 * ((d5 + d7) + 256 * (d6 + 256 * d7)))))) := by
  unfold t5; omega
theorem fold6 (d0 d1 d2 d3 d4 d5 d6 d7 : Nat) (k0 : d0 ≤ 32) (k1 : d1 ≤ 32) (k2 : d2 ≤ 32) (k3 : d3 ≤ 32) : t6 (d0 + 256 * (d1 + 256 * (d2 + 256 * (d3 + 256 * (d4 + 256 * (d5 + 256 * (d6 + 256 * d7))))))) = (d0 + d4) + 256 * ((d1 + d5) + 256 * ((d2 + d6) + 256 * ((d3 + d7) + 256 * (d4 + 256 * (d5 + 256 * (d6 + 256 * d7)))))) := by
  unfold t6; omega
theorem fold_lt (d0 d1 d2 d3 d4 d5 d6 d7 : Nat) (k0 : d0 ≤ 64) (k1 : d1 ≤ 64) (k2 : d2 ≤ 64) (k3 : d3 ≤ 64) (k4 : d4 ≤ 64) (k5 : d5 ≤ 64) (k6 : d6 ≤ 64) (k7 : d7 ≤ 64) : d0 + 256 * (d1 + 256 * (d2 + 256 * (d3 + 256 * (d4 + 256 * (d5 + 256 * (d6 + 256 * d7)))))) < two64 := by
  unfold two64; omega
theorem fold_all (c0 c1 c2 c3 c4 c5 c6 c7 : Nat) (k0 : c0 ≤ 8) (k1 : c1 ≤ 8) (k2 : c2 ≤ 8) (k3 : c3 ≤ 8) (k4 : c4 ≤ 8) (k5 : c5 ≤ 8) (k6 : c6 ≤ 8) (k7 : c7 ≤ 8) (y : Nat)
    (h : y = c0 + 256 * (c1 + 256 * (c2 + 256 * (c3 + 256 * (c4 + 256 * (c5 + 256 * (c6 + 256 * (c7 + 256 * 0)))))))) :
    y < two64 ∧ t4 y < two64 ∧ t5 (t4 y) < two64 ∧ t6 (t5 (t4 y)) < two64 ∧ t6 (t5 (t4 y)) % 128 = c0 + (c1 + (c2 + (c3 + (c4 + (c5 + (c6 + c7)))))) := by
  subst h
  rw [fold4 _ _ _ _ _ _ _ _ k0, fold5 _ _ _ _ _ _ _ _ (by omega) (by omega), fold6 _ _ _ _ _ _ _ _ (by omega) (by omega) (by omega) (by omega)]
  refine ⟨fold_lt _ _ _ _ _ _ _ _ (by omega) (by omega) (by omega) (by omega) (by omega) (by omega) (by omega) (by omega), fold_lt _ _ _ _ _ _ _ _ (by omega) (by omega) (by omega) (by omega) (by omega) (by omega) (by omega) (by omega), fold_lt _ _ _ _ _ _ _ _ (by omega) (by omega) (by omega) (by omega) (by omega) (by omega) (by omega) (by omega), fold_lt _ _ _ _ _ _ _ _ (by omega) (by omega) (by omega) (by omega) (by omega) (by omega) (by omega) (by omega), ?_⟩
  omega

/-- All the bounds and the value of the parallel sum. -/
theorem trick (x : Nat) (h : x < two64) : t1 x < two64 ∧ t2 (t1 x) < two64 ∧ t2 (t1 x) / 16 + t2 (t1 x) < two64 ∧ t3 (t2 (t1 x)) < two64 ∧ t4 (t3 (t2 (t1 x))) < two64 ∧ t5 (t4 (t3 (t2 (t1 x)))) < two64 ∧ t6 (t5 (t4 (t3 (t2 (t1 x))))) < two64 ∧
    t6 (t5 (t4 (t3 (t2 (t1 x))))) % 128 = pcn 64 x := by
  have hb := byteList_lt x
  have hv := val_byteList x h
  have p1 : t1 x = val ((byteList x).map s1) := by
    have := step1 _ hb
    rw [hv, show (byteList x).length = 8 from rfl, mask0] at this
    exact this
  have l1 : ∀ b ∈ (byteList x).map s1, b < 256 := by
    intro b hm
    obtain ⟨c, hc, rfl⟩ := List.mem_map.1 hm
    exact (s1_facts ⟨c, hb c hc⟩).1
  have p2 : t2 (t1 x) = val (((byteList x).map s1).map s2) := by
    have := step2 _ l1
    rw [← p1, show ((byteList x).map s1).length = 8 from rfl, mask1] at this
    exact this
  have l2 : ∀ b ∈ ((byteList x).map s1).map s2, b ≤ 68 ∧ b % 16 ≤ 4 := by
    intro b hm
    obtain ⟨c, hc, rfl⟩ := List.mem_map.1 hm
    obtain ⟨d, hd, rfl⟩ := List.mem_map.1 hc
    have := s1_facts ⟨d, hb d hd⟩
    exact ⟨this.2.1, this.2.2.1⟩
  have p3 : t3 (t2 (t1 x)) = val ((((byteList x).map s1).map s2).map s3) := by
    have := step3 _ l2
    rw [← p2, show (((byteList x).map s1).map s2).length = 8 from rfl, mask2] at this
    exact this
  have e3 : (((byteList x).map s1).map s2).map s3 = (byteList x).map (pcn 8) := by
    rw [List.map_map, List.map_map]
    apply List.map_congr_left
    intro c hc
    exact (s1_facts ⟨c, hb c hc⟩).2.2.2
  rw [e3] at p3
  have b1 : t1 x < two64 := by
    have := val_lt _ l1
    rw [show ((byteList x).map s1).length = 8 from rfl, show (256 : Nat) ^ 8 = two64 from by decide, ← p1] at this
    exact this
  have v2 : val (((byteList x).map s1).map s2) < 256 ^ 7 * 69 := by
    have l2' := l2
    simp only [byteList, List.map_cons, List.map_nil, List.mem_cons, List.not_mem_nil, or_false, forall_eq_or_imp, forall_eq] at l2'
    simp only [byteList, List.map_cons, List.map_nil, val]
    omega
  have c8 : ∀ y, pcn 8 (y % 256) ≤ 8 := fun y => pc8_le ⟨y % 256, by omega⟩
  have k0 := c8 x
  have k1 := c8 (x / 256)
  have k2 := c8 (x / 65536)
  have k3 := c8 (x / 16777216)
  have k4 := c8 (x / 4294967296)
  have k5 := c8 (x / 1099511627776)
  have k6 := c8 (x / 281474976710656)
  have k7 := c8 (x / 72057594037927936)
  rw [pcn_bytes x]
  simp only [byteList, List.map_cons, List.map_nil, val] at p3
  obtain ⟨f0, f1, f2, f3, f4⟩ := fold_all _ _ _ _ _ _ _ _ k0 k1 k2 k3 k4 k5 k6 k7 _ p3
  rw [← p2] at v2
  refine ⟨b1, ?_, ?_, f0, f1, f2, f3, f4⟩
  · clear f0 f1 f2 f3 f4; unfold two64; omega
  · clear f0 f1 f2 f3 f4; unfold two64; omega
end Pop
end Go.Proofs.Ytoleoojcodlciaa
/- Bit operations of the model on int and uint64, said in plain numbers; the number of set bits of an int. -/
namespace Go.Proofs.Ytoleoojcodlciaa
open Pop Go.RowKit

def two64I : Int := 18446744073709551616

/-- The number of set bits of an int (its 64 bits). -/
def popI (x : Int) : Int := (pcn 64 (x % two64I).toNat : Nat)

/-- The sum of the bits 0 .. k-1, as the reference adds them. -/
def sumBits (x : Int) : Nat → Int
  | 0 => 0
  | k + 1 => sumBits x k + x / 2 ^ k % 2

theorem sumBits_bd (x : Int) : ∀ k, 0 ≤ sumBits x k ∧ sumBits x k ≤ k
  | 0 => by simp [sumBits]
  | k + 1 => by have := sumBits_bd x k; simp only [sumBits]; omega

theorem pcn_snoc : ∀ (k x : Nat), pcn (k + 1) x = pcn k x + x / 2 ^ k % 2
  | 0, x => by simp [pcn]
  | k + 1, x => by
    have h := pcn_snoc k (x / 2)
    have e : x / 2 / 2 ^ k = x / 2 ^ (k + 1) := by rw [Nat.div_div_eq_div_mul, Nat.pow_succ, Nat.mul_comm]
    rw [e] at h
    show x % 2 + pcn (k + 1) (x / 2) = (x % 2 + pcn k (x / 2)) + _
    rw [h]; omega

theorem sumBits_pcn (x : Int) : ∀ k, k ≤ 64 → sumBits x k = (pcn k (x % two64I).toNat : Nat)
  | 0, _ => by simp [sumBits, pcn]
  | k + 1, h => by
    rw [pcn_snoc, sumBits, sumBits_pcn x k (by omega)]
    have h0 : 0 ≤ x % two64I := Int.emod_nonneg _ (by unfold two64I; omega)
    have e : x / 2 ^ k % 2 = (x % two64I) / 2 ^ k % 2 := by
      have hd : two64I = 2 ^ k * (2 ^ (63 - k) * 2) := by
        rw [show (2 : Int) ^ (63 - k) * 2 = 2 ^ (64 - k) from by rw [show 64 - k = (63 - k) + 1 from by omega, Int.pow_succ]]
        rw [← Int.pow_add, show k + (64 - k) = 64 from by omega]; rfl
      have hx : x = (x % two64I) + 2 ^ k * (2 ^ (63 - k) * 2 * (x / two64I)) := by
        have := Int.emod_add_ediv_mul x two64I
        rw [show 2 ^ k * (2 ^ (63 - k) * 2 * (x / two64I)) = (2 ^ k * (2 ^ (63 - k) * 2)) * (x / two64I) from by simp only [Int.mul_assoc], ← hd, Int.mul_comm]
        omega
      have hp : (2 : Int) ^ k ≠ 0 := by have : (0 : Int) < 2 ^ k := Int.pow_pos (by omega); omega
      have h1 : x / 2 ^ k = (x % two64I) / 2 ^ k + 2 ^ (63 - k) * 2 * (x / two64I) := by
        conv => lhs; rw [hx]
        rw [Int.add_mul_ediv_left _ _ hp]
      rw [h1, Int.mul_comm (2 ^ (63 - k)) 2, Int.mul_assoc]
      omega
    rw [e]
    obtain ⟨n, hn⟩ := Int.eq_ofNat_of_zero_le h0
    rw [hn, Int.toNat_natCast]
    have : ((n : Int) / 2 ^ k % 2) = ((n / 2 ^ k % 2 : Nat) : Int) := by simp
    rw [this]; omega

theorem popI_eq (x : Int) : sumBits x 64 = popI x := sumBits_pcn x 64 (by omega)
theorem popI_bd (x : Int) : 0 ≤ popI x ∧ popI x ≤ 64 := by rw [← popI_eq]; exact sumBits_bd x 64

theorem bits_and_one (y : Int) : bits .and .i64 y 1 = y % 2 := by
  have h : ((BitVec.ofInt 64 y) &&& (BitVec.ofInt 64 1)).toNat = ((y % 2).toNat) := by
    rw [BitVec.toNat_and, BitVec.toNat_ofInt, BitVec.toNat_ofInt]
    rw [show (1 % (2 ^ 64 : Nat) : Int).toNat = 1 from by decide, Nat.and_one_is_mod]
    omega
  show IntKind.i64.wrap ((BitVec.ofInt 64 y &&& BitVec.ofInt 64 1).toNat : Int) = _
  rw [h, IntKind.wrap_i64]
  omega

theorem bits_and_127 (y : Int) : bits .and .i64 y 127 = y % 128 := by
  have h : ((BitVec.ofInt 64 y) &&& (BitVec.ofInt 64 127)).toNat = ((y % 128).toNat) := by
    rw [BitVec.toNat_and, BitVec.toNat_ofInt, BitVec.toNat_ofInt]
    rw [show (127 % (2 ^ 64 : Nat) : Int).toNat = 2 ^ 7 - 1 from by decide, Nat.and_two_pow_sub_one_eq_mod]
    omega
  show IntKind.i64.wrap ((BitVec.ofInt 64 y &&& BitVec.ofInt 64 127).toNat : Int) = _
  rw [h, IntKind.wrap_i64]
  omega
theorem wrap64_mod128 (y : Int) : wrap64 y % 128 = y % 128 := by unfold wrap64; omega

theorem bits_and_u64 (a b : Nat) (ha : a < two64) (hb : b < two64) : bits .and .u64 (a : Int) (b : Int) = ((a &&& b : Nat) : Int) := by
  unfold two64 at *
  have hx : a &&& b < 18446744073709551616 := Nat.lt_of_le_of_lt Nat.and_le_left ha
  have h : ((BitVec.ofInt 64 (a : Int)) &&& (BitVec.ofInt 64 (b : Int))).toNat = a &&& b := by
    rw [BitVec.toNat_and, BitVec.ofInt_natCast, BitVec.ofInt_natCast, BitVec.toNat_ofNat, BitVec.toNat_ofNat, Nat.mod_eq_of_lt (by omega), Nat.mod_eq_of_lt (by omega)]
  show IntKind.u64.wrap ((BitVec.ofInt 64 (a : Int) &&& BitVec.ofInt 64 (b : Int)).toNat : Int) = _
  rw [h, IntKind.wrap_u64]
  omega
theorem and_comm_i64 (a b : Int) : bits .and .i64 a b = bits .and .i64 b a := by
  show IntKind.i64.wrap ((BitVec.ofInt 64 a &&& BitVec.ofInt 64 b).toNat : Int) = IntKind.i64.wrap ((BitVec.ofInt 64 b &&& BitVec.ofInt 64 a).toNat : Int)
  rw [BitVec.and_comm]
end Go.Proofs.Ytoleoojcodlciaa
/- Contracts: range tests, bit counts, validity of Paulis. -/
namespace Go.Proofs.Ytoleoojcodlciaa
open Go.RowKit Pop
set_option maxRecDepth 100000
set_option linter.unusedVariables false
set_option linter.unusedSimpArgs false

theorem ret_int {k : IntKind} {a b : Int} (h : a = b) : Ending.returned (.int k a) = .returned (.int k b) := by rw [h]
theorem ret_bool {a b : Bool} (h : a = b) : Ending.returned (.bool a) = .returned (.bool b) := by rw [h]

theorem below_drewN {B : Nat} {a w : World} (h : Below B a w) (n : Nat) : Below B a (w.drewN n) := ⟨h.os, h.tape, h.output, h.size, h.block⟩

theorem bcell {W w1 : World} (hb : Below W.heap.size W w1) : (∀ b o, b < W.heap.size → w1.cell? ⟨b, o, none⟩ = W.cell? ⟨b, o, none⟩) ∧ (∀ b o, b < W.heap.size → w1.frozen? ⟨b, o, none⟩ = W.frozen? ⟨b, o, none⟩) :=
  ⟨fun b o h => hb.cell (p := ⟨b, o, none⟩) h, fun b o h => hb.frozen (p := ⟨b, o, none⟩) h⟩

def inB (n lo hi : Int) : Bool := decide (lo ≤ n) && decide (n ≤ hi)
theorem inB_true {n lo hi : Int} : inB n lo hi = true ↔ lo ≤ n ∧ n ≤ hi := by simp [inB]
theorem inB_false {n lo hi : Int} : inB n lo hi = false ↔ n < lo ∨ hi < n := by simp [inB]; omega

theorem in_any (n lo hi : Int) (w : World) :
    Calls Try.prog 83 #[.int .i64 n, .int .i64 lo, .int .i64 hi] w fun e w' => e = .returned (.bool (inB n lo hi)) ∧ w' = w := by
  go_enter Try.func83, Try.ntmps83
  go_wp2
  all_goals
    go_ret
    exact ⟨by simp [inB]; omega, rfl⟩

theorem l1In_any (n lo hi : Int) (w : World) :
    Calls Try.prog 81 #[.int .i64 n, .int .i64 lo, .int .i64 hi] w fun e w' => e = .returned (.bool (inB n lo hi)) ∧ w' = w := by
  go_enter Try.func81, Try.ntmps81
  go_wp2
  all_goals
    go_ret
    exact ⟨by simp [inB]; omega, rfl⟩

theorem l25Ones_any (x : Int) (w : World) :
    Calls Try.prog 40 #[.int .i64 x] w fun e w' => e = .returned (.int .i64 (popI x)) ∧ w' = w := by
  have hand := bits_and_one
  go_enter Try.func40, Try.ntmps40
  go_wp2
  go_loop [3, 4] (fun n i => ∃ k : Nat, k ≤ 64 ∧ i = .int .i64 k ∧ n = .int .i64 (sumBits x k)) (fun _ i => 64 - (intOf i).toNat)
  case atStart => exact ⟨0, by omega, rfl, rfl⟩
  case round =>
    obtain ⟨k, hk, rfl, rfl⟩ := hrel
    have hb := sumBits_bd x k
    by_cases hlt : k < 64
    · go_wp2
      go_round
      case rel => exact ⟨k + 1, by omega, by go_num, by simp only [sumBits]⟩
      case measure => simp [intOf]; omega
    · go_wp2
      go_ret
      obtain rfl : k = 64 := by omega
      exact ⟨ret_int (popI_eq x), rfl⟩

theorem onesCount64_any (x : Int) (w : World) (h0 : 0 ≤ x) (h1 : x < two64I) :
    Calls Try.prog 113 #[.int .u64 x] w fun e w' => e = .returned (.int .i64 (pcn 64 x.toNat : Nat)) ∧ w' = w := by
  obtain ⟨n, rfl⟩ := Int.eq_ofNat_of_zero_le h0
  have hn : n < two64 := by unfold two64 two64I at *; omega
  obtain ⟨b1, b2, b3, b4, b5, b6, b7, hv⟩ := trick n hn
  rw [Int.toNat_natCast]
  generalize pcn 64 n = v at *
  have w64 : ∀ y : Nat, y < two64 → IntKind.u64.wrap (y : Int) = (y : Int) := fun y hy => by rw [IntKind.wrap_u64]; unfold two64 at hy; omega
  have e1 : IntKind.u64.wrap (bits .and .u64 ((n : Int) / 2) 6148914691236517205 + bits .and .u64 (n : Int) 6148914691236517205) = (t1 n : Nat) := by
    have p := bits_and_u64 (n / 2) M0 (by omega) (by unfold M0 two64; omega)
    have q := bits_and_u64 n M0 (by omega) (by unfold M0 two64; omega)
    have r : bits .and .u64 ((n : Int) / 2) 6148914691236517205 + bits .and .u64 (n : Int) 6148914691236517205 = ((t1 n : Nat) : Int) := by
      unfold t1; rw [Int.natCast_add, ← p, ← q]; rfl
    rw [r]; exact w64 _ b1
  have e2 : IntKind.u64.wrap (bits .and .u64 (((t1 n : Nat) : Int) / 4) 3689348814741910323 + bits .and .u64 ((t1 n : Nat) : Int) 3689348814741910323) = (t2 (t1 n) : Nat) := by
    have p := bits_and_u64 (t1 n / 4) M1 (by omega) (by unfold M1 two64; omega)
    have q := bits_and_u64 (t1 n) M1 (by omega) (by unfold M1 two64; omega)
    have r : bits .and .u64 (((t1 n : Nat) : Int) / 4) 3689348814741910323 + bits .and .u64 ((t1 n : Nat) : Int) 3689348814741910323 = ((t2 (t1 n) : Nat) : Int) := by
      unfold t2; rw [Int.natCast_add, ← p, ← q]; rfl
    rw [r]; exact w64 _ b2
  have e3 : bits .and .u64 (IntKind.u64.wrap (((t2 (t1 n) : Nat) : Int) / 16 + ((t2 (t1 n) : Nat) : Int))) 1085102592571150095 = (t3 (t2 (t1 n)) : Nat) := by
    have p := bits_and_u64 (t2 (t1 n) / 16 + t2 (t1 n)) M2 b3 (by unfold M2 two64; omega)
    have r : ((t2 (t1 n) : Nat) : Int) / 16 + ((t2 (t1 n) : Nat) : Int) = ((t2 (t1 n) / 16 + t2 (t1 n) : Nat) : Int) := by omega
    rw [r, w64 _ b3]; unfold t3; rw [← p]; rfl
  have e4 : IntKind.u64.wrap (((t3 (t2 (t1 n)) : Nat) : Int) + ((t3 (t2 (t1 n)) : Nat) : Int) / 256) = (t4 (t3 (t2 (t1 n))) : Nat) := by
    have r : ((t3 (t2 (t1 n)) : Nat) : Int) + ((t3 (t2 (t1 n)) : Nat) : Int) / 256 = (t4 (t3 (t2 (t1 n))) : Nat) := by unfold t4; omega
    rw [r]; exact w64 _ b5
  have e5 : IntKind.u64.wrap (((t4 (t3 (t2 (t1 n))) : Nat) : Int) + ((t4 (t3 (t2 (t1 n))) : Nat) : Int) / 65536) = (t5 (t4 (t3 (t2 (t1 n)))) : Nat) := by
    have r : ((t4 (t3 (t2 (t1 n))) : Nat) : Int) + ((t4 (t3 (t2 (t1 n))) : Nat) : Int) / 65536 = (t5 (t4 (t3 (t2 (t1 n)))) : Nat) := by unfold t5; omega
    rw [r]; exact w64 _ b6
  have e6 : IntKind.u64.wrap (((t5 (t4 (t3 (t2 (t1 n)))) : Nat) : Int) + ((t5 (t4 (t3 (t2 (t1 n)))) : Nat) : Int) / 4294967296) = (t6 (t5 (t4 (t3 (t2 (t1 n))))) : Nat) := by
    have r : ((t5 (t4 (t3 (t2 (t1 n)))) : Nat) : Int) + ((t5 (t4 (t3 (t2 (t1 n)))) : Nat) : Int) / 4294967296 = (t6 (t5 (t4 (t3 (t2 (t1 n))))) : Nat) := by unfold t6; omega
    rw [r]; exact w64 _ b7
  have e7 : bits .and .i64 (wrap64 ((t6 (t5 (t4 (t3 (t2 (t1 n))))) : Nat) : Int)) 127 = (v : Nat) := by
    rw [bits_and_127, wrap64_mod128]; omega
  generalize t6 (t5 (t4 (t3 (t2 (t1 n))))) = y6 at *
  generalize t5 (t4 (t3 (t2 (t1 n)))) = y5 at *
  generalize t4 (t3 (t2 (t1 n))) = y4 at *
  generalize t3 (t2 (t1 n)) = y3 at *
  generalize t2 (t1 n) = y2 at *
  generalize t1 n = y1 at *
  clear hv w64 b1 b2 b3 b4 b5 b6 b7 h0 h1 hn
  go_enter Try.func113, Try.ntmps113
  go_wp2
  go_ret
  exact ⟨rfl, rfl⟩

theorem onesCount_any (x : Int) (w : World) (h0 : 0 ≤ x) (h1 : x < two64I) :
    Calls Try.prog 84 #[.int .u64 x] w fun e w' => e = .returned (.int .i64 (pcn 64 x.toNat : Nat)) ∧ w' = w := by
  have H := Lib.hid h1; clear h1
  go_enter Try.func84, Try.ntmps84
  go_wp2_with (go_at_call 113; refine (onesCount64_any _ _ h0 H.out).mono ?_; rintro e w' ⟨rfl, rfl⟩)
  go_ret
  exact ⟨rfl, rfl⟩

theorem ones_any (x : Int) (w : World) :
    Calls Try.prog 44 #[.int .i64 x] w fun e w' => e = .returned (.int .i64 (popI x)) ∧ w' = w := by
  have h0 : 0 ≤ IntKind.u64.wrap x := by rw [IntKind.wrap_u64]; omega
  have h1 : IntKind.u64.wrap x < two64I := by rw [IntKind.wrap_u64]; unfold two64I; omega
  have H := Lib.hid h1; clear h1
  go_enter Try.func44, Try.ntmps44
  go_wp2_with (go_at_call 84; refine (onesCount_any _ _ h0 H.out).mono ?_; rintro e w' ⟨rfl, rfl⟩)
  go_ret
  exact ⟨ret_int (by unfold popI; rw [IntKind.wrap_u64]; rfl), rfl⟩

/-- 2 to the power n, for the few n that occur. -/
def pow2 (n : Int) : Int := 2 ^ n.toNat
def validB (n x z p : Int) : Bool := inB n 1 4 && (inB x 0 (pow2 n - 1) && (inB z 0 (pow2 n - 1) && inB p 0 3))
theorem pow2_1 : pow2 1 = 2 := rfl
theorem pow2_2 : pow2 2 = 4 := rfl
theorem pow2_3 : pow2 3 = 8 := rfl
theorem pow2_4 : pow2 4 = 16 := rfl

theorem isValidPauli_spec (n x z p : Int) (w : World) :
    Calls Try.prog 38 #[.agg #[.int .i64 n, .int .i64 x, .int .i64 z, .int .i64 p]] w fun e w' => e = .returned (.bool (validB n x z p)) ∧ Below w.heap.size w w' := by
  by_cases h : inB n 1 4 = true
  · have hn : n = 1 ∨ n = 2 ∨ n = 3 ∨ n = 4 := by simp [inB] at h; omega
    rcases hn with rfl | rfl | rfl | rfl
    all_goals
      go_enter Try.func38, Try.ntmps38
      go_wp2_with (go_at_call 81; refine (l1In_any _ _ _ _).mono ?_; rintro e w' ⟨rfl, rfl⟩)
      all_goals
        go_ret
        exact ⟨ret_bool (by simp_all [validB, pow2_1, pow2_2, pow2_3, pow2_4]), (Below.refl _ _).alloc (by simp) _⟩
  · go_enter Try.func38, Try.ntmps38
    go_wp2_with (go_at_call 81; refine (l1In_any _ _ _ _).mono ?_; rintro e w' ⟨rfl, rfl⟩)
    go_ret
    exact ⟨ret_bool (by simp_all [validB]), (Below.refl _ _).alloc (by simp) _⟩

theorem isValidPauli_impl (n x z p : Int) (w : World) :
    Calls Try.prog 42 #[.agg #[.int .i64 n, .int .i64 x, .int .i64 z, .int .i64 p]] w fun e w' => e = .returned (.bool (validB n x z p)) ∧ Below w.heap.size w w' := by
  by_cases h : inB n 1 4 = true
  · have hn : n = 1 ∨ n = 2 ∨ n = 3 ∨ n = 4 := by simp [inB] at h; omega
    rcases hn with rfl | rfl | rfl | rfl
    all_goals
      go_enter Try.func42, Try.ntmps42
      go_wp2_with fail
      refine wp_region_quiet_lit (by kernel_rfl) (by kernel_rfl) ?_
      repeat (any_goals (first | go_big_quiet_step ((go_at_call 83; exact Calls.quiet_of_same (in_any _ _ _ _))) | quiet_step ((go_at_call 83; exact Calls.quiet_of_same (in_any _ _ _ _))) | (refine wpQuiet_step (fun K hK => ?_); go_simp; split <;> (refine hK _ ?_; clear hK K))))
      all_goals (refine wpQuiet_nil ?_; intro _ hw'; obtain ⟨nq, hw''⟩ := hw'; subst hw'')
      all_goals
        go_wp2
        go_ret
        exact ⟨ret_bool (by simp_all [validB, pow2_1, pow2_2, pow2_3, pow2_4]), below_drewN ((Below.refl _ _).alloc (by simp) _) _⟩
  · go_enter Try.func42, Try.ntmps42
    go_wp2_with fail
    refine wp_region_quiet_lit (by kernel_rfl) (by kernel_rfl) ?_
    repeat (any_goals (first | go_big_quiet_step ((go_at_call 83; exact Calls.quiet_of_same (in_any _ _ _ _))) | quiet_step ((go_at_call 83; exact Calls.quiet_of_same (in_any _ _ _ _))) | (refine wpQuiet_step (fun K hK => ?_); go_simp; split <;> (refine hK _ ?_; clear hK K))))
    all_goals (refine wpQuiet_nil ?_; intro _ hw'; obtain ⟨nq, hw''⟩ := hw'; subst hw'')
    all_goals
      go_wp2
      go_ret
      exact ⟨ret_bool (by simp_all [validB]), below_drewN ((Below.refl _ _).alloc (by simp) _) _⟩
end Go.Proofs.Ytoleoojcodlciaa
/- impl.IsValidGate: a walk (it keeps a map of its own). -/
namespace Go.Proofs.Ytoleoojcodlciaa
open Go.RowKit Pop
set_option maxRecDepth 100000
set_option linter.unusedVariables false
set_option linter.unusedSimpArgs false
open Go.Maps
theorem arity_any (k : Int) (w : World) :
    Calls Try.prog 79 #[.int .i64 k] w fun e w' => e = .returned (.int .i64 (arity k)) ∧ w' = w := by
  have inn := in_any
  go_enter Try.func79, Try.ntmps79
  go_wp2
  all_goals
    go_ret
    refine ⟨ret_int ?_, rfl⟩
    try simp only [beq_iff_eq, beq_eq_false_iff_ne, ne_eq] at *
    unfold arity
    repeat' split
    all_goals omega
/-- The datum of the map behind the numbers seen. -/
def Dm : List Int → DataW Unit
  | [] => .map []
  | q :: r => (Dm r).put (.int .i64 q) (.lit (.bool true))
theorem Dm_map : ∀ l, IsMap (Dm l)
  | [] => isMap_empty
  | q :: r => (Dm_map r).put _ _
theorem Dm_at (q : Int) : ∀ l : List Int, (Dm l).atKey (.int .i64 q) (.lit (.bool false)) = .lit (.bool (l.contains q))
  | [] => rfl
  | x :: r => by
    by_cases e : q = x
    · subst e
      rw [Dm, atKey_put_same (Dm_map r) (by trivial)]
      simp
    · rw [Dm, atKey_put_other (by intro h; injection h with _ h; exact e h), Dm_at q r]
      have : (q == x) = false := by simpa using e
      rw [List.contains_cons, this, Bool.false_or]
theorem plainElem_bool_inv {H : Type} {P : Program} {e : TypeId} (he : P.underlying e = some .bool) {v : Value} {z : DataW H × List MemPlace} (h : plainElem P e v = some z) : ∃ x, v = .bool x ∧ z = (.lit (.bool x), []) := by
  unfold plainElem at h
  rw [he] at h
  cases v <;> simp at h
  exact ⟨_, rfl, h.symm⟩
theorem lookup_bool {P : Program} {k e t : TypeId} {w : World} {b n : Nat} {l : List Int} (h : w.ownsMap P k (plainElem P e) b n (Dm l)) (hk : P.underlying k = some (.int .i64)) (ht : P.underlying t = some (.map k e)) (he : P.underlying e = some .bool)
    (hz : (zeroValue e).run P w = .ok (.bool false) w) {q : Int} (hq : (Lit.int .i64 q).wf = true) : (Instr.lookup t (.map (some b)) (.int .i64 q) false).run P w = .ok (.bool (l.contains q)) w := by
  obtain ⟨v, ps, hrun, hv⟩ := h.lookup (int_keyed hk) ht hz (plainElem_bool he false) (keyOf_int_mk hk hq)
  obtain ⟨x, rfl, hx⟩ := plainElem_bool_inv he hv
  rw [Dm_at] at hx
  injection hx with h1 h2
  injection h1 with h1
  injection h1 with h1
  rw [hrun, h1]
theorem update_bool {P : Program} {k e t : TypeId} {w : World} {b n : Nat} {l : List Int} (h : w.ownsMap P k (plainElem P e) b n (Dm l)) (hk : P.underlying k = some (.int .i64)) (ht : P.underlying t = some (.map k e)) (he : P.underlying e = some .bool)
    (hn : n < maxLen) {q : Int} (hq : (Lit.int .i64 q).wf = true) : ∃ w', (Instr.mapUpdate t (.map (some b)) (.int .i64 q) (.bool true)).run P w = .ok () w' ∧ w'.ownsMap P k (plainElem P e) b (n + 1) (Dm (q :: l)) ∧ w.grownBy w' (some b) :=
  h.update (int_keyed hk) ht hn (keyOf_int_mk hk hq) (plainElem_bool he true)
theorem zero4 (w : World) : (zeroValue 4).run Try.prog w = .ok (.bool false) w := by kernel_rfl
set_option maxHeartbeats 1000000 in
theorem ivg_any (k a b c n : Int) (w : World) :
    Calls Try.prog 76 #[.agg #[.int .i64 k, .int .i64 a, .int .i64 b, .int .i64 c], .int .i64 n] w fun e w' => e = .returned (.bool (ivg k a b c n)) ∧ Below w.heap.size w w' := by
  have hmm := @run_makeMap Try.prog
  go_enter Try.func76, Try.ntmps76
  go_wp2_with (first | (go_at_call 83; refine (in_any _ _ _ _).mono ?_; rintro e w' ⟨rfl, hw'⟩; rw [hw']; clear hw' w') | (go_at_call 79; refine (arity_any _ _).mono ?_; rintro e w' ⟨rfl, hw'⟩; rw [hw']; clear hw' w'))
  · go_ret
    rename_i h1 h2
    refine ⟨ret_bool ?_, ?_⟩
    · unfold ivg; rw [h2]; simp
    · repeat' (first | (with_reducible exact Below.refl _ _) | (with_reducible refine below_drewN ?_ _) | (with_reducible refine Below.drew ?_) | (with_reducible refine Below.alloc ?_ ?_ _) | (with_reducible refine Below.setCell ?_ ?_ _) | (with_reducible refine Below.trans ?_ (Below.mono (by with_reducible assumption) ?_)) | go_size | (with_reducible refine Nat.le_trans ?_ (Below.size (by with_reducible assumption))))
  · rename_i h1 h2 K0 hK0
    have hn' := inB_true.1 h1
    have e0 : ivg k a b c n = okQ (arity k) n 0 [a, b, c] [] := by
      unfold ivg; rw [h2, decide_eq_true hn']; rfl
    clear h2
    go_loopw [28] (fun i wr => ∃ (j : Nat) (rest seen : List Int), j + rest.length = 3 ∧ i = .int .i64 j ∧ [a, b, c].drop j = rest ∧ ivg k a b c n = okQ (arity k) n j rest seen ∧
        wr.ownsMap Try.prog 3 (plainElem Try.prog 4) (w.heap.size + 1 + 1) j (Dm seen) ∧ Below w.heap.size w wr ∧ w.heap.size + 1 + 1 + 1 ≤ wr.heap.size ∧
        wr.heap[w.heap.size]? = some (.cells #[.int .i64 k, .int .i64 a, .int .i64 b, .int .i64 c] 86) ∧ wr.heap[w.heap.size + 1]? = some (.cells #[.int .i64 a, .int .i64 b, .int .i64 c] 3)) (fun i _ => 3 - (intOf i).toNat)
    case atStart =>
      refine ⟨0, [a, b, c], [], rfl, rfl, rfl, e0, ?_, ?_, ?_, ?_, ?_⟩
      · have hm0 := World.ownsMap_made (H := Unit) ((w.alloc (.cells #[.int .i64 k, .int .i64 a, .int .i64 b, .int .i64 c] 86)).alloc (.cells #[.int .i64 a, .int .i64 b, .int .i64 c] 3)) Try.prog 3 (plainElem Try.prog 4)
        simp only [World.size_alloc] at hm0
        exact hm0
      · repeat' (first | (with_reducible exact Below.refl _ _) | (with_reducible refine below_drewN ?_ _) | (with_reducible refine Below.drew ?_) | (with_reducible refine Below.alloc ?_ ?_ _) | (with_reducible refine Below.setCell ?_ ?_ _) | (with_reducible refine Below.trans ?_ (Below.mono (by with_reducible assumption) ?_)) | go_size | (with_reducible refine Nat.le_trans ?_ (Below.size (by with_reducible assumption))))
      · simp
      · exact (Below.heap_alloc _ _ _ (by simp; omega)).trans ((Below.heap_alloc _ _ _ (by simp)).trans (heap_alloc_new _ _))
      · exact (Below.heap_alloc _ _ _ (by simp)).trans (by have := heap_alloc_new (w.alloc (.cells #[.int .i64 k, .int .i64 a, .int .i64 b, .int .i64 c] 86)) (.cells #[.int .i64 a, .int .i64 b, .int .i64 c] 3); simp only [World.size_alloc] at this; exact this)
    case round =>
      obtain ⟨j, rest, seen, hj, rfl, hd, hok, hown, hbel, hsz, hb0, hb1⟩ := hrel
      match rest, hj, hd, hok with
      | [], hj, hd, hok =>
        have hj3 : j = 3 := by simpa using hj
        subst hj3
        go_wp2
        go_ret
        refine ⟨ret_bool ?_, hbel⟩
        rw [hok]; rfl
      | q :: r, hj, hd, hok =>
        have hj3 : j < 3 := by simp at hj; omega
        have hk0 : wr.cell? ⟨w.heap.size, 0, none⟩ = some (.int .i64 k) := cell_of_row wr _ 0 _ 86 (0, 0) hb0
        have hkj : wr.cell? ⟨w.heap.size + 1, j, none⟩ = some (.int .i64 q) := by
          have : j = 0 ∨ j = 1 ∨ j = 2 := by omega
          rcases this with rfl | rfl | rfl <;> (simp at hd; rw [← hd.1]; first | exact cell_of_row wr _ 0 _ 3 (0, 0) hb1 | exact cell_of_row wr _ 1 _ 3 (0, 0) hb1 | exact cell_of_row wr _ 2 _ 3 (0, 0) hb1)
        by_cases hi : arity k ≤ j
        · by_cases hq : q = 0
          · subst hq
            go_wp2_with (first | (go_at_call 83; refine (in_any _ _ _ _).mono ?_; rintro e w' ⟨rfl, hw'⟩; rw [hw']; clear hw' w') | (go_at_call 79; refine (arity_any _ _).mono ?_; rintro e w' ⟨rfl, hw'⟩; rw [hw']; clear hw' w'))
            refine ⟨⟨j + 1, r, seen, by simp at hj; omega, by go_num, by rw [← List.tail_drop, hd]; rfl, hok.trans (by simp only [okQ, if_pos hi]; simp), hown.mono (Nat.le_succ _), hbel, hsz, hb0, hb1⟩, ?_⟩
            simp [intOf]; omega
          · go_wp2_with (first | (go_at_call 83; refine (in_any _ _ _ _).mono ?_; rintro e w' ⟨rfl, hw'⟩; rw [hw']; clear hw' w') | (go_at_call 79; refine (arity_any _ _).mono ?_; rintro e w' ⟨rfl, hw'⟩; rw [hw']; clear hw' w'))
            go_ret
            exact ⟨ret_bool (by rw [hok]; simp only [okQ, if_pos hi]; simp [hq]), hbel⟩
        · by_cases hin : 0 ≤ q ∧ q ≤ n - 1
          · have hB : inB q 0 (n - 1) = true := inB_true.2 hin
            have hwf : (Lit.int .i64 q).wf = true := by (have h1 : -9223372036854775808 ≤ q ∧ q ≤ 9223372036854775807 := by omega); (have h2 : IntKind.i64.min = -9223372036854775808 ∧ IntKind.i64.max = 9223372036854775807 := ⟨rfl, rfl⟩); simp only [Lit.wf, h2.1, h2.2, h1, decide_true, Bool.and_self]
            have hlk := lookup_bool (t := 146) hown Try.underlying3 Try.underlying146 Try.underlying4 (zero4 _) hwf
            cases hc : seen.contains q with
            | true =>
              rw [hc] at hlk
              go_wp2_with (first | (go_at_call 83; refine (in_any _ _ _ _).mono ?_; rintro e w' ⟨rfl, hw'⟩; rw [hw']; clear hw' w') | (go_at_call 79; refine (arity_any _ _).mono ?_; rintro e w' ⟨rfl, hw'⟩; rw [hw']; clear hw' w'))
              go_ret
              exact ⟨ret_bool (by rw [hok]; simp only [okQ, if_neg (show ¬ arity k ≤ (j : Int) by omega), hc]; simp), hbel⟩
            | false =>
              rw [hc] at hlk
              obtain ⟨w2, hup, hown2, hg⟩ := update_bool (t := 146) hown Try.underlying3 Try.underlying146 Try.underlying4 (by unfold maxLen; omega) hwf
              go_wp2_with (first | (go_at_call 83; refine (in_any _ _ _ _).mono ?_; rintro e w' ⟨rfl, hw'⟩; rw [hw']; clear hw' w') | (go_at_call 79; refine (arity_any _ _).mono ?_; rintro e w' ⟨rfl, hw'⟩; rw [hw']; clear hw' w'))
              have hs2 := hg.size
              refine ⟨⟨j + 1, r, q :: seen, by simp at hj; omega, by go_num, by rw [← List.tail_drop, hd]; rfl, hok.trans (by simp only [okQ, if_neg (show ¬ arity k ≤ (j : Int) by omega), hc, decide_eq_true hin]; simp), hown2, hbel.grown hg (by omega) (fun j hj => by cases hj; omega), by omega, (hg.block _ (by omega) (by intro h; injection h; omega)).trans hb0, (hg.block _ (by omega) (by intro h; injection h; omega)).trans hb1⟩, ?_⟩
              simp [intOf]; omega
          · have hB : inB q 0 (n - 1) = false := by cases h : inB q 0 (n - 1) with | true => exact absurd (inB_true.1 h) hin | false => rfl
            go_wp2_with (first | (go_at_call 83; refine (in_any _ _ _ _).mono ?_; rintro e w' ⟨rfl, hw'⟩; rw [hw']; clear hw' w') | (go_at_call 79; refine (arity_any _ _).mono ?_; rintro e w' ⟨rfl, hw'⟩; rw [hw']; clear hw' w'))
            go_ret
            exact ⟨ret_bool (by rw [hok]; simp only [okQ, if_neg (show ¬ arity k ≤ (j : Int) by omega), decide_eq_false hin, Bool.false_and]), hbel⟩
  · go_ret
    rename_i h1
    refine ⟨ret_bool ?_, ?_⟩
    · unfold ivg
      have : decide (1 ≤ n ∧ n ≤ 4) = false := by
        rw [decide_eq_false_iff_not]; intro h; exact h1 (inB_true.2 h)
      rw [this]; rfl
    · repeat' (first | (with_reducible exact Below.refl _ _) | (with_reducible refine below_drewN ?_ _) | (with_reducible refine Below.drew ?_) | (with_reducible refine Below.alloc ?_ ?_ _) | (with_reducible refine Below.setCell ?_ ?_ _) | (with_reducible refine Below.trans ?_ (Below.mono (by with_reducible assumption) ?_)) | go_size | (with_reducible refine Nat.le_trans ?_ (Below.size (by with_reducible assumption))))
#print axioms ivg_any
end Go.Proofs.Ytoleoojcodlciaa
