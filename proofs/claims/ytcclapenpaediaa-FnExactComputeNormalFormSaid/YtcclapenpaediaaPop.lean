/- Counting bits: the parallel sum that math/bits uses gives the number of set bits of every 64-bit number. Plain arithmetic, no program. -/
import Derived.WalkKit
namespace Go.Proofs.Ytcclapenpaediaa
namespace Pop

/-- The sum of the lowest k binary digits. -/
def pcn : Nat → Nat → Nat
  | 0, _ => 0
  | k + 1, x => x % 2 + pcn k (x / 2)

theorem pcn_split : ∀ (j k x : Nat), pcn (j + k) x = pcn j (x % 2 ^ j) + pcn k (x / 2 ^ j)
  | 0, k, x => by simp [pcn]
  | j + 1, k, x => by
    rw [show j + 1 + k = (j + k) + 1 by omega]
    simp only [pcn]
    rw [pcn_split j k (x / 2)]
    have e1 : x % 2 ^ (j + 1) / 2 = x / 2 % 2 ^ j := by
      rw [Nat.pow_succ, Nat.mul_comm]; exact Nat.mod_mul_right_div_self x 2 (2 ^ j)
    have e2 : x % 2 ^ (j + 1) % 2 = x % 2 := Nat.mod_mod_of_dvd x (by rw [Nat.pow_succ]; exact Nat.dvd_mul_left 2 (2 ^ j))
    have e3 : x / 2 / 2 ^ j = x / 2 ^ (j + 1) := by rw [Nat.div_div_eq_div_mul, Nat.pow_succ, Nat.mul_comm]
    rw [e1, e2, e3]; omega

def val : List Nat → Nat
  | [] => 0
  | b :: l => b + 256 * val l
def mask (m : Nat) : Nat → Nat
  | 0 => 0
  | k + 1 => m + 256 * mask m k

theorem and_parts (b c h k : Nat) (hb : b < 256) (hc : c < 256) : (b + 256 * h) &&& (c + 256 * k) = (b &&& c) + 256 * (h &&& k) := by
  have hbc : b &&& c < 256 := Nat.lt_of_le_of_lt Nat.and_le_left hb
  apply Nat.eq_of_testBit_eq
  intro i
  have e1 := Nat.testBit_two_pow_mul_add h (i := 8) hb i
  have e2 := Nat.testBit_two_pow_mul_add k (i := 8) hc i
  have e3 := Nat.testBit_two_pow_mul_add (h &&& k) (i := 8) hbc i
  rw [Nat.testBit_and, Nat.add_comm b, Nat.add_comm c, Nat.add_comm (b &&& c)]
  rw [show (256 : Nat) = 2 ^ 8 from rfl, e1, e2, e3]
  split <;> simp

def s1 (b : Nat) : Nat := ((b / 2) &&& 85) + (b &&& 85)
def s2 (b : Nat) : Nat := ((b / 4) &&& 51) + (b &&& 51)
def s3 (b : Nat) : Nat := (b / 16 + b) &&& 15

theorem half_low : ∀ (b : Fin 256) (t : Fin 2), (b.val / 2 + 128 * t.val) &&& 85 = (b.val / 2) &&& 85 := by decide +kernel
theorem quarter_low : ∀ (b : Fin 256) (t : Fin 4), (b.val / 4 + 64 * t.val) &&& 51 = (b.val / 4) &&& 51 := by decide +kernel
theorem s1_facts : ∀ b : Fin 256, s1 b.val < 256 ∧ s2 (s1 b.val) ≤ 68 ∧ s2 (s1 b.val) % 16 ≤ 4 ∧ s3 (s2 (s1 b.val)) = pcn 8 b.val := by decide +kernel
theorem pc8_le : ∀ b : Fin 256, pcn 8 b.val ≤ 8 := by decide +kernel
theorem low_nibble : ∀ (b : Fin 69) (t : Fin 5), b.val % 16 ≤ 4 → (b.val / 16 + b.val + 16 * t.val) &&& 15 = (b.val / 16 + b.val) &&& 15 ∧ b.val / 16 + b.val + 16 * t.val < 256 := by decide +kernel

theorem step1 : ∀ l : List Nat, (∀ b ∈ l, b < 256) → ((val l / 2) &&& mask 85 l.length) + (val l &&& mask 85 l.length) = val (l.map s1)
  | [], _ => by simp [val, mask]
  | b :: l, h => by
    have hb : b < 256 := h b (by simp)
    have ih := step1 l (fun x hx => h x (by simp [hx]))
    have e : (b + 256 * val l) / 2 = (b / 2 + 128 * (val l % 2)) + 256 * (val l / 2) := by omega
    have hl : b / 2 + 128 * (val l % 2) < 256 := by omega
    have hh := half_low ⟨b, hb⟩ ⟨val l % 2, by omega⟩
    simp only at hh
    simp only [val, mask, List.length_cons, List.map_cons]
    rw [e, and_parts _ _ _ _ hl (by omega), and_parts _ _ _ _ hb (by omega), hh, ← ih]
    simp only [s1]; omega

theorem step2 : ∀ l : List Nat, (∀ b ∈ l, b < 256) → ((val l / 4) &&& mask 51 l.length) + (val l &&& mask 51 l.length) = val (l.map s2)
  | [], _ => by simp [val, mask]
  | b :: l, h => by
    have hb : b < 256 := h b (by simp)
    have ih := step2 l (fun x hx => h x (by simp [hx]))
    have e : (b + 256 * val l) / 4 = (b / 4 + 64 * (val l % 4)) + 256 * (val l / 4) := by omega
    have hl : b / 4 + 64 * (val l % 4) < 256 := by omega
    have hh := quarter_low ⟨b, hb⟩ ⟨val l % 4, by omega⟩
    simp only at hh
    simp only [val, mask, List.length_cons, List.map_cons]
    rw [e, and_parts _ _ _ _ hl (by omega), and_parts _ _ _ _ hb (by omega), hh, ← ih]
    simp only [s2]; omega

theorem step3 : ∀ l : List Nat, (∀ b ∈ l, b ≤ 68 ∧ b % 16 ≤ 4) → (val l / 16 + val l) &&& mask 15 l.length = val (l.map s3)
  | [], _ => by simp [val, mask]
  | b :: l, h => by
    have hb := h b (by simp)
    have ih := step3 l (fun x hx => h x (by simp [hx]))
    have ht : val l % 16 ≤ 4 := by
      cases l with
      | nil => simp [val]
      | cons c m => have := (h c (by simp)).2; simp only [val]; omega
    have e : (b + 256 * val l) / 16 + (b + 256 * val l) = (b / 16 + b + 16 * (val l % 16)) + 256 * (val l / 16 + val l) := by omega
    obtain ⟨hh, hl⟩ := low_nibble ⟨b, by omega⟩ ⟨val l % 16, by omega⟩ hb.2
    simp only at hh hl
    simp only [val, mask, List.length_cons, List.map_cons]
    rw [e, and_parts _ _ _ _ hl (by omega), hh, ih]
    simp only [s3]

theorem val_lt : ∀ l : List Nat, (∀ b ∈ l, b < 256) → val l < 256 ^ l.length
  | [], _ => by simp [val]
  | b :: l, h => by
    have hb : b < 256 := h b (by simp)
    have ih := val_lt l (fun x hx => h x (by simp [hx]))
    simp only [val, List.length_cons, Nat.pow_succ]
    omega

def M0 : Nat := 6148914691236517205
def M1 : Nat := 3689348814741910323
def M2 : Nat := 1085102592571150095
def two64 : Nat := 18446744073709551616

theorem mask0 : mask 85 8 = M0 := by decide
theorem mask1 : mask 51 8 = M1 := by decide
theorem mask2 : mask 15 8 = M2 := by decide

def byteList (x : Nat) : List Nat := [x % 256, x / 256 % 256, x / 65536 % 256, x / 16777216 % 256, x / 4294967296 % 256, x / 1099511627776 % 256, x / 281474976710656 % 256, x / 72057594037927936 % 256]
theorem byteList_lt (x : Nat) : ∀ b ∈ byteList x, b < 256 := by
  intro b hb
  simp only [byteList, List.mem_cons, List.not_mem_nil, or_false] at hb
  omega
theorem val_byteList (x : Nat) (h : x < two64) : val (byteList x) = x := by
  simp only [byteList, val, two64] at *
  omega

def t1 (x : Nat) : Nat := ((x / 2) &&& M0) + (x &&& M0)
def t2 (x : Nat) : Nat := ((x / 4) &&& M1) + (x &&& M1)
def t3 (x : Nat) : Nat := (x / 16 + x) &&& M2
def t4 (x : Nat) : Nat := x + x / 256
def t5 (x : Nat) : Nat := x + x / 65536
def t6 (x : Nat) : Nat := x + x / 4294967296

theorem pcn_bytes (x : Nat) : pcn 64 x = pcn 8 (x % 256) + (pcn 8 (x / 256 % 256) + (pcn 8 (x / 65536 % 256) + (pcn 8 (x / 16777216 % 256) + (pcn 8 (x / 4294967296 % 256) + (pcn 8 (x / 1099511627776 % 256) + (pcn 8 (x / 281474976710656 % 256) + pcn 8 (x / 72057594037927936 % 256))))))) := by
  have h8 : ∀ y, pcn 8 y = pcn 8 (y % 256) := fun y => by have := pcn_split 8 0 y; simpa [pcn] using this
  rw [show (64 : Nat) = 8 + (8 + (8 + (8 + (8 + (8 + (8 + 8)))))) from rfl]
  rw [pcn_split 8 _ x, pcn_split 8 _ (x / 2 ^ 8), pcn_split 8 _ (x / 2 ^ 8 / 2 ^ 8), pcn_split 8 _ (x / 2 ^ 8 / 2 ^ 8 / 2 ^ 8), pcn_split 8 _ (x / 2 ^ 8 / 2 ^ 8 / 2 ^ 8 / 2 ^ 8), pcn_split 8 _ (x / 2 ^ 8 / 2 ^ 8 / 2 ^ 8 / 2 ^ 8 / 2 ^ 8), pcn_split 8 _ (x / 2 ^ 8 / 2 ^ 8 / 2 ^ 8 / 2 ^ 8 / 2 ^ 8 / 2 ^ 8)]
  rw [h8 (x / 2 ^ 8 / 2 ^ 8 / 2 ^ 8 / 2 ^ 8 / 2 ^ 8 / 2 ^ 8 / 2 ^ 8)]
  simp only [Nat.div_div_eq_div_mul, Nat.reducePow, Nat.reduceMul]

theorem fold4 (c0 c1 c2 c3 c4 c5 c6 c7 : Nat) (k0 : c0 ≤ 8) : t4 (c0 + 256 * (c1 + 256 * (c2 + 256 * (c3 + 256 * (c4 + 256 * (c5 + 256 * (c6 + 256 * (c7 + 256 * 0)))))))) = (c0 + c1) + 256 * ((c1 + c2) + 256 * ((c2 + c3) + 256 * ((c3 + c4) + 256 * ((c4 + c5) + 256 * ((c5 + c6) + 256 * ((c6 + c7) + 256 * c7)))))) := by
  unfold t4; omega
theorem fold5 (d0 d1 d2 d3 d4 d5 d6 d7 : Nat) (k0 : d0 ≤ 16) (k1 : d1 ≤ 16) : t5 (d0 + 256 * (d1 + 256 * (d2 + 256 * (d3 + 256 * (d4 + 256 * (d5 + 256 * (d6 + 256 * d7))))))) = (d0 + d2) + 256 * ((d1 + d3) + 256 * ((d2 + d4) + 256 * ((d3 + d5) + 256 * ((d4 + d6) + 256 * ((d5 + d7) + 256 * (d6 + 256 * d7)))))) := by
  unfold t5; omega
theorem fold6 (d0 d1 d2 d3 d4 d5 d6 d7 : Nat) (k0 : d0 ≤ 32) (k1 : d1 ≤ 32) (k2 : d2 ≤ 32) (k3 : d3 ≤ 32) : t6 (d0 + 256 * (d1 + 256 * (d2 + 256 * (d3 + 256 * (d4 + 256 * (d5 + 256 * (d6 + 256 * d7))))))) = (d0 + d4) + 256 * ((d1 + d5) + 256 * ((d2 + d6) + 256 * ((d3 + d7) + 256 * (d4 + 256 * (d5 + 256 * (d6 + 256 * d7)))))) := by
  unfold t6; omega
theorem fold_lt (d0 d1 d2 d3 d4 d5 d6 d7 : Nat) (k0 : d0 ≤ 64) (k1 : d1 ≤ 64) (k2 : d2 ≤ 64) (k3 : d3 ≤ 64) (k4 : d4 ≤ 64) (k5 : d5 ≤ 64) (k6 : d6 ≤ 64) (k7 : d7 ≤ 64) : d0 + 256 * (d1 + 256 * (d2 + 256 * (d3 + 256 * (d4 + 256 * (d5 + 256 * (d6 + 256 * d7)))))) < two64 := by
  unfold two64; omega
theorem fold_all (c0 c1 c2 c3 c4 c5 c6 c7 : Nat) (k0 : c0 ≤ 8) (k1 : c1 ≤ 8) (k2 : c2 ≤ 8) (k3 : c3 ≤ 8) (k4 : c4 ≤ 8) (k5 : c5 ≤ 8) (k6 : c6 ≤ 8) (k7 : c7 ≤ 8) (y : Nat)
    (h : y = c0 + 256 * (c1 + 256 * (c2 + 256 * (c3 + 256 * (c4 + 256 * (c5 + 256 * (c6 + 256 * (c7 + 256 * 0)))))))) :
    y < two64 ∧ t4 y < two64 ∧ t5 (t4 y) < two64 ∧ t6 (t5 (t4 y)) < two64 ∧ t6 (t5 (t4 y)) % 128 = c0 + (c1 + (c2 + (c3 + (c4 + (c5 + (c6 + c7)))))) := by
  subst h
  rw [fold4 _ _ _ _ _ _ _ _ k0, fold5 _ _ _ _ _ _ _ _ (by omega) (by omega), fold6 _ _ _ _ _ _ _ _ (by omega) (by omega) (by omega) (by omega)]
  refine ⟨fold_lt _ _ _ _ _ _ _ _ (by omega) (by omega) (by omega) (by omega) (by omega) (by omega) (by omega) (by omega), fold_lt _ _ _ _ _ _ _ _ (by omega) (by omega) (by omega) (by omega) (by omega) (by omega) (by omega) (by omega), fold_lt _ _ _ _ _ _ _ _ (by omega) (by omega) (by omega) (by omega) (by omega) (by omega) (by omega) (by omega), fold_lt _ _ _ _ _ _ _ _ (by omega) (by omega) (by omega) (by omega) (by omega) (by omega) (by omega) (by omega), ?_⟩
  omega

/-- All the bounds and the value of the parallel sum. -/
theorem trick (x : Nat) (h : x < two64) : t1 x < two64 ∧ t2 (t1 x) < two64 ∧ t2 (t1 x) / 16 + t2 (t1 x) < two64 ∧ t3 (t2 (t1 x)) < two64 ∧ t4 (t3 (t2 (t1 x))) < two64 ∧ t5 (t4 (t3 (t2 (t1 x)))) < two64 ∧ t6 (t5 (t4 (t3 (t2 (t1 x))))) < two64 ∧
    t6 (t5 (t4 (t3 (t2 (t1 x))))) % 128 = pcn 64 x := by
  have hb := byteList_lt x
  have hv := val_byteList x h
  have p1 : t1 x = val ((byteList x).map s1) := by
    have := step1 _ hb
    rw [hv, show (byteList x).length = 8 from rfl, mask0] at this
    exact this
  have l1 : ∀ b ∈ (byteList x).map s1, b < 256 := by
    intro b hm
    obtain ⟨c, hc, rfl⟩ := List.mem_map.1 hm
    exact (s1_facts ⟨c, hb c hc⟩).1
  have p2 : t2 (t1 x) = val (((byteList x).map s1).map s2) := by
    have := step2 _ l1
    rw [← p1, show ((byteList x).map s1).length = 8 from rfl, mask1] at this
    exact this
  have l2 : ∀ b ∈ ((byteList x).map s1).map s2, b ≤ 68 ∧ b % 16 ≤ 4 := by
    intro b hm
    obtain ⟨c, hc, rfl⟩ := List.mem_map.1 hm
    obtain ⟨d, hd, rfl⟩ := List.mem_map.1 hc
    have := s1_facts ⟨d, hb d hd⟩
    exact ⟨this.2.1, this.2.2.1⟩
  have p3 : t3 (t2 (t1 x)) = val ((((byteList x).map s1).map s2).map s3) := by
    have := step3 _ l2
    rw [← p2, show (((byteList x).map s1).map s2).length = 8 from rfl, mask2] at this
    exact this
  have e3 : (((byteList x).map s1).map s2).map s3 = (byteList x).map (pcn 8) := by
    rw [List.map_map, List.map_map]
    apply List.map_congr_left
    intro c hc
    exact (s1_facts ⟨c, hb c hc⟩).2.2.2
  rw [e3] at p3
  have b1 : t1 x < two64 := by
    have := val_lt _ l1
    rw [show ((byteList x).map s1).length = 8 from rfl, show (256 : Nat) ^ 8 = two64 from by decide, ← p1] at this
    exact this
  have v2 : val (((byteList x).map s1).map s2) < 256 ^ 7 * 69 := by
    have l2' := l2
    simp only [byteList, List.map_cons, List.map_nil, List.mem_cons, List.not_mem_nil, or_false, forall_eq_or_imp, forall_eq] at l2'
    simp only [byteList, List.map_cons, List.map_nil, val]
    omega
  have c8 : ∀ y, pcn 8 (y % 256) ≤ 8 := fun y => pc8_le ⟨y % 256, by omega⟩
  have k0 := c8 x
  have k1 := c8 (x / 256)
  have k2 := c8 (x / 65536)
  have k3 := c8 (x / 16777216)
  have k4 := c8 (x / 4294967296)
  have k5 := c8 (x / 1099511627776)
  have k6 := c8 (x / 281474976710656)
  have k7 := c8 (x / 72057594037927936)
  rw [pcn_bytes x]
  simp only [byteList, List.map_cons, List.map_nil, val] at p3
  obtain ⟨f0, f1, f2, f3, f4⟩ := fold_all _ _ _ _ _ _ _ _ k0 k1 k2 k3 k4 k5 k6 k7 _ p3
  rw [← p2] at v2
  refine ⟨b1, ?_, ?_, f0, f1, f2, f3, f4⟩
  · clear f0 f1 f2 f3 f4; unfold two64; omega
  · clear f0 f1 f2 f3 f4; unfold two64; omega
end Pop
end Go.Proofs.Ytcclapenpaediaa
