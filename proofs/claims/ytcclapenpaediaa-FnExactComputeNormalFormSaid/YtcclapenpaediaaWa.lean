/- Contracts: range tests, bit counts, validity of Paulis. -/
import Derived.Test.YtcclapenpaediaaProg
import Derived.WalkKit
import Derived.Deep.QuietTactic
import Derived.BigQuiet
import Derived.Lib.Hide
import Derived.Handy
import Derived.Test.YtcclapenpaediaaBits
namespace Go.Proofs.Ytcclapenpaediaa
open Go.RowKit Pop
set_option maxRecDepth 100000
set_option linter.unusedVariables false
set_option linter.unusedSimpArgs false

theorem ret_int {k : IntKind} {a b : Int} (h : a = b) : Ending.returned (.int k a) = .returned (.int k b) := by rw [h]
theorem ret_bool {a b : Bool} (h : a = b) : Ending.returned (.bool a) = .returned (.bool b) := by rw [h]

theorem below_drewN {B : Nat} {a w : World} (h : Below B a w) (n : Nat) : Below B a (w.drewN n) := ⟨h.os, h.tape, h.output, h.size, h.block⟩

theorem bcell {W w1 : World} (hb : Below W.heap.size W w1) : (∀ b o, b < W.heap.size → w1.cell? ⟨b, o, none⟩ = W.cell? ⟨b, o, none⟩) ∧ (∀ b o, b < W.heap.size → w1.frozen? ⟨b, o, none⟩ = W.frozen? ⟨b, o, none⟩) :=
  ⟨fun b o h => hb.cell (p := ⟨b, o, none⟩) h, fun b o h => hb.frozen (p := ⟨b, o, none⟩) h⟩

def inB (n lo hi : Int) : Bool := decide (lo ≤ n) && decide (n ≤ hi)
theorem inB_true {n lo hi : Int} : inB n lo hi = true ↔ lo ≤ n ∧ n ≤ hi := by simp [inB]
theorem inB_false {n lo hi : Int} : inB n lo hi = false ↔ n < lo ∨ hi < n := by simp [inB]; omega

theorem in_any (n lo hi : Int) (w : World) :
    Calls Try.prog 94 #[.int .i64 n, .int .i64 lo, .int .i64 hi] w fun e w' => e = .returned (.bool (inB n lo hi)) ∧ w' = w := by
  go_enter Try.func94, Try.ntmps94
  go_wp2
  all_goals
    go_ret
    exact ⟨by simp [inB]; omega, rfl⟩

theorem l1In_any (n lo hi : Int) (w : World) :
    Calls Try.prog 86 #[.int .i64 n, .int .i64 lo, .int .i64 hi] w fun e w' => e = .returned (.bool (inB n lo hi)) ∧ w' = w := by
  go_enter Try.func86, Try.ntmps86
  go_wp2
  all_goals
    go_ret
    exact ⟨by simp [inB]; omega, rfl⟩

theorem l25Ones_any (x : Int) (w : World) :
    Calls Try.prog 140 #[.int .i64 x] w fun e w' => e = .returned (.int .i64 (popI x)) ∧ w' = w := by
  have hand := bits_and_one
  go_enter Try.func140, Try.ntmps140
  go_wp2
  go_loop [3, 4] (fun n i => ∃ k : Nat, k ≤ 64 ∧ i = .int .i64 k ∧ n = .int .i64 (sumBits x k)) (fun _ i => 64 - (intOf i).toNat)
  case atStart => exact ⟨0, by omega, rfl, rfl⟩
  case round =>
    obtain ⟨k, hk, rfl, rfl⟩ := hrel
    have hb := sumBits_bd x k
    by_cases hlt : k < 64
    · go_wp2
      go_round
      case rel => exact ⟨k + 1, by omega, by go_num, by simp only [sumBits]⟩
      case measure => simp [intOf]; omega
    · go_wp2
      go_ret
      obtain rfl : k = 64 := by omega
      exact ⟨ret_int (popI_eq x), rfl⟩

theorem onesCount64_any (x : Int) (w : World) (h0 : 0 ≤ x) (h1 : x < two64I) :
    Calls Try.prog 170 #[.int .u64 x] w fun e w' => e = .returned (.int .i64 (pcn 64 x.toNat : Nat)) ∧ w' = w := by
  obtain ⟨n, rfl⟩ := Int.eq_ofNat_of_zero_le h0
  have hn : n < two64 := by unfold two64 two64I at *; omega
  obtain ⟨b1, b2, b3, b4, b5, b6, b7, hv⟩ := trick n hn
  rw [Int.toNat_natCast]
  generalize pcn 64 n = v at *
  have w64 : ∀ y : Nat, y < two64 → IntKind.u64.wrap (y : Int) = (y : Int) := fun y hy => by rw [IntKind.wrap_u64]; unfold two64 at hy; omega
  have e1 : IntKind.u64.wrap (bits .and .u64 ((n : Int) / 2) 6148914691236517205 + bits .and .u64 (n : Int) 6148914691236517205) = (t1 n : Nat) := by
    have p := bits_and_u64 (n / 2) M0 (by omega) (by unfold M0 two64; omega)
    have q := bits_and_u64 n M0 (by omega) (by unfold M0 two64; omega)
    have r : bits .and .u64 ((n : Int) / 2) 6148914691236517205 + bits .and .u64 (n : Int) 6148914691236517205 = ((t1 n : Nat) : Int) := by
      unfold t1; rw [Int.natCast_add, ← p, ← q]; rfl
    rw [r]; exact w64 _ b1
  have e2 : IntKind.u64.wrap (bits .and .u64 (((t1 n : Nat) : Int) / 4) 3689348814741910323 + bits .and .u64 ((t1 n : Nat) : Int) 3689348814741910323) = (t2 (t1 n) : Nat) := by
    have p := bits_and_u64 (t1 n / 4) M1 (by omega) (by unfold M1 two64; omega)
    have q := bits_and_u64 (t1 n) M1 (by omega) (by unfold M1 two64; omega)
    have r : bits .and .u64 (((t1 n : Nat) : Int) / 4) 3689348814741910323 + bits .and .u64 ((t1 n : Nat) : Int) 3689348814741910323 = ((t2 (t1 n) : Nat) : Int) := by
      unfold t2; rw [Int.natCast_add, ← p, ← q]; rfl
    rw [r]; exact w64 _ b2
  have e3 : bits .and .u64 (IntKind.u64.wrap (((t2 (t1 n) : Nat) : Int) / 16 + ((t2 (t1 n) : Nat) : Int))) 1085102592571150095 = (t3 (t2 (t1 n)) : Nat) := by
    have p := bits_and_u64 (t2 (t1 n) / 16 + t2 (t1 n)) M2 b3 (by unfold M2 two64; omega)
    have r : ((t2 (t1 n) : Nat) : Int) / 16 + ((t2 (t1 n) : Nat) : Int) = ((t2 (t1 n) / 16 + t2 (t1 n) : Nat) : Int) := by omega
    rw [r, w64 _ b3]; unfold t3; rw [← p]; rfl
  have e4 : IntKind.u64.wrap (((t3 (t2 (t1 n)) : Nat) : Int) + ((t3 (t2 (t1 n)) : Nat) : Int) / 256) = (t4 (t3 (t2 (t1 n))) : Nat) := by
    have r : ((t3 (t2 (t1 n)) : Nat) : Int) + ((t3 (t2 (t1 n)) : Nat) : Int) / 256 = (t4 (t3 (t2 (t1 n))) : Nat) := by unfold t4; omega
    rw [r]; exact w64 _ b5
  have e5 : IntKind.u64.wrap (((t4 (t3 (t2 (t1 n))) : Nat) : Int) + ((t4 (t3 (t2 (t1 n))) : Nat) : Int) / 65536) = (t5 (t4 (t3 (t2 (t1 n)))) : Nat) := by
    have r : ((t4 (t3 (t2 (t1 n))) : Nat) : Int) + ((t4 (t3 (t2 (t1 n))) : Nat) : Int) / 65536 = (t5 (t4 (t3 (t2 (t1 n)))) : Nat) := by unfold t5; omega
    rw [r]; exact w64 _ b6
  have e6 : IntKind.u64.wrap (((t5 (t4 (t3 (t2 (t1 n)))) : Nat) : Int) + ((t5 (t4 (t3 (t2 (t1 n)))) : Nat) : Int) / 4294967296) = (t6 (t5 (t4 (t3 (t2 (t1 n))))) : Nat) := by
    have r : ((t5 (t4 (t3 (t2 (t1 n)))) : Nat) : Int) + ((t5 (t4 (t3 (t2 (t1 n)))) : Nat) : Int) / 4294967296 = (t6 (t5 (t4 (t3 (t2 (t1 n))))) : Nat) := by unfold t6; omega
    rw [r]; exact w64 _ b7
  have e7 : bits .and .i64 (wrap64 ((t6 (t5 (t4 (t3 (t2 (t1 n))))) : Nat) : Int)) 127 = (v : Nat) := by
    rw [bits_and_127, wrap64_mod128]; omega
  generalize t6 (t5 (t4 (t3 (t2 (t1 n))))) = y6 at *
  generalize t5 (t4 (t3 (t2 (t1 n)))) = y5 at *
  generalize t4 (t3 (t2 (t1 n))) = y4 at *
  generalize t3 (t2 (t1 n)) = y3 at *
  generalize t2 (t1 n) = y2 at *
  generalize t1 n = y1 at *
  clear hv w64 b1 b2 b3 b4 b5 b6 b7 h0 h1 hn
  go_enter Try.func170, Try.ntmps170
  go_wp2
  go_ret
  exact ⟨rfl, rfl⟩

theorem onesCount_any (x : Int) (w : World) (h0 : 0 ≤ x) (h1 : x < two64I) :
    Calls Try.prog 167 #[.int .u64 x] w fun e w' => e = .returned (.int .i64 (pcn 64 x.toNat : Nat)) ∧ w' = w := by
  have H := Lib.hid h1; clear h1
  go_enter Try.func167, Try.ntmps167
  go_wp2_with (go_at_call 170; refine (onesCount64_any _ _ h0 H.out).mono ?_; rintro e w' ⟨rfl, rfl⟩)
  go_ret
  exact ⟨rfl, rfl⟩

theorem ones_any (x : Int) (w : World) :
    Calls Try.prog 158 #[.int .i64 x] w fun e w' => e = .returned (.int .i64 (popI x)) ∧ w' = w := by
  have h0 : 0 ≤ IntKind.u64.wrap x := by rw [IntKind.wrap_u64]; omega
  have h1 : IntKind.u64.wrap x < two64I := by rw [IntKind.wrap_u64]; unfold two64I; omega
  have H := Lib.hid h1; clear h1
  go_enter Try.func158, Try.ntmps158
  go_wp2_with (go_at_call 167; refine (onesCount_any _ _ h0 H.out).mono ?_; rintro e w' ⟨rfl, rfl⟩)
  go_ret
  exact ⟨ret_int (by unfold popI; rw [IntKind.wrap_u64]; rfl), rfl⟩

theorem toPauli_any (n x z p : Int) (w : World) :
    Calls Try.prog 123 #[.agg #[.int .i64 n, .int .i64 x, .int .i64 z, .int .i64 p]] w fun e w' => e = .returned (.agg #[.int .i64 n, .int .i64 x, .int .i64 z, .int .i64 p]) ∧ Below w.heap.size w w' := by
  go_enter Try.func123, Try.ntmps123
  go_wp2
  refine bodyPost_ret (v := .agg #[.int .i64 n, .int .i64 x, .int .i64 z, .int .i64 p]) (by simp [results, Try.results123, go_sem]) rfl ⟨rfl, ?_⟩
  exact (((Below.refl _ _).alloc (by simp) _).alloc (by simp) _).alloc (by simp; omega) _

/-- 2 to the power n, for the few n that occur. -/
def pow2 (n : Int) : Int := 2 ^ n.toNat
def validB (n x z p : Int) : Bool := inB n 1 4 && (inB x 0 (pow2 n - 1) && (inB z 0 (pow2 n - 1) && inB p 0 3))
theorem pow2_1 : pow2 1 = 2 := rfl
theorem pow2_2 : pow2 2 = 4 := rfl
theorem pow2_3 : pow2 3 = 8 := rfl
theorem pow2_4 : pow2 4 = 16 := rfl

theorem isValidPauli_spec (n x z p : Int) (w : World) :
    Calls Try.prog 139 #[.agg #[.int .i64 n, .int .i64 x, .int .i64 z, .int .i64 p]] w fun e w' => e = .returned (.bool (validB n x z p)) ∧ Below w.heap.size w w' := by
  by_cases h : inB n 1 4 = true
  · have hn : n = 1 ∨ n = 2 ∨ n = 3 ∨ n = 4 := by simp [inB] at h; omega
    rcases hn with rfl | rfl | rfl | rfl
    all_goals
      go_enter Try.func139, Try.ntmps139
      go_wp2_with (go_at_call 86; refine (l1In_any _ _ _ _).mono ?_; rintro e w' ⟨rfl, rfl⟩)
      all_goals
        go_ret
        exact ⟨ret_bool (by simp_all [validB, pow2_1, pow2_2, pow2_3, pow2_4]), (Below.refl _ _).alloc (by simp) _⟩
  · go_enter Try.func139, Try.ntmps139
    go_wp2_with (go_at_call 86; refine (l1In_any _ _ _ _).mono ?_; rintro e w' ⟨rfl, rfl⟩)
    go_ret
    exact ⟨ret_bool (by simp_all [validB]), (Below.refl _ _).alloc (by simp) _⟩

theorem isValidPauli_impl (n x z p : Int) (w : World) :
    Calls Try.prog 142 #[.agg #[.int .i64 n, .int .i64 x, .int .i64 z, .int .i64 p]] w fun e w' => e = .returned (.bool (validB n x z p)) ∧ Below w.heap.size w w' := by
  by_cases h : inB n 1 4 = true
  · have hn : n = 1 ∨ n = 2 ∨ n = 3 ∨ n = 4 := by simp [inB] at h; omega
    rcases hn with rfl | rfl | rfl | rfl
    all_goals
      go_enter Try.func142, Try.ntmps142
      go_wp2_with fail
      refine wp_region_quiet_lit (by kernel_rfl) (by kernel_rfl) ?_
      repeat (any_goals (first | go_big_quiet_step ((go_at_call 94; exact Calls.quiet_of_same (in_any _ _ _ _))) | quiet_step ((go_at_call 94; exact Calls.quiet_of_same (in_any _ _ _ _))) | (refine wpQuiet_step (fun K hK => ?_); go_simp; split <;> (refine hK _ ?_; clear hK K))))
      all_goals (refine wpQuiet_nil ?_; intro _ hw'; obtain ⟨nq, hw''⟩ := hw'; subst hw'')
      all_goals
        go_wp2
        go_ret
        exact ⟨ret_bool (by simp_all [validB, pow2_1, pow2_2, pow2_3, pow2_4]), below_drewN ((Below.refl _ _).alloc (by simp) _) _⟩
  · go_enter Try.func142, Try.ntmps142
    go_wp2_with fail
    refine wp_region_quiet_lit (by kernel_rfl) (by kernel_rfl) ?_
    repeat (any_goals (first | go_big_quiet_step ((go_at_call 94; exact Calls.quiet_of_same (in_any _ _ _ _))) | quiet_step ((go_at_call 94; exact Calls.quiet_of_same (in_any _ _ _ _))) | (refine wpQuiet_step (fun K hK => ?_); go_simp; split <;> (refine hK _ ?_; clear hK K))))
    all_goals (refine wpQuiet_nil ?_; intro _ hw'; obtain ⟨nq, hw''⟩ := hw'; subst hw'')
    all_goals
      go_wp2
      go_ret
      exact ⟨ret_bool (by simp_all [validB]), below_drewN ((Below.refl _ _).alloc (by simp) _) _⟩
end Go.Proofs.Ytcclapenpaediaa
