/- Contracts: FormatPauli. -/
import Derived.Test.YtpahkbajeniajaaWb
import Derived.Test.YtpahkbajeniajaaMake
namespace Go.Proofs.Ytpahkbajeniajaa
open Go.RowKit Pop
set_option maxRecDepth 100000
set_option linter.unusedVariables false
set_option linter.unusedSimpArgs false

def phStr (k : Int) : ByteArray := if k = 0 then ⟨#[43]⟩ else if k = 1 then ⟨#[43, 105]⟩ else if k = 2 then ⟨#[45]⟩ else ⟨#[45, 105]⟩
def chStr (a b : Int) : ByteArray := if a = 0 then (if b = 0 then ⟨#[73]⟩ else ⟨#[90]⟩) else (if b = 0 then ⟨#[88]⟩ else ⟨#[89]⟩)
def fmtTo (x z p : Int) : Nat → ByteArray
  | 0 => phStr ((p - andPop x z) % 4)
  | k + 1 => fmtTo x z p k ++ chStr (x / 2 ^ k % 2) (z / 2 ^ k % 2)
theorem phStr_size (k : Int) : (phStr k).size ≤ 2 := by
  unfold phStr; split <;> (try split) <;> (try split) <;> decide
theorem chStr_size (a b : Int) : (chStr a b).size = 1 := by
  unfold chStr; split <;> split <;> rfl
theorem fmtTo_size (x z p : Int) : ∀ k, (fmtTo x z p k).size ≤ 2 + k
  | 0 => phStr_size _
  | k + 1 => by simp only [fmtTo, ByteArray.size_append, chStr_size]; have := fmtTo_size x z p k; omega
def fmtP (n x z p : Int) : ByteArray := if validB n x z p then fmtTo x z p n.toNat else ⟨#[]⟩

set_option maxHeartbeats 2000000 in
theorem formatPauli_spec (n x z p : Int) (w : World) : Calls Try.prog 15 #[.agg #[.int .i64 n, .int .i64 x, .int .i64 z, .int .i64 p]] w fun e w' => e = .returned (.string (fmtP n x z p)) ∧ Below w.heap.size w w' := by
  cases hv : validB n x z p with
  | false =>
    have e : fmtP n x z p = ⟨#[]⟩ := by simp [fmtP, hv]
    rw [e]
    clear e
    go_enter Try.func15, Try.ntmps15
    go_wp2_with fail
    refine (isValidPauli_spec _ _ _ _ _).mono ?_
    rintro e w1 ⟨rfl, b1⟩
    obtain ⟨hc1, hf1⟩ := bcell b1
    have hz1 := b1.size
    try simp only [World.size_alloc, World.size_setCell, World.size_drew, World.heap_drewN] at hz1
    have hl1a : w.heap.size < w1.heap.size := by omega
    go_wp2_with fail
    go_ret
    refine ⟨rfl, ?_⟩
    repeat' (first | (with_reducible exact Below.refl _ _) | (with_reducible refine below_drewN ?_ _) | (with_reducible refine Below.drew ?_) | (with_reducible refine Below.alloc ?_ ?_ _) | (with_reducible refine Below.setCell ?_ ?_ _) | (with_reducible refine Below.trans ?_ (Below.mono (by with_reducible assumption) ?_)) | go_size | (with_reducible refine Nat.le_trans ?_ (Below.size (by with_reducible assumption))))
  | true =>
    have hp := valid_ph hv
    have hn : 1 ≤ n ∧ n ≤ 4 := by simp only [validB, Bool.and_eq_true] at hv; exact inB_true.1 hv.1
    have e : fmtP n x z p = fmtTo x z p n.toNat := by simp [fmtP, hv]
    rw [e]
    clear e
    have h1 := andPop_bd x z
    have e0 : IntKind.i64.wrap (p - andPop x z) = p - andPop x z := IntWalk.i64_in _ (by omega)
    obtain ⟨N, rfl⟩ := Int.eq_ofNat_of_zero_le (show 0 ≤ n by omega)
    have hand := bits_and_one
    have h7 : (p - andPop x z).tmod 4 = 0 ∨ (p - andPop x z).tmod 4 = 1 ∨ (p - andPop x z).tmod 4 = 2 ∨ (p - andPop x z).tmod 4 = 3 ∨ (p - andPop x z).tmod 4 = -1 ∨ (p - andPop x z).tmod 4 = -2 ∨ (p - andPop x z).tmod 4 = -3 := by
      rcases Int.le_total 0 (p - andPop x z) with h | h
      · rw [Int.tmod_eq_emod_of_nonneg h]; omega
      · have : (p - andPop x z).tmod 4 = -((-(p - andPop x z)) % 4) := by
          rw [← Int.tmod_eq_emod_of_nonneg (by omega), Int.neg_tmod, Int.neg_neg]
        omega
    have hs0 : ∀ c : Int, (p - andPop x z).tmod 4 = c → fmtTo x z p 0 = phStr (c % 4) := fun c hc => by
      have := Int.tmod_add_mul_tdiv (p - andPop x z) 4
      simp only [fmtTo]; congr 1; omega
    have Hs0 := Lib.hid hs0; clear hs0
    go_enter Try.func15, Try.ntmps15
    go_wp2_with fail
    refine (isValidPauli_spec _ _ _ _ _).mono ?_
    rintro e w1 ⟨rfl, b1⟩
    obtain ⟨hc1, hf1⟩ := bcell b1
    have hz1 := b1.size
    try simp only [World.size_alloc, World.size_setCell, World.size_drew, World.heap_drewN] at hz1
    have hl1a : w.heap.size < w1.heap.size := by omega
    go_wp2_with fail
    refine wp_region_later (by kernel_rfl) (by kernel_rfl) ?_
    repeat (any_goals (first | go_big_quiet_step ((go_at_call 57; exact later_of_same (l25Ones_and _ _ _))) | quiet_step ((go_at_call 57; exact later_of_same (l25Ones_and _ _ _))) | (refine wpQuiet_step (fun K hK => ?_); go_simp; split <;> (refine hK _ ?_; clear hK K))))
    all_goals (refine wpQuiet_nil ?_; intro _ hw'; obtain ⟨x3, hw''⟩ := hw'; subst hw''; have b3 := later_below _ x3; generalize later _ x3 = w3 at *; clear x3)
    obtain ⟨hc3, hf3⟩ := bcell b3
    have hz3 := b3.size
    try simp only [World.size_alloc, World.size_setCell, World.size_drew, World.heap_drewN] at hz3
    have hl3a : w.heap.size < w3.heap.size := by omega
    have hN : (1 : Int) ≤ N ∧ (N : Int) ≤ 4 := hn
    clear hn
    rcases h7 with h | h | h | h | h | h | h
    all_goals
      have hst := Hs0.out _ h
      have Hst := Lib.hid hst; clear hst
      rw [h]
      go_wp2_with fail
      go_loopw [4, 5] (fun s i wr => ∃ k : Nat, k ≤ N ∧ i = .int .i64 k ∧ s = .string (fmtTo x z p k) ∧ Below (w.alloc (.cells #[.int .i64 (N : Int), .int .i64 x, .int .i64 z, .int .i64 p] 25)).heap.size (w.alloc (.cells #[.int .i64 (N : Int), .int .i64 x, .int .i64 z, .int .i64 p] 25)) wr) (fun _ i _ => N - (intOf i).toNat)
      case atStart =>
        refine ⟨0, by omega, rfl, by rw [Hst.out]; rfl, ?_⟩
        repeat' (first | (with_reducible exact Below.refl _ _) | (with_reducible refine below_drewN ?_ _) | (with_reducible refine Below.drew ?_) | (with_reducible refine Below.alloc ?_ ?_ _) | (with_reducible refine Below.setCell ?_ ?_ _) | (with_reducible refine Below.trans ?_ (Below.mono (by with_reducible assumption) ?_)) | go_size | (with_reducible refine Nat.le_trans ?_ (Below.size (by with_reducible assumption))))
      case round =>
        clear hc1 hf1 hz1 hl1a hc3 hf3 hz3 hl3a h e0
        obtain ⟨k, hk, rfl, rfl, b2⟩ := hrel
        obtain ⟨hc2, hf2⟩ := bcell b2
        have hz2 := b2.size
        simp only [World.size_alloc] at hz2
        have hl2a : w.heap.size < wr.heap.size := by omega
        by_cases hlt : k < N
        · have hk0 : (0 : Int) ≤ (k : Int) := Int.natCast_nonneg _
          have hk1 : (k : Int) < (N : Int) := by omega
          have hx : x / 2 ^ k % 2 = 0 ∨ x / 2 ^ k % 2 = 1 := by omega
          have hz : z / 2 ^ k % 2 = 0 ∨ z / 2 ^ k % 2 = 1 := by omega
          rcases hx with hx | hx <;> rcases hz with hz | hz
          all_goals
            have hf := show fmtTo x z p (k + 1) = fmtTo x z p k ++ chStr (x / 2 ^ k % 2) (z / 2 ^ k % 2) from rfl
            rw [hx, hz] at hf
            have hsz := fmtTo_size x z p k
            have hsz1 : ¬ (9223372036854775807 < (fmtTo x z p k).size + 1) := by omega
            clear hsz
            have Hf := Lib.hid hf; clear hf
            go_wp2_with fail
            go_roundw
            case rel =>
              refine ⟨k + 1, by omega, by go_num, by rw [Hf.out]; rfl, ?_⟩
              repeat' (first | (with_reducible exact Below.refl _ _) | (with_reducible refine below_drewN ?_ _) | (with_reducible refine Below.drew ?_) | (with_reducible refine Below.alloc ?_ ?_ _) | (with_reducible refine Below.setCell ?_ ?_ _) | (with_reducible refine Below.trans ?_ (Below.mono (by with_reducible assumption) ?_)) | go_size | (with_reducible refine Nat.le_trans ?_ (Below.size (by with_reducible assumption))))
            case measure => simp [intOf]; omega
        · obtain rfl : N = k := by omega
          go_wp2_with fail
          go_ret
          refine ⟨by rw [Int.toNat_natCast]; rfl, ?_⟩
          exact ((Below.refl _ _).alloc (Nat.le_refl _) _).trans (b2.mono (by simp))
end Go.Proofs.Ytpahkbajeniajaa
