/- Joined texts: Pop Bits Wa Ig. -/
import Derived.Test.YtfjopjalhllplaaGreatKGv
import Derived.WalkKit
import Derived.Test.YtfjopjalhllplaaGreatProg
import Derived.Deep.QuietTactic
import Derived.BigQuiet
import Derived.Lib.Hide
import Derived.Handy
import Derived.Maps.OwnOps
import Derived.Maps.OwnIn
import Derived.Maps.Views
/- Counting bits: the parallel sum that math/bits uses gives the number of set bits of every 64-bit number. Plain arithmetic, no program. -/
namespace Go.Proofs.YtfjopjalhllplaaGreat
namespace Pop

def val : List Nat → Nat
 | [] => 0
 | b :: l => b + 256 * val l
def s1 (b : Nat) : Nat := ((b / 2) &&& 85) + (b &&& 85)
def s2 (b : Nat) : Nat := ((b / 4) &&& 51) + (b &&& 51)
def s3 (b : Nat) : Nat := (b / 16 + b) &&& 15

def M0 : Nat := 6148914691236517205
def M1 : Nat := 3689348814741910323
def M2 : Nat := 1085102592571150095
def t1 (x : Nat) : Nat := ((x / 2) &&& M0) + (x &&& M0)
def t2 (x : Nat) : Nat := ((x / 4) &&& M1) + (x &&& M1)
def t3 (x : Nat) : Nat := (x / 16 + x) &&& M2
def t4 (x : Nat) : Nat := x + x / 256
def t5 (x : Nat) : Nat := x + x / 65536
def t6 (x : Nat) : Nat := x + x / 4294967296

end Pop
end Go.Proofs.YtfjopjalhllplaaGreat
/- Bit operations of the model on int and uint64, said in plain numbers; the number of set bits of an int. -/
namespace Go.Proofs.YtfjopjalhllplaaGreat
open Pop Go.RowKit

end Go.Proofs.YtfjopjalhllplaaGreat
/- Contracts: range tests, bit counts, validity of Paulis. -/
namespace Go.Proofs.YtfjopjalhllplaaGreat
open Go.RowKit Pop
set_option maxRecDepth 100000
set_option linter.unusedVariables false
set_option linter.unusedSimpArgs false

theorem ret_int {k : IntKind} {a b : Int} (h : a = b) : Ending.returned (.int k a) = .returned (.int k b) := by rw [h]
theorem ret_bool {a b : Bool} (h : a = b) : Ending.returned (.bool a) = .returned (.bool b) := by rw [h]

theorem below_drewN {B : Nat} {a w : World} (h : Below B a w) (n : Nat) : Below B a (w.drewN n) := ⟨h.os, h.tape, h.output, h.size, h.block⟩

def inB (n lo hi : Int) : Bool := decide (lo ≤ n) && decide (n ≤ hi)
theorem inB_true {n lo hi : Int} : inB n lo hi = true ↔ lo ≤ n ∧ n ≤ hi := by simp [inB]
theorem in_any (n lo hi : Int) (w : World) :
  Calls Tryz.prog 75 #[.int .i64 n, .int .i64 lo, .int .i64 hi] w fun e w' => e = .returned (.bool (inB n lo hi)) ∧ w' = w := by
 go_enter Tryz.func75, Tryz.ntmps75
 go_wp2
 all_goals
  go_ret
  exact ⟨by simp [inB]; omega, rfl⟩

end Go.Proofs.YtfjopjalhllplaaGreat
/- impl.IsValidGate: a walk (it keeps a map of its own). -/
namespace Go.Proofs.YtfjopjalhllplaaGreat
open Go.RowKit Pop
set_option maxRecDepth 100000
set_option linter.unusedVariables false
set_option linter.unusedSimpArgs false
open Go.Maps
theorem arity_any (k : Int) (w : World) :
  Calls Tryz.prog 39 #[.int .i64 k] w fun e w' => e = .returned (.int .i64 (arity k)) ∧ w' = w := by
 have inn := in_any
 go_enter Tryz.func39, Tryz.ntmps39
 go_wp2
 all_goals
  go_ret
  refine ⟨ret_int ?_, rfl⟩
  try simp only [beq_iff_eq, beq_eq_false_iff_ne, ne_eq] at *
  unfold arity
  repeat' split
  all_goals omega
/-- The datum of the map behind the numbers seen. -/
def Dm : List Int → DataW Unit
 | [] => .map []
 | q :: r => (Dm r).put (.int .i64 q) (.lit (.bool true))
theorem Dm_map : ∀ l, IsMap (Dm l)
 | [] => isMap_empty
 | q :: r => (Dm_map r).put _ _
theorem Dm_at (q : Int) : ∀ l : List Int, (Dm l).atKey (.int .i64 q) (.lit (.bool false)) = .lit (.bool (l.contains q))
 | [] => rfl
 | x :: r => by
  by_cases e : q = x
  ·subst e
   rw [Dm, atKey_put_same (Dm_map r) (by trivial)]
   simp
  ·rw [Dm, atKey_put_other (by intro h; injection h with _ h; exact e h), Dm_at q r]
   have : (q == x) = false := by simpa using e
   rw [List.contains_cons, this, Bool.false_or]
theorem plainElem_bool_inv {H : Type} {P : Program} {e : TypeId} (he : P.underlying e = some .bool) {v : Value} {z : DataW H × List MemPlace} (h : plainElem P e v = some z) : ∃ x, v = .bool x ∧ z = (.lit (.bool x), []) := by
 unfold plainElem at h
 rw [he] at h
 cases v <;> simp at h
 exact ⟨_, rfl, h.symm⟩
theorem lookup_bool {P : Program} {k e t : TypeId} {w : World} {b n : Nat} {l : List Int} (h : w.ownsMap P k (plainElem P e) b n (Dm l)) (hk : P.underlying k = some (.int .i64)) (ht : P.underlying t = some (.map k e)) (he : P.underlying e = some .bool)
  (hz : (zeroValue e).run P w = .ok (.bool false) w) {q : Int} (hq : (Lit.int .i64 q).wf = true) : (Instr.lookup t (.map (some b)) (.int .i64 q) false).run P w = .ok (.bool (l.contains q)) w := by
 obtain ⟨v, ps, hrun, hv⟩ := h.lookup (int_keyed hk) ht hz (plainElem_bool he false) (keyOf_int_mk hk hq)
 obtain ⟨x, rfl, hx⟩ := plainElem_bool_inv he hv
 rw [Dm_at] at hx
 injection hx with h1 h2
 injection h1 with h1
 injection h1 with h1
 rw [hrun, h1]
theorem update_bool {P : Program} {k e t : TypeId} {w : World} {b n : Nat} {l : List Int} (h : w.ownsMap P k (plainElem P e) b n (Dm l)) (hk : P.underlying k = some (.int .i64)) (ht : P.underlying t = some (.map k e)) (he : P.underlying e = some .bool)
  (hn : n < maxLen) {q : Int} (hq : (Lit.int .i64 q).wf = true) : ∃ w', (Instr.mapUpdate t (.map (some b)) (.int .i64 q) (.bool true)).run P w = .ok () w' ∧ w'.ownsMap P k (plainElem P e) b (n + 1) (Dm (q :: l)) ∧ w.grownBy w' (some b) :=
 h.update (int_keyed hk) ht hn (keyOf_int_mk hk hq) (plainElem_bool he true)
theorem zero4 (w : World) : (zeroValue 4).run Tryz.prog w = .ok (.bool false) w := by kernel_rfl
set_option maxHeartbeats 1000000 in
theorem ivg_any (k a b c n : Int) (w : World) :
  Calls Tryz.prog 35 #[.agg #[.int .i64 k, .int .i64 a, .int .i64 b, .int .i64 c], .int .i64 n] w fun e w' => e = .returned (.bool (ivg k a b c n)) ∧ Below w.heap.size w w' := by
 have hmm := @run_makeMap Tryz.prog
 go_enter Tryz.func35, Tryz.ntmps35
 go_wp2_with (first | (go_at_call 75; refine (in_any _ _ _ _).mono ?_; rintro e w' ⟨rfl, hw'⟩; rw [hw']; clear hw' w') | (go_at_call 39; refine (arity_any _ _).mono ?_; rintro e w' ⟨rfl, hw'⟩; rw [hw']; clear hw' w'))
 ·go_ret
  rename_i h1 h2
  refine ⟨ret_bool ?_, ?_⟩
  ·unfold ivg; rw [h2]; simp
  ·repeat' (first | (with_reducible exact Below.refl _ _) | (with_reducible refine below_drewN ?_ _) | (with_reducible refine Below.drew ?_) | (with_reducible refine Below.alloc ?_ ?_ _) | (with_reducible refine Below.setCell ?_ ?_ _) | (with_reducible refine Below.trans ?_ (Below.mono (by with_reducible assumption) ?_)) | go_size | (with_reducible refine Nat.le_trans ?_ (Below.size (by with_reducible assumption))))
 ·rename_i h1 h2 K0 hK0
  have hn' := inB_true.1 h1
  have e0 : ivg k a b c n = okQ (arity k) n 0 [a, b, c] [] := by
   unfold ivg; rw [h2, decide_eq_true hn']; rfl
  clear h2
  go_loopw [28] (fun i wr => ∃ (j : Nat) (rest seen : List Int), j + rest.length = 3 ∧ i = .int .i64 j ∧ [a, b, c].drop j = rest ∧ ivg k a b c n = okQ (arity k) n j rest seen ∧
      wr.ownsMap Tryz.prog 3 (plainElem Tryz.prog 4) (w.heap.size + 1 + 1) j (Dm seen) ∧ Below w.heap.size w wr ∧ w.heap.size + 1 + 1 + 1 ≤ wr.heap.size ∧
      wr.heap[w.heap.size]? = some (.cells #[.int .i64 k, .int .i64 a, .int .i64 b, .int .i64 c] 48) ∧ wr.heap[w.heap.size + 1]? = some (.cells #[.int .i64 a, .int .i64 b, .int .i64 c] 3)) (fun i _ => 3 - (intOf i).toNat)
  case atStart =>
   refine ⟨0, [a, b, c], [], rfl, rfl, rfl, e0, ?_, ?_, ?_, ?_, ?_⟩
   ·have hm0 := World.ownsMap_made (H := Unit) ((w.alloc (.cells #[.int .i64 k, .int .i64 a, .int .i64 b, .int .i64 c] 48)).alloc (.cells #[.int .i64 a, .int .i64 b, .int .i64 c] 3)) Tryz.prog 3 (plainElem Tryz.prog 4)
    simp only [World.size_alloc] at hm0
    exact hm0
   ·repeat' (first | (with_reducible exact Below.refl _ _) | (with_reducible refine below_drewN ?_ _) | (with_reducible refine Below.drew ?_) | (with_reducible refine Below.alloc ?_ ?_ _) | (with_reducible refine Below.setCell ?_ ?_ _) | (with_reducible refine Below.trans ?_ (Below.mono (by with_reducible assumption) ?_)) | go_size | (with_reducible refine Nat.le_trans ?_ (Below.size (by with_reducible assumption))))
   ·simp
   ·exact (Below.heap_alloc _ _ _ (by simp; omega)).trans ((Below.heap_alloc _ _ _ (by simp)).trans (heap_alloc_new _ _))
   ·exact (Below.heap_alloc _ _ _ (by simp)).trans (by have := heap_alloc_new (w.alloc (.cells #[.int .i64 k, .int .i64 a, .int .i64 b, .int .i64 c] 48)) (.cells #[.int .i64 a, .int .i64 b, .int .i64 c] 3); simp only [World.size_alloc] at this; exact this)
  case round =>
   obtain ⟨j, rest, seen, hj, rfl, hd, hok, hown, hbel, hsz, hb0, hb1⟩ := hrel
   match rest, hj, hd, hok with
   | [], hj, hd, hok =>
    have hj3 : j = 3 := by simpa using hj
    subst hj3
    go_wp2
    go_ret
    refine ⟨ret_bool ?_, hbel⟩
    rw [hok]; rfl
   | q :: r, hj, hd, hok =>
    have hj3 : j < 3 := by simp at hj; omega
    have hk0 : wr.cell? ⟨w.heap.size, 0, none⟩ = some (.int .i64 k) := cell_of_row wr _ 0 _ 48 (0, 0) hb0
    have hkj : wr.cell? ⟨w.heap.size + 1, j, none⟩ = some (.int .i64 q) := by
     have : j = 0 ∨ j = 1 ∨ j = 2 := by omega
     rcases this with rfl | rfl | rfl <;> (simp at hd; rw [← hd.1]; first | exact cell_of_row wr _ 0 _ 3 (0, 0) hb1 | exact cell_of_row wr _ 1 _ 3 (0, 0) hb1 | exact cell_of_row wr _ 2 _ 3 (0, 0) hb1)
    by_cases hi : arity k ≤ j
    ·by_cases hq : q = 0
     ·subst hq
      go_wp2_with (first | (go_at_call 75; refine (in_any _ _ _ _).mono ?_; rintro e w' ⟨rfl, hw'⟩; rw [hw']; clear hw' w') | (go_at_call 39; refine (arity_any _ _).mono ?_; rintro e w' ⟨rfl, hw'⟩; rw [hw']; clear hw' w'))
      refine ⟨⟨j + 1, r, seen, by simp at hj; omega, by go_num, by rw [← List.tail_drop, hd]; rfl, hok.trans (by simp only [okQ, if_pos hi]; simp), hown.mono (Nat.le_succ _), hbel, hsz, hb0, hb1⟩, ?_⟩
      simp [intOf]; omega
     ·go_wp2_with (first | (go_at_call 75; refine (in_any _ _ _ _).mono ?_; rintro e w' ⟨rfl, hw'⟩; rw [hw']; clear hw' w') | (go_at_call 39; refine (arity_any _ _).mono ?_; rintro e w' ⟨rfl, hw'⟩; rw [hw']; clear hw' w'))
      go_ret
      exact ⟨ret_bool (by rw [hok]; simp only [okQ, if_pos hi]; simp [hq]), hbel⟩
    ·by_cases hin : 0 ≤ q ∧ q ≤ n - 1
     ·have hB : inB q 0 (n - 1) = true := inB_true.2 hin
      have hwf : (Lit.int .i64 q).wf = true := by (have h1 : -9223372036854775808 ≤ q ∧ q ≤ 9223372036854775807 := by omega); (have h2 : IntKind.i64.min = -9223372036854775808 ∧ IntKind.i64.max = 9223372036854775807 := ⟨rfl, rfl⟩); simp only [Lit.wf, h2.1, h2.2, h1, decide_true, Bool.and_self]
      have hlk := lookup_bool (t := 112) hown Tryz.underlying3 Tryz.underlying112 Tryz.underlying4 (zero4 _) hwf
      cases hc : seen.contains q with
      | true =>
       rw [hc] at hlk
       go_wp2_with (first | (go_at_call 75; refine (in_any _ _ _ _).mono ?_; rintro e w' ⟨rfl, hw'⟩; rw [hw']; clear hw' w') | (go_at_call 39; refine (arity_any _ _).mono ?_; rintro e w' ⟨rfl, hw'⟩; rw [hw']; clear hw' w'))
       go_ret
       exact ⟨ret_bool (by rw [hok]; simp only [okQ, if_neg (show ¬ arity k ≤ (j : Int) by omega), hc]; simp), hbel⟩
      | false =>
       rw [hc] at hlk
       obtain ⟨w2, hup, hown2, hg⟩ := update_bool (t := 112) hown Tryz.underlying3 Tryz.underlying112 Tryz.underlying4 (by unfold maxLen; omega) hwf
       go_wp2_with (first | (go_at_call 75; refine (in_any _ _ _ _).mono ?_; rintro e w' ⟨rfl, hw'⟩; rw [hw']; clear hw' w') | (go_at_call 39; refine (arity_any _ _).mono ?_; rintro e w' ⟨rfl, hw'⟩; rw [hw']; clear hw' w'))
       have hs2 := hg.size
       refine ⟨⟨j + 1, r, q :: seen, by simp at hj; omega, by go_num, by rw [← List.tail_drop, hd]; rfl, hok.trans (by simp only [okQ, if_neg (show ¬ arity k ≤ (j : Int) by omega), hc, decide_eq_true hin]; simp), hown2, hbel.grown hg (by omega) (fun j hj => by cases hj; omega), by omega, (hg.block _ (by omega) (by intro h; injection h; omega)).trans hb0, (hg.block _ (by omega) (by intro h; injection h; omega)).trans hb1⟩, ?_⟩
       simp [intOf]; omega
     ·have hB : inB q 0 (n - 1) = false := by cases h : inB q 0 (n - 1) with | true => exact absurd (inB_true.1 h) hin | false => rfl
      go_wp2_with (first | (go_at_call 75; refine (in_any _ _ _ _).mono ?_; rintro e w' ⟨rfl, hw'⟩; rw [hw']; clear hw' w') | (go_at_call 39; refine (arity_any _ _).mono ?_; rintro e w' ⟨rfl, hw'⟩; rw [hw']; clear hw' w'))
      go_ret
      exact ⟨ret_bool (by rw [hok]; simp only [okQ, if_neg (show ¬ arity k ≤ (j : Int) by omega), decide_eq_false hin, Bool.false_and]), hbel⟩
 ·go_ret
  rename_i h1
  refine ⟨ret_bool ?_, ?_⟩
  ·unfold ivg
   have : decide (1 ≤ n ∧ n ≤ 4) = false := by
    rw [decide_eq_false_iff_not]; intro h; exact h1 (inB_true.2 h)
   rw [this]; rfl
  ·repeat' (first | (with_reducible exact Below.refl _ _) | (with_reducible refine below_drewN ?_ _) | (with_reducible refine Below.drew ?_) | (with_reducible refine Below.alloc ?_ ?_ _) | (with_reducible refine Below.setCell ?_ ?_ _) | (with_reducible refine Below.trans ?_ (Below.mono (by with_reducible assumption) ?_)) | go_size | (with_reducible refine Nat.le_trans ?_ (Below.size (by with_reducible assumption))))
#print axioms ivg_any
end Go.Proofs.YtfjopjalhllplaaGreat
