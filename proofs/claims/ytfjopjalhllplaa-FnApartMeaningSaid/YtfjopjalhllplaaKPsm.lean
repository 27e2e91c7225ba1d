/- Plain law: the reference's simulation, as a function on amplitudes. -/
import Derived.Test.YtfjopjalhllplaaKMsf
import Derived.Test.YtfjopjalhllplaaK17
import Derived.Test.YtfjopjalhllplaaK16
import Derived.Test.YtfjopjalhllplaaK9
namespace Go.Proofs.Ytfjopjalhllplaa
open Go.RowKit
set_option maxRecDepth 100000
set_option linter.unusedVariables false
set_option linter.unusedSimpArgs false
abbrev OP := Int × Int × Int × Int × Int × Int × Int × Int
def oG (o : OP) : GQ := (o.2.1, o.2.2.1, o.2.2.2.1, o.2.2.2.2.1)
def oQ (o : OP) : Int := o.2.2.2.2.2.1
def oB (o : OP) : Int := o.2.2.2.2.2.2.1
def oI (o : OP) : Int := o.2.2.2.2.2.2.2
def gvB (n : Int) (g : GQ) : Bool := ivg g.1 g.2.1 g.2.2.1 g.2.2.2 n
def g0B (g : GQ) : Bool := g.1 == 0 && (g.2.1 == 0 && (g.2.2.1 == 0 && g.2.2.2 == 0))
/-- A valid operation. -/
def ovB (n bits : Int) (o : OP) : Bool := decide (1 ≤ n ∧ n ≤ 4) && (decide (0 ≤ bits ∧ bits ≤ 3) &&
  (if o.1 = 1 then (oQ o == 0 && oB o == 0) && (gvB n (oG o) && decide (0 ≤ oI o ∧ oI o ≤ bits))
   else if o.1 = 2 then (g0B (oG o) && oI o == 0) && (decide (0 ≤ oQ o ∧ oQ o ≤ n - 1) && decide (0 ≤ oB o ∧ oB o ≤ bits - 1))
   else if o.1 = 3 then (g0B (oG o) && (oB o == 0 && oI o == 0)) && decide (0 ≤ oQ o ∧ oQ o ≤ n - 1) else false))
theorem s_ov (n bits : Int) (o : OP) : s_IsValidOp o.1 o.2.1 o.2.2.1 o.2.2.2.1 o.2.2.2.2.1 o.2.2.2.2.2.1 o.2.2.2.2.2.2.1 o.2.2.2.2.2.2.2 n bits = some (ovB n bits o) := by
 obtain ⟨kd, k, a, b, c, q, bt, i⟩ := o
 unfold s_IsValidOp ovB oG oQ oB oI gvB g0B
 rw [s_in_eq, bO_some]
 by_cases hn : 1 ≤ n ∧ n ≤ 4
 ·rw [decide_eq_true hn, Bool.not_true, br_false, s_in_eq, bO_some, bO_some, Bool.true_and]
  by_cases hb : 0 ≤ bits ∧ bits ≤ 3
  ·rw [decide_eq_true hb, Bool.not_true, Bool.true_and]
   unfold s_IsValidOp_j1
   rw [br_false]
   have w1 : IntKind.wrap .i64 (n - 1) = n - 1 := w64 (by omega) (by omega)
   have w2 : IntKind.wrap .i64 (bits - 1) = bits - 1 := w64 (by omega) (by omega)
   simp only [s_ivg, s_in_eq, bO_some, beq_self_eq_true, Bool.true_and, Bool.and_true, w1, w2]
   by_cases h1 : kd = 1
   ·subst h1
    rw [if_pos rfl, show ((1 : Int) == 1) = true from rfl, br_true]
    cases (q == 0 && bt == 0) <;> cases ivg k a b c n <;> rfl
   ·rw [if_neg h1, beq_eq_false_iff_ne.2 h1, br_false]
    by_cases h2 : kd = 2
    ·subst h2
     rw [if_pos rfl, show ((2 : Int) == 2) = true from rfl, br_true]
     cases k == 0 <;> cases a == 0 <;> cases b == 0 <;> cases c == 0 <;> cases i == 0 <;> cases decide (0 ≤ q ∧ q ≤ n - 1) <;> rfl
    ·rw [if_neg h2, beq_eq_false_iff_ne.2 h2, br_false]
     by_cases h3 : kd = 3
     ·subst h3
      rw [if_pos rfl, show ((3 : Int) == 3) = true from rfl, br_true]
      cases k == 0 <;> cases a == 0 <;> cases b == 0 <;> cases c == 0 <;> cases bt == 0 <;> cases i == 0 <;> rfl
     ·rw [if_neg h3, beq_eq_false_iff_ne.2 h3, br_false]
  ·rw [decide_eq_false hb, Bool.not_false, Bool.false_and]
   rfl
 ·rw [decide_eq_false hn, Bool.not_false, br_true, bO_some, Bool.false_and]
  rfl
/-- The operations of a valid routine, with so many bits known ahead of them. -/
def rvL (n bits : Int) : List OP → Nat → Bool
 | [], kn => (kn : Int) == bits
 | o :: L, kn => (ovB n bits o && decide (oI o ≤ (kn : Int))) && ((o.1 != 2 || oB o == (kn : Int)) && rvL n bits L (if o.1 = 2 then kn + 1 else kn))
def rvB (n inn bits : Int) (L : List OP) : Bool := (decide (1 ≤ n ∧ n ≤ 4) && decide (1 ≤ inn ∧ inn ≤ n)) && ((decide (0 ≤ bits ∧ bits ≤ 3) && decide ((L.length : Int) ≤ 120)) && rvL n bits L 0)
theorem s_rvL {n bits : Int} {L : List OP} (hL : L.length ≤ 4000000) : ∀ (m i kn : Nat), i ≤ L.length → L.length - i < m → kn ≤ i → s_IsValidRoutine_l1 n bits L m (kn : Int) (i : Int) = some (rvL n bits (L.drop i) kn) := by
 intro m
 induction m with
 | zero => intro i kn _ h; omega
 | succ m ih =>
  intro i kn hi hm hk
  rw [s_IsValidRoutine_l1]
  by_cases e : i = L.length
  ·rw [decide_eq_false (by omega), br_false, List.drop_of_length_le (by omega)]
   rfl
  ·have hil : i < L.length := by omega
   rw [decide_eq_true (by omega), br_true, geti_lt hil, bO_some, s_ov, bO_some, List.drop_eq_getElem_cons hil]
   have ih1 := ih (i + 1) (kn + 1) (by omega) (by omega) (by omega)
   have ih2 := ih (i + 1) kn (by omega) (by omega) (by omega)
   have wk : IntKind.wrap .i64 ((kn : Int) + 1) = ((kn + 1 : Nat) : Int) := by rw [w64 (by omega) (by omega)]; omega
   have wi : IntKind.wrap .i64 ((i : Int) + 1) = ((i + 1 : Nat) : Int) := by rw [w64 (by omega) (by omega)]; omega
   unfold rvL
   generalize L[i] = o
   show bO (br (!(ovB n bits o)) (some true) (some (decide ((kn : Int) < oI o)))) _ = _
   cases hov : ovB n bits o with
   | false => rfl
   | true =>
    rw [Bool.not_true, br_false, bO_some, Bool.true_and]
    by_cases h1 : (kn : Int) < oI o
    ·rw [decide_eq_true h1, decide_eq_false (by omega)]
     rfl
    ·rw [decide_eq_false h1, decide_eq_true (by omega), br_false, Bool.true_and]
     by_cases h2 : o.1 = 2
     ·rw [show (o.1 == 2) = true by rw [h2]; rfl, br_true, bO_some, bO_some, show (o.1 != 2) = false by rw [h2]; rfl, Bool.false_or, if_pos h2]
      show s_IsValidRoutine_j8 (kn : Int) (i : Int) (s_IsValidRoutine_l1 n bits L m) o (oB o != (kn : Int)) = _
      unfold s_IsValidRoutine_j8
      by_cases h3 : oB o = (kn : Int)
      ·rw [h3, bne_self_eq_false, br_false, beq_self_eq_true, Bool.true_and, show (o.1 == 2) = true by rw [h2]; rfl, br_true]
       unfold s_IsValidRoutine_j7
       rw [wk, wi, ih1]
      ·rw [bne_iff_ne.2 h3, br_true, beq_eq_false_iff_ne.2 h3]
       rfl
     ·rw [beq_eq_false_iff_ne.2 h2, br_false, bO_some, bO_some, bne_iff_ne.2 h2, Bool.true_or, Bool.true_and, if_neg h2]
      unfold s_IsValidRoutine_j8
      rw [br_false, beq_eq_false_iff_ne.2 h2, br_false]
      unfold s_IsValidRoutine_j7
      rw [wi, ih2]
theorem s_rv {n inn bits : Int} {L : List OP} (hL : L.length ≤ 4000000) : s_IsValidRoutine n inn bits L = some (rvB n inn bits L) := by
 unfold s_IsValidRoutine rvB
 have h := s_rvL (n := n) (bits := bits) hL FU 0 0 (by omega) (by rw [FU_eq]; omega) (by omega)
 rw [List.drop_zero] at h
 rw [s_in_eq, bO_some, s_in_eq, bO_some]
 cases decide (1 ≤ n ∧ n ≤ 4) with
 | false => rfl
 | true =>
  rw [Bool.not_true, br_false, bO_some]
  cases decide (1 ≤ inn ∧ inn ≤ n) with
  | false => rfl
  | true =>
   rw [Bool.not_true, br_false, s_in_eq, bO_some, bO_some]
   cases decide (0 ≤ bits ∧ bits ≤ 3) with
   | false => rfl
   | true =>
    rw [Bool.not_true, br_false, bO_some]
    unfold s_IsValidRoutine_j1
    by_cases h5 : (120 : Int) < (L.length : Int)
    ·rw [decide_eq_true h5, br_true, decide_eq_false (by omega)]; rfl
    ·rw [decide_eq_false h5, br_false, decide_eq_true (by omega), Bool.true_and, Bool.true_and, Bool.true_and]
     exact h
/-- A branch: its bits, the common exponent, and a state for each input. -/
abbrev BQ := Int × Nat × (Nat → Amp)
def brC (n inn : Nat) (B : BQ) : Int × List (List DQ) := (B.1, (List.range (2 ^ inn)).map fun i => vc (2 ^ n) B.2.1 (B.2.2 i))
/-- Is a bit of a branch 0 on which an operation hangs? -/
def cnd (bits i : Int) : Bool := decide (0 < i) && bits.toNat / 2 ^ (i - 1).toNat % 2 == 0
def gtF (o : OP) (B : BQ) : BQ := if cnd B.1 (oI o) = true then B else (B.1, B.2.1 + kq (oG o).1, fun i => gz (oG o) (B.2.2 i))
/-- The amplitudes where a qubit is 0 or 1. -/
def prA (q : Nat) (one : Bool) (f : Amp) : Amp := fun r => if r.testBit q = one then f r else (0, 0, 0, 0)
def nzB (D : Nat) (f : Amp) : Bool := (List.range D).any fun r => !decide (f r = (0, 0, 0, 0))
def msB (n inn : Nat) (q : Nat) (one : Bool) (F : Nat → Amp) : Bool := (List.range (2 ^ inn)).any fun i => nzB (2 ^ n) (prA q one (F i))
def msF (n inn : Nat) (q : Nat) (bit : Nat) (B : BQ) : List BQ :=
 (if msB n inn q false B.2.2 = true then [(B.1, B.2.1, fun i => prA q false (B.2.2 i))] else []) ++ (if msB n inn q true B.2.2 = true then [(B.1 + 2 ^ bit, B.2.1, fun i => prA q true (B.2.2 i))] else [])
def opF (n inn : Nat) (o : OP) (B : BQ) : List BQ := if o.1 = 1 then [gtF o B] else if o.1 = 2 then msF n inn (oQ o).toNat (oB o).toNat B else [B]
def simF (n inn : Nat) (L : List OP) (l : List BQ) : List BQ := L.foldl (fun l o => l.flatMap (opF n inn o)) l
def in0 : BQ := (0, 0, fun i => dl i)
theorem bitq_fin : ∀ x : Fin 16, ∀ v : Fin 4, (bits .and .i64 (Int.fdiv (x.val : Int) (2 ^ min (Int.toNat (IntKind.wrap .u64 (v.val : Int))) (IntKind.bits .i64))) 1 == 1) = (x.val.testBit v.val == true) ∧ (bits .and .i64 (Int.fdiv (x.val : Int) (2 ^ min (Int.toNat (IntKind.wrap .u64 (v.val : Int))) (IntKind.bits .i64))) 1 == 0) = (x.val.testBit v.val == false) := by decide +kernel
theorem cnd_fin : ∀ x : Fin 16, ∀ i : Fin 4, br (decide ((0 : Int) < (i.val : Int))) (gd (decide (¬ (IntKind.wrap .u64 (IntKind.wrap .i64 ((i.val : Int) - 1))) < 0)) (some ((bits .and .i64 (Int.fdiv (x.val : Int) (2 ^ min (Int.toNat (IntKind.wrap .u64 (IntKind.wrap .i64 ((i.val : Int) - 1)))) (IntKind.bits .i64))) 1) == 0))) (some false) = some (cnd (x.val : Int) (i.val : Int)) := by decide +kernel
theorem pw_fin : ∀ v : Fin 2, ∀ b : Fin 3, ∀ x : Fin 8, IntKind.wrap .i64 ((x.val : Int) + (IntKind.wrap .i64 ((v.val : Int) * 2 ^ min (Int.toNat (IntKind.wrap .u64 (b.val : Int))) (IntKind.bits .i64)))) = (x.val : Int) + (if v.val = 1 then 2 ^ b.val else 0) := by decide +kernel
theorem p16 {n : Nat} (h : n ≤ 4) : 2 ^ n ≤ 16 := by
 have : n = 0 ∨ n = 1 ∨ n = 2 ∨ n = 3 ∨ n = 4 := by omega
 rcases this with rfl | rfl | rfl | rfl | rfl <;> decide
theorem p8 {n : Nat} (h : n ≤ 3) : 2 ^ n ≤ 8 := by
 have : n = 0 ∨ n = 1 ∨ n = 2 ∨ n = 3 := by omega
 rcases this with rfl | rfl | rfl | rfl <;> decide
theorem range_snoc {α : Type} (f : Nat → α) (k : Nat) : (List.range (k + 1)).map f = (List.range k).map f ++ [f k] := by rw [List.range_succ, List.map_append]; rfl
theorem cell_get {α : Type} {D : Nat} (f : Nat → α) {k : Nat} (h : k < D) : geti ((List.range D).map f) (k : Int) = some (f k) := geti_nat (by rw [List.getElem?_map, List.getElem?_range h]; rfl)
section
variable {n inn : Nat}
/-- The branch at the start. -/
theorem s_init (hn : 1 ≤ n ∧ n ≤ 4) (hin : 1 ≤ inn ∧ inn ≤ n) : s_InitialBranch (n : Int) (inn : Int) = some (brC n inn in0) := by
 unfold s_InitialBranch
 rw [s_in_eq, bO_some, decide_eq_true (by omega), Bool.not_true, br_false, s_in_eq, bO_some, bO_some, decide_eq_true (by omega), Bool.not_true]
 unfold s_InitialBranch_j1
 rw [br_false]
 have hu : IntKind.wrap .u64 (inn : Int) = (inn : Int) := IntWalk.u64_in _ (by omega)
 have hs : IntKind.wrap .i64 (1 * 2 ^ min (Int.toNat (inn : Int)) (IntKind.bits .i64)) = ((2 ^ inn : Nat) : Int) := by
  have : inn = 1 ∨ inn = 2 ∨ inn = 3 ∨ inn = 4 := by omega
  rcases this with rfl | rfl | rfl | rfl <;> decide
 have hng : decide (¬ (inn : Int) < 0) = true := decide_eq_true (by omega)
 have h16 := p16 (n := inn) (by omega)
 have hle : 2 ^ inn ≤ 2 ^ n := Nat.pow_le_pow_right (by omega) hin.2
 have key : ∀ (m i : Nat), i ≤ 2 ^ inn → 2 ^ inn - i < m → s_InitialBranch_l1 (n : Int) (inn : Int) m (i : Int) ((List.range i).map fun j => vc (2 ^ n) 0 (dl j)) = some (brC n inn in0) := by
  intro m
  induction m with
  | zero => intro i _ h; omega
  | succ m ih =>
   intro i hi hm
   rw [s_InitialBranch_l1]
   simp only [hu, hs, hng, gd_true]
   by_cases e : i = 2 ^ inn
   ·rw [decide_eq_false (by rw [e]; exact Int.lt_irrefl _), br_false, e]
    rfl
   ·have hil : i < 2 ^ inn := by omega
    have hd : decide ((i : Int) < ((2 ^ inn : Nat) : Int)) = true := (fun x h => decide_eq_true (by omega) : ∀ x : Nat, i < x → decide ((i : Int) < (x : Int)) = true) _ hil
    have hb := s_bs (n := (n : Int)) (by omega) (i := i) (by rw [Int.toNat_natCast]; omega)
    rw [Int.toNat_natCast] at hb
    rw [hd, br_true, hb, bO_some, decide_eq_true (by simp; omega), gd_true, w64s hil (by omega)]
    have := ih (i + 1) (by omega) (by omega)
    rw [range_snoc] at this
    exact this
 exact key FU 0 (Nat.zero_le _) (by rw [FU_eq]; omega)
/-- One side of a state. -/
theorem s_side (hn : 1 ≤ n ∧ n ≤ 4) {K : Nat} {f : Amp} {q : Nat} (hq : q < 4) (one : Fin 2) (hK : K ≤ 60) : s_l23Side (vc (2 ^ n) K f) (q : Int) (one.val : Int) = some (vc (2 ^ n) K (prA q (one.val == 1) f), nzB (2 ^ n) (prA q (one.val == 1) f)) := by
 have h16 := p16 (n := n) (by omega)
 unfold s_l23Side
 rw [vc_len, (fun x hx => decide_eq_true (by omega) : ∀ x : Nat, x ≤ 16 → decide (0 ≤ (x : Int) ∧ (x : Int) ≤ 1048576) = true) _ h16, gd_true]
 have hng : decide (¬ IntKind.wrap .u64 (q : Int) < 0) = true := by rw [IntWalk.u64_in _ (by omega)]; exact decide_eq_true (by omega)
 let g : Nat → Amp := fun i r => if r < i then prA q (one.val == 1) f r else (0, 0, 0, 0)
 have key : ∀ (m i : Nat), i ≤ 2 ^ n → 2 ^ n - i < m → s_l23Side_l1 (vc (2 ^ n) K f) (q : Int) (one.val : Int) m (nzB i (prA q (one.val == 1) f)) (i : Int) (vc (2 ^ n) K (g i)) = some (vc (2 ^ n) K (prA q (one.val == 1) f), nzB (2 ^ n) (prA q (one.val == 1) f)) := by
  intro m
  induction m with
  | zero => intro i _ h; omega
  | succ m ih =>
   intro i hi hm
   rw [s_l23Side_l1, vc_len]
   by_cases e : i = 2 ^ n
   ·rw [decide_eq_false (by rw [e]; exact Int.lt_irrefl _), br_false, e]
    unfold s_l23Side_j1
    congr 2
    exact vc_congr fun r hr => if_pos hr
   ·have hil : i < 2 ^ n := by omega
    have hd : decide ((i : Int) < ((2 ^ n : Nat) : Int)) = true := (fun x h => decide_eq_true (by omega) : ∀ x : Nat, i < x → decide ((i : Int) < (x : Int)) = true) _ hil
    have hnz : nzB (i + 1) (prA q (one.val == 1) f) = (nzB i (prA q (one.val == 1) f) || !decide (prA q (one.val == 1) f i = (0, 0, 0, 0))) := by
     unfold nzB; rw [List.range_succ, List.any_append]; simp
    have hg1 : ∀ r, g (i + 1) r = if r = i then prA q (one.val == 1) f i else g i r := fun r => by
     show (if r < i + 1 then _ else _) = _
     by_cases h1 : r = i
     ·subst h1; rw [if_pos (by omega), if_pos rfl]
     ·rw [if_neg h1]
      show _ = if r < i then _ else _
      by_cases h2 : r < i
      ·rw [if_pos h2, if_pos (by omega)]
      ·rw [if_neg h2, if_neg (by omega)]
    have ih' := ih (i + 1) (by omega) (by omega)
    obtain ⟨b1, b0⟩ := bitq_fin ⟨i, by omega⟩ ⟨q, hq⟩
    simp only at b1 b0
    have hbit : (bits .and .i64 (Int.fdiv (i : Int) (2 ^ min (Int.toNat (IntKind.wrap .u64 (q : Int))) (IntKind.bits .i64))) 1 == (one.val : Int)) = (i.testBit q == (one.val == 1)) := by
     obtain ⟨o, ho⟩ := one
     have : o = 0 ∨ o = 1 := by omega
     rcases this with rfl | rfl
     ·exact b0
     ·exact b1
    rw [hd, br_true, hng, gd_true, hbit]
    unfold s_l23Side_j4
    by_cases ht : (i.testBit q == (one.val == 1)) = true
    ·have hp : prA q (one.val == 1) f i = f i := by unfold prA; rw [if_pos (eq_of_beq ht)]
     rw [ht, br_true, vc_geti hil, bO_some, vc_geti hil, bO_some, d0_eq]
     have hz : decide (dq K (f i) = d0) = decide (f i = (0, 0, 0, 0)) := decide_eq_decide.2 dq_zero
     rw [hz, Int.toNat_natCast]
     show bO (br (nzB i _) (some true) (some (!decide (f i = (0, 0, 0, 0))))) (fun x2 => s_l23Side_l1 _ _ _ m x2 _ ((vc (2 ^ n) K (g i)).set i (dq K (f i)))) = _
     rw [vc_set hil, w64s hil (by omega)]
     have e1 : vc (2 ^ n) K (fun r => if r = i then f i else g i r) = vc (2 ^ n) K (g (i + 1)) := vc_congr fun r _ => by rw [hg1 r, hp]
     rw [e1]
     rw [hnz, hp] at ih'
     generalize nzB i (prA q (one.val == 1) f) = z at ih' ⊢
     cases z <;> exact ih'
    ·have ht := Bool.eq_false_iff.2 ht
     have hp : prA q (one.val == 1) f i = (0, 0, 0, 0) := by unfold prA; rw [if_neg (by intro h; rw [h, beq_self_eq_true] at ht; cases ht)]
     rw [ht, br_false, w64s hil (by omega)]
     rw [hnz, hp, decide_eq_true rfl, Bool.not_true, Bool.or_false] at ih'
     have e1 : vc (2 ^ n) K (g (i + 1)) = vc (2 ^ n) K (g i) := vc_congr fun r _ => by
      rw [hg1 r]
      split
      ·rename_i h; subst h; rw [hp]; exact (if_neg (Nat.lt_irrefl _)).symm
      ·rfl
     rw [e1] at ih'
     exact ih'
 have e0 : List.replicate (Int.toNat ((2 ^ n : Nat) : Int)) ((0, 0, 0, 0, 0) : Int × Int × Int × Int × Int) = vc (2 ^ n) K (g 0) := by
  rw [Int.toNat_natCast]
  unfold vc
  refine List.ext_getElem? fun i => ?_
  by_cases h : i < 2 ^ n
  ·rw [List.getElem?_replicate, if_pos h, List.getElem?_map, List.getElem?_range h]
   show some d0 = some (dq K (if i < 0 then _ else (0, 0, 0, 0)))
   rw [if_neg (by omega), dq_0]
  ·rw [List.getElem?_eq_none (by simp; omega), List.getElem?_eq_none (by simp; omega)]
 rw [e0]
 exact key FU 0 (Nat.zero_le _) (by rw [FU_eq]; omega)
end
end Go.Proofs.Ytfjopjalhllplaa
