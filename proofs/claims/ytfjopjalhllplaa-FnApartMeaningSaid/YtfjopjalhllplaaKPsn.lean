/- Plain law: the reference's simulation, as a function on amplitudes: its steps, and the whole. -/
import Derived.Test.YtfjopjalhllplaaKPsm
namespace Go.Proofs.Ytfjopjalhllplaa
open Go.RowKit
set_option maxRecDepth 100000
set_option linter.unusedVariables false
set_option linter.unusedSimpArgs false
/-- What holds of a branch, with so many bits known and so many H gates behind it. -/
def IvB (kn h : Nat) (B : BQ) : Prop := (0 ≤ B.1 ∧ B.1 < 2 ^ kn) ∧ B.2.1 ≤ h ∧ ∀ i, bdv ((2 ^ B.2.1 : Nat) : Int) (B.2.2 i)
section
variable {n inn : Nat}
theorem s_gt (hn : 1 ≤ n ∧ n ≤ 4) (hin : 1 ≤ inn ∧ inn ≤ n) {o : OP} (hv : gvB (n : Int) (oG o) = true) (hI : 0 ≤ oI o ∧ oI o ≤ 3) {kn h : Nat} (hkn : kn ≤ 3) (hh : h ≤ 23) {B : BQ} (hB : IvB kn h B) :
  s_l23Gate (brC n inn B).1 (brC n inn B).2 o.1 o.2.1 o.2.2.1 o.2.2.2.1 o.2.2.2.2.1 o.2.2.2.2.2.1 o.2.2.2.2.2.2.1 o.2.2.2.2.2.2.2 = some ((brC n inn (gtF o B)).1, (brC n inn (gtF o B)).2, true) := by
 obtain ⟨⟨b0, b1⟩, hK, hbd⟩ := hB
 have h8 := p8 hkn
 have b8 : B.1 < 8 := by
  have : ((2 ^ kn : Nat) : Int) ≤ 8 := by exact_mod_cast h8
  have e : (2 : Int) ^ kn = ((2 ^ kn : Nat) : Int) := by simp
  omega
 obtain ⟨x, hx⟩ : ∃ x : Fin 16, B.1 = (x.val : Int) := ⟨⟨B.1.toNat, by omega⟩, by simp only; omega⟩
 obtain ⟨y, hy⟩ : ∃ y : Fin 4, oI o = (y.val : Int) := ⟨⟨(oI o).toNat, by omega⟩, by simp only; omega⟩
 have hc := cnd_fin x y
 rw [← hx, ← hy] at hc
 have h16 := p16 (n := inn) (by omega)
 unfold s_l23Gate
 show bO (br (decide (0 < oI o)) _ _) _ = _
 rw [show (br (decide ((0 : Int) < oI o)) (gd (decide (¬ (IntKind.wrap .u64 (IntKind.wrap .i64 (o.2.2.2.2.2.2.2 - 1))) < 0)) (some ((bits .and .i64 (Int.fdiv (brC n inn B).1 (2 ^ min (Int.toNat (IntKind.wrap .u64 (IntKind.wrap .i64 (o.2.2.2.2.2.2.2 - 1)))) (IntKind.bits .i64))) 1) == 0))) (some false)) = some (cnd B.1 (oI o)) from hc, bO_some]
 unfold s_l23Gate_j1 gtF
 cases hcn : cnd B.1 (oI o) with
 | true => rw [br_true, if_pos rfl]
 | false =>
  rw [br_false, if_neg (by simp)]
  have key : ∀ (m i : Nat), i ≤ 2 ^ inn → 2 ^ inn - i < m → s_l23Gate_l1 B.1 (brC n inn B).2 o.2.1 o.2.2.1 o.2.2.2.1 o.2.2.2.2.1 m (i : Int) ((List.range i).map fun j => vc (2 ^ n) (B.2.1 + kq (oG o).1) (gz (oG o) (B.2.2 j))) = some (B.1, (brC n inn (B.1, B.2.1 + kq (oG o).1, fun i => gz (oG o) (B.2.2 i))).2, true) := by
   intro m
   induction m with
   | zero => intro i _ h; omega
   | succ m ih =>
    intro i hi hm
    rw [s_l23Gate_l1]
    have hlen : (brC n inn B).2.length = 2 ^ inn := by simp [brC]
    rw [hlen]
    by_cases e : i = 2 ^ inn
    ·rw [decide_eq_false (by rw [e]; exact Int.lt_irrefl _), br_false, e]
     rfl
    ·have hil : i < 2 ^ inn := by omega
     have hd : decide ((i : Int) < ((2 ^ inn : Nat) : Int)) = true := (fun x h => decide_eq_true (by omega) : ∀ x : Nat, i < x → decide ((i : Int) < (x : Int)) = true) _ hil
     have hpw := pow24 (e := B.2.1) (by omega)
     have hag := s_ag (K := B.2.1) (M := 2 ^ B.2.1) (f := B.2.2 i) hv (by omega) hpw (hbd i)
     rw [Int.toNat_natCast] at hag
     have hget : geti (brC n inn B).2 (i : Int) = some (vc (2 ^ n) B.2.1 (B.2.2 i)) := cell_get (fun i => vc (2 ^ n) B.2.1 (B.2.2 i)) hil
     rw [hd, br_true, hget, bO_some]
     show bO (s_ApplyGate (oG o).1 (oG o).2.1 (oG o).2.2.1 (oG o).2.2.2 _) _ = _
     rw [hag, bO_some]
     simp only [Bool.not_true, br_false]
     rw [decide_eq_true (by simp; omega), gd_true, w64s hil (by omega)]
     have := ih (i + 1) (by omega) (by omega)
     rw [range_snoc] at this
     exact this
  exact key FU 0 (Nat.zero_le _) (by rw [FU_eq]; omega)
theorem s_ms (hn : 1 ≤ n ∧ n ≤ 4) (hin : 1 ≤ inn ∧ inn ≤ n) {q bit : Nat} (hq : q < 4) (hbit : bit < 3) {kn h : Nat} (hkn : kn ≤ 3) (hh : h ≤ 60) {B : BQ} (hB : IvB kn h B) :
  s_MeasureBranch (brC n inn B).1 (brC n inn B).2 (q : Int) (bit : Int) = some ((msF n inn q bit B).map (brC n inn)) := by
 obtain ⟨⟨b0, b1⟩, hK, hbd⟩ := hB
 have h8 := p8 hkn
 have b8 : B.1 < 8 := by
  have : ((2 ^ kn : Nat) : Int) ≤ 8 := by exact_mod_cast h8
  have e : (2 : Int) ^ kn = ((2 ^ kn : Nat) : Int) := by simp
  omega
 obtain ⟨x, hx⟩ : ∃ x : Fin 8, B.1 = (x.val : Int) := ⟨⟨B.1.toNat, by omega⟩, by simp only; omega⟩
 have h16 := p16 (n := inn) (by omega)
 have hlen : (brC n inn B).2.length = 2 ^ inn := by simp [brC]
 have hng : decide (¬ IntKind.wrap .u64 (bit : Int) < 0) = true := by rw [IntWalk.u64_in _ (by omega)]; exact decide_eq_true (by omega)
 unfold s_MeasureBranch
 rw [s_in_eq, bO_some, decide_eq_true (by omega), Bool.not_true, br_false, s_in_eq, bO_some, bO_some, decide_eq_true (by omega), Bool.not_true]
 unfold s_MeasureBranch_j1
 rw [br_false]
 have inner : ∀ (one : Fin 2) (out : (List (Int × List (List DQ)))) (kl : Int → (List (Int × List (List DQ))) → Option (List (Int × List (List DQ)))) (bv : Int), s_MeasureBranch_l4 (brC n inn B).2 (q : Int) (one.val : Int) out kl FU false 0 bv [] = s_MeasureBranch_j8 (one.val : Int) out kl (msB n inn q (one.val == 1) B.2.2) bv ((List.range (2 ^ inn)).map fun i => vc (2 ^ n) B.2.1 (prA q (one.val == 1) (B.2.2 i))) := by
  intro one out kl bv
  have key : ∀ (m i : Nat), i ≤ 2 ^ inn → 2 ^ inn - i < m → s_MeasureBranch_l4 (brC n inn B).2 (q : Int) (one.val : Int) out kl m ((List.range i).any fun j => nzB (2 ^ n) (prA q (one.val == 1) (B.2.2 j))) (i : Int) bv ((List.range i).map fun i => vc (2 ^ n) B.2.1 (prA q (one.val == 1) (B.2.2 i))) = s_MeasureBranch_j8 (one.val : Int) out kl (msB n inn q (one.val == 1) B.2.2) bv ((List.range (2 ^ inn)).map fun i => vc (2 ^ n) B.2.1 (prA q (one.val == 1) (B.2.2 i))) := by
   intro m
   induction m with
   | zero => intro i _ h; omega
   | succ m ih =>
    intro i hi hm
    rw [s_MeasureBranch_l4, hlen]
    by_cases e : i = 2 ^ inn
    ·rw [decide_eq_false (by rw [e]; exact Int.lt_irrefl _), br_false, e]
     rfl
    ·have hil : i < 2 ^ inn := by omega
     have hd : decide ((i : Int) < ((2 ^ inn : Nat) : Int)) = true := (fun x h => decide_eq_true (by omega) : ∀ x : Nat, i < x → decide ((i : Int) < (x : Int)) = true) _ hil
     have hget : geti (brC n inn B).2 (i : Int) = some (vc (2 ^ n) B.2.1 (B.2.2 i)) := cell_get (fun i => vc (2 ^ n) B.2.1 (B.2.2 i)) hil
     rw [hd, br_true, hget, bO_some, s_side hn hq one (by omega), bO_some, decide_eq_true (by simp; omega), gd_true, w64s hil (by omega)]
     have ih' := ih (i + 1) (by omega) (by omega)
     rw [range_snoc, List.range_succ, List.any_append] at ih'
     simp only [List.any_cons, List.any_nil, Bool.or_false] at ih'
     generalize ((List.range i).any fun j => nzB (2 ^ n) (prA q (one.val == 1) (B.2.2 j))) = z at ih' ⊢
     cases z <;> exact ih'
  exact key FU 0 (Nat.zero_le _) (by rw [FU_eq]; omega)
 obtain ⟨m, hm⟩ : ∃ m, FU = ((m + 1) + 1) + 1 := ⟨4194301, rfl⟩
 have pw0 := pw_fin ⟨0, by omega⟩ ⟨bit, hbit⟩ x
 have pw1 := pw_fin ⟨1, by omega⟩ ⟨bit, hbit⟩ x
 rw [← hx] at pw0 pw1
 simp only at pw0 pw1
 have i0 := inner ⟨0, by omega⟩
 have i1 := inner ⟨1, by omega⟩
 simp only at i0 i1
 have key : ∀ FU', FU' = FU → s_MeasureBranch_l1 (brC n inn B).1 (brC n inn B).2 (q : Int) (bit : Int) FU' 0 [] = some ((msF n inn q bit B).map (brC n inn)) := by
  intro FU' hFU'
  rw [hFU', hm]
  have fin2 : ∀ out : (List (Int × List (List DQ))), s_MeasureBranch_l1 (brC n inn B).1 (brC n inn B).2 (q : Int) (bit : Int) (m + 1) 2 out = some out := fun out => by
   rw [s_MeasureBranch_l1, show decide ((2 : Int) < 2) = false from rfl, br_false]
   rfl
  have fin1 : ∀ out : (List (Int × List (List DQ))), out.length ≤ 1000 → s_MeasureBranch_l1 (brC n inn B).1 (brC n inn B).2 (q : Int) (bit : Int) (m + 1 + 1) 1 out = some (out ++ (if msB n inn q true B.2.2 = true then [brC n inn (B.1 + 2 ^ bit, B.2.1, fun i => prA q true (B.2.2 i))] else [])) := fun out ho => by
   rw [s_MeasureBranch_l1, show decide ((1 : Int) < 2) = true from rfl, br_true, hng, gd_true]
   show s_MeasureBranch_l4 _ _ ((1 : Nat) : Int) _ _ _ _ _ (IntKind.wrap .i64 (B.1 + IntKind.wrap .i64 (((1 : Nat) : Int) * 2 ^ min (Int.toNat (IntKind.wrap .u64 (bit : Int))) (IntKind.bits .i64)))) _ = _
   rw [pw1, i1]
   unfold s_MeasureBranch_j8 s_MeasureBranch_j7
   rw [if_pos trivial, show (((1 : Nat) == 1) : Bool) = true from rfl]
   cases msB n inn q true B.2.2 with
   | true =>
    rw [br_true, decide_eq_true (by simp; omega), gd_true, if_pos rfl]
    show s_MeasureBranch_l1 _ _ _ _ (m + 1) 2 _ = _
    rw [fin2]
    rfl
   | false =>
    rw [br_false, if_neg (by simp), List.append_nil]
    show s_MeasureBranch_l1 _ _ _ _ (m + 1) 2 _ = _
    rw [fin2]
  rw [s_MeasureBranch_l1, show decide ((0 : Int) < 2) = true from rfl, br_true, hng, gd_true]
  show s_MeasureBranch_l4 _ _ ((0 : Nat) : Int) _ _ _ _ _ (IntKind.wrap .i64 (B.1 + IntKind.wrap .i64 (((0 : Nat) : Int) * 2 ^ min (Int.toNat (IntKind.wrap .u64 (bit : Int))) (IntKind.bits .i64)))) _ = _
  rw [pw0, i0]
  unfold s_MeasureBranch_j8 s_MeasureBranch_j7
  rw [if_neg (by omega), Int.add_zero, show (((0 : Nat) == 1) : Bool) = false from rfl]
  unfold msF
  cases msB n inn q false B.2.2 with
  | true =>
   rw [br_true, decide_eq_true (by simp), gd_true, if_pos rfl]
   show s_MeasureBranch_l1 _ _ _ _ (m + 1 + 1) 1 _ = _
   rw [fin1 _ (by simp)]
   split <;> rfl
  | false =>
   rw [br_false, if_neg (by simp)]
   show s_MeasureBranch_l1 _ _ _ _ (m + 1 + 1) 1 _ = _
   rw [fin1 _ (by simp)]
   split <;> rfl
 exact key FU rfl
end
end Go.Proofs.Ytfjopjalhllplaa
