/- Joined texts: Pna Pnf. -/
import Derived.Test.YtfjopjalhllplaaGreatKMp
import Derived.Test.YtfjopjalhllplaaGreatKPcw
import Derived.Test.YtfjopjalhllplaaGreatK8
import Derived.Test.YtfjopjalhllplaaGreatK9
import Derived.Test.YtfjopjalhllplaaGreatK5
/- Plain law: NormalFormApplyGate of both sides. -/
namespace Go.Proofs.YtfjopjalhllplaaGreat
open Go.RowKit
set_option maxRecDepth 100000
set_option linter.unusedVariables false
set_option linter.unusedSimpArgs false
/-- The first part of withT, of both sides. -/
def T1 (w l : List Q4) : Option (Int × Int × List Q4) := bO (i_CosetIndex 1 l) fun x2 => bO (i_CosetRepresentative x2) fun x4 => bO (i_inverted x4) fun x5 => bO (i_wordOf ([x5, w])) fun x6 => bO (geti x6.2 1) fun q1 =>
 br (q1.2.2.2 == 2) (bO (i_one 5 0) fun x7 => bO (i_TableauApplyGate x6.1 x6.2 x7.1 x7.2.1 x7.2.2.1 x7.2.2.2) fun x8 => some (x2, x8.1, x8.2.1)) (some (x2, x6.1, x6.2))
def S1 (l : List Q4) : Option (Int × Int × List Q4) := bO (s_CosetIndex 1 l) fun x1 => bO (s_CosetRepresentative x1) fun x2 => bO (s_l11Inverse x2) fun x3 => bO (s_WordTableau x3) fun x4 => bO (s_l30Behind x4.1 x4.2.1 1 l) fun x5 => bO (geti x5.2 1) fun q1 =>
 br (q1.2.2.2 == 2) (bO (s_l14One 5 0) fun x6 => bO (s_TableauApplyGate x5.1 x5.2 x6.1 x6.2.1 x6.2.2.1 x6.2.2.2) fun x7 => some (x1, x7.1, x7.2.1)) (some (x1, x5.1, x5.2))
def t1Ok (p : List Q4 × List Q4) : Bool := match T1 p.1 p.2 with
 | some t => (S1 p.2 == some t) && (decide (0 ≤ t.1 ∧ t.1 ≤ 2) && (t.2.1 == 1 && tB 1 t.2.2))
 | none => false
theorem t1_fin : (ZL.all t1Ok) = true := by decide +kernel
/-- The part that takes the last syllable back. -/
def T2 (w : List Q4) (m : Int) : Option (Int × List Q4) := bO (i_CosetRepresentative m) fun x11 => bO (i_one 5 0) fun x12 => bO (i_wordOf ([x11, [(x12.1, x12.2.1, x12.2.2.1, x12.2.2.2)], w])) fun x13 => some x13
def S2 (d : List Q4) (m : Int) : Option (Int × List Q4) := bO (s_CosetRepresentative m) fun x9 => bO (s_l14One 5 0) fun x10 => gd (decide (x9.length + ([(x10.1, x10.2.1, x10.2.2.1, x10.2.2.2)]).length ≤ 16777216)) (bO (s_WordTableau (x9 ++ ([(x10.1, x10.2.1, x10.2.2.1, x10.2.2.2)]))) fun x11 => bO (s_l30Behind x11.1 x11.2.1 1 d) fun x12 => some x12)
def t2Ok (p : List Q4 × List Q4) : Bool := [0, 1, 2].all fun (m : Int) => match T2 p.1 m with
 | some t => (S2 p.2 m == some t) && (t.1 == 1 && tB 1 t.2)
 | none => false
theorem t2_fin : (ZL.all t2Ok) = true := by decide +kernel
theorem gd_w {α : Type} {a : Nat} {k : Option α} (h : a ≤ 16777216) : gd (decide (a ≤ 16777216)) k = k := by rw [decide_eq_true h]; rfl
/-- The word of a one-qubit tableau. -/
def wdF (l : List Q4) : List Q4 := (cwF 1 l).1
/-- Sdg behind a tableau. -/
def sdF (l : List Q4) : List Q4 := match s_TableauApplyGate 1 l 6 0 0 0 with | some r => r.2.1 | none => []
/-- The two roads of withT. -/
def t1F (l : List Q4) : Int × List Q4 := match T1 (wdF l) l with | some t => (t.1, t.2.2) | none => (0, [])
def t2F (d : List Q4) (m : Int) : List Q4 := match T2 (wdF d) m with | some t => t.2 | none => []
/-- withT of both sides as a function. -/
def ntF (y : List Int) (l : List Q4) : List Int × List Q4 := if (t1F l).1 = 0 ∧ 1 ≤ y.length then (y.take (y.length - 1), t2F (t1F l).2 (y[y.length - 1]?.getD 0)) else (y ++ [(t1F l).1], (t1F l).2)
/-- A normal form with one more T, as both sides make it. -/
theorem wt_eq (y : List Int) (l : List Q4) (hy : y.length ≤ 2000000) (hv : ∀ (k : Nat) (q : Int), y[k]? = some q → 0 ≤ q ∧ q ≤ 2) (ht : tB 1 l = true) :
  ∃ r : Int × List Int × List Q4, i_withT y 1 l = some r ∧ s_l30T y 1 l = some r ∧ r.1 = 1 ∧ tB 1 r.2.2 = true ∧ r.2.1.length ≤ y.length + 1 ∧ (∀ (k : Nat) (q : Int), r.2.1[k]? = some q → 0 ≤ q ∧ q ≤ 2) ∧ r.2 = ntF y l := by
 obtain ⟨p, hp, rfl, hc⟩ := cwF_ok ht
 have e := List.all_eq_true.1 t1_fin p hp
 unfold t1Ok at e
 split at e
 case h_2 => cases e
 rename_i t hT
 simp only [Bool.and_eq_true, beq_iff_eq, decide_eq_true_eq] at e
 obtain ⟨hS, hk, hN, hd⟩ := e
 obtain ⟨k, N, d⟩ := t
 simp only at hk hN hd
 subst hN
 have ht1 : t1F p.2 = (k, d) := by unfold t1F wdF; rw [hc, hT]
 -- what comes behind
 have j : ∃ r : Int × List Int × List Q4, i_withT_j1 (1, y, p.2) k 1 d = some r ∧ s_l30T_j1 y k 1 d = some r ∧ r.1 = 1 ∧ tB 1 r.2.2 = true ∧ r.2.1.length ≤ y.length + 1 ∧ (∀ (k : Nat) (q : Int), r.2.1[k]? = some q → 0 ≤ q ∧ q ≤ 2) ∧ r.2 = ntF y p.2 := by
  have hw : IntKind.wrap .i64 ((y.length : Int) - 1) = (y.length : Int) - 1 := w64 (by omega) (by omega)
  unfold i_withT_j1 s_l30T_j1
  simp only [hw]
  by_cases hb : k = 0 ∧ 1 ≤ y.length
  ·have hb' := hb
   obtain ⟨rfl, hl⟩ := hb
   have c1 : decide (0 ≤ (y.length : Int) - 1) = true := decide_eq_true (by omega)
   obtain ⟨q, hq, rfl, hcq⟩ := cwF_ok hd
   have hlast : y.length - 1 < y.length := by omega
   have hg : geti y ((y.length : Int) - 1) = some y[y.length - 1] := by
    rw [show (y.length : Int) - 1 = ((y.length - 1 : Nat) : Int) by omega]; exact geti_lt hlast
   have hm := hv (y.length - 1) _ (List.getElem?_eq_getElem hlast)
   have hgd : y[y.length - 1]?.getD 0 = y[y.length - 1] := by rw [List.getElem?_eq_getElem hlast]; rfl
   generalize y[y.length - 1] = m at hg hm hgd
   have hs : slc y 0 ((y.length : Int) - 1) = some (y.take (y.length - 1)) := by
    unfold slc
    rw [if_pos (by omega), show ((y.length : Int) - 1).toNat - (0 : Int).toNat = y.length - 1 by omega]
    rfl
   have hlt : decide ((y.length : Int) - 1 < (y.length : Int)) = true := decide_eq_true (by omega)
   have e := List.all_eq_true.1 t2_fin q hq
   unfold t2Ok at e
   have e := List.all_eq_true.1 e m (by
     have : m = 0 ∨ m = 1 ∨ m = 2 := by omega
     rcases this with rfl | rfl | rfl <;> simp)
   split at e
   case h_2 => cases e
   rename_i t hT2
   simp only [Bool.and_eq_true, beq_iff_eq] at e
   obtain ⟨hS2, hN2, hd2⟩ := e
   have hnt : t2F q.2 m = t.2 := by unfold t2F wdF; rw [hcq, hT2]
   unfold T2 at hT2
   unfold S2 at hS2
   obtain ⟨x11, a1, hT2⟩ := bO_inv hT2
   obtain ⟨x12, a2, hT2⟩ := bO_inv hT2
   obtain ⟨x13, a3, hT2⟩ := bO_inv hT2
   obtain ⟨x9, b1, hS2⟩ := bO_inv hS2
   obtain ⟨x10, b2, hS2⟩ := bO_inv hS2
   obtain ⟨b3, hS2⟩ := gd_inv hS2
   obtain ⟨y11, b4, hS2⟩ := bO_inv hS2
   obtain ⟨y12, b5, hS2⟩ := bO_inv hS2
   injection hT2 with hT2
   injection hS2 with hS2
   subst hT2
   subst hS2
   refine ⟨(y12.1, y.take (y.length - 1), y12.2), ?_, ?_, hN2, hd2, by simp; omega, fun k q hkq => ?_, by unfold ntF; rw [ht1, if_pos hb', hgd]; exact Prod.ext rfl hnt.symm⟩
   ·simp only [beq_self_eq_true, br_true, bO_some, c1, i_withT_j2, hg, i_cw, hcq, hlt, gd_true, hs, a1, a2, a3]
   ·simp only [beq_self_eq_true, br_true, bO_some, c1, s_l30T_j2, hg, b1, b2, b3, gd_true, b4, hs, b5]
    rw [gd_w (by simp; omega)]
   ·rw [List.getElem?_take] at hkq
    split at hkq
    ·exact hv k q hkq
    ·cases hkq
  ·refine ⟨(1, y ++ [k], d), ?_, ?_, rfl, hd, by simp, fun j q hq => ?_, by unfold ntF; rw [ht1, if_neg hb]⟩
   ·have c : (bO (br (k == 0) (some (decide (0 ≤ (y.length : Int) - 1))) (some false)) fun x9 => i_withT_j2 (1, y, p.2) k 1 d ((y.length : Int) - 1) x9) = i_withT_j2 (1, y, p.2) k 1 d ((y.length : Int) - 1) false := by
     by_cases hk0 : k = 0
     ·subst hk0
      have c1 : decide (0 ≤ (y.length : Int) - 1) = false := decide_eq_false (by omega)
      simp only [beq_self_eq_true, br_true, bO_some, c1]
     ·have : (k == 0) = false := by simpa using hk0
      simp only [this, br_false, bO_some]
    rw [c]
    simp only [i_withT_j2, br_false]
    rw [gd_w (by simp; omega)]
   ·have c : (bO (br (k == 0) (some (decide (0 ≤ (y.length : Int) - 1))) (some false)) fun x8 => s_l30T_j2 y k 1 d ((y.length : Int) - 1) x8) = s_l30T_j2 y k 1 d ((y.length : Int) - 1) false := by
     by_cases hk0 : k = 0
     ·subst hk0
      have c1 : decide (0 ≤ (y.length : Int) - 1) = false := decide_eq_false (by omega)
      simp only [beq_self_eq_true, br_true, bO_some, c1]
     ·have : (k == 0) = false := by simpa using hk0
      simp only [this, br_false, bO_some]
    rw [c]
    simp only [s_l30T_j2, br_false]
    rw [gd_w (by simp; omega), gd_w (by simp; omega)]
   ·rcases Nat.lt_or_ge j y.length with hj | hj
    ·rw [List.getElem?_append_left hj] at hq; exact hv j q hq
    ·rw [List.getElem?_append_right hj] at hq
     have : j - y.length = 0 ∨ 1 ≤ j - y.length := by omega
     rcases this with h0 | h0
     ·rw [h0] at hq; simp at hq; omega
     ·rw [List.getElem?_eq_none (by simpa using h0)] at hq; cases hq
 obtain ⟨r, j1, j2, j3⟩ := j
 refine ⟨r, ?_, ?_, j3⟩
 ·unfold T1 at hT
  obtain ⟨x2, a1, hT⟩ := bO_inv hT
  obtain ⟨x4, a2, hT⟩ := bO_inv hT
  obtain ⟨x5, a3, hT⟩ := bO_inv hT
  obtain ⟨x6, a4, hT⟩ := bO_inv hT
  obtain ⟨q1, a5, hT⟩ := bO_inv hT
  unfold i_withT i_copyNormalForm
  rw [gd_w (by simp; omega), gd_w (by have := (tB_inv ht).2.1; simp; omega), bO_some, a1, bO_some, i_cw, hc, bO_some, a2, bO_some, a3, bO_some]
  simp only [a4, bO_some, a5]
  cases hq : (q1.2.2.2 == 2) with
  | true =>
   rw [hq, br_true] at hT
   obtain ⟨x7, a6, hT⟩ := bO_inv hT
   obtain ⟨x8, a7, hT⟩ := bO_inv hT
   injection hT with hT
   injection hT with e1 hT
   injection hT with e2 e3
   subst e1 e3
   simp only [br_true, a6, bO_some, a7, e2]
   exact j1
  | false =>
   rw [hq, br_false] at hT
   injection hT with hT
   injection hT with e1 hT
   injection hT with e2 e3
   subst e1 e3
   simp only [br_false, e2]
   exact j1
 ·unfold S1 at hS
  obtain ⟨x2, a1, hS⟩ := bO_inv hS
  obtain ⟨x4, a2, hS⟩ := bO_inv hS
  obtain ⟨x5, a3, hS⟩ := bO_inv hS
  obtain ⟨x6, a4, hS⟩ := bO_inv hS
  obtain ⟨x9, a8, hS⟩ := bO_inv hS
  obtain ⟨q1, a5, hS⟩ := bO_inv hS
  unfold s_l30T
  simp only [a1, a2, a3, a4, a8, a5, bO_some]
  cases hq : (q1.2.2.2 == 2) with
  | true =>
   rw [hq, br_true] at hS
   obtain ⟨x7, a6, hS⟩ := bO_inv hS
   obtain ⟨x8, a7, hS⟩ := bO_inv hS
   injection hS with hS
   injection hS with e1 hS
   injection hS with e2 e3
   subst e1 e3
   simp only [br_true, a6, bO_some, a7, e2]
   exact j2
  | false =>
   rw [hq, br_false] at hS
   injection hS with hS
   injection hS with e1 hS
   injection hS with e2 e3
   subst e1 e3
   simp only [br_false, e2]
   exact j2
end Go.Proofs.YtfjopjalhllplaaGreat
/- Plain laws: the gates of a normal form. -/
namespace Go.Proofs.YtfjopjalhllplaaGreat
open Go.RowKit
set_option maxRecDepth 100000
set_option linter.unusedVariables false
set_option linter.unusedSimpArgs false
end Go.Proofs.YtfjopjalhllplaaGreat
