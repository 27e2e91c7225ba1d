/- Plain laws: sums and multiples of states, projections; both sides. -/
import Derived.Test.YtfjopjalhllplaaK16
import Derived.Test.YtfjopjalhllplaaK15
namespace Go.Proofs.Ytfjopjalhllplaa
open Go.RowKit
set_option maxRecDepth 100000
set_option linter.unusedVariables false
set_option linter.unusedSimpArgs false
def mpO (g : Nat → Option DQ) : Nat → Nat → Option (List DQ)
 | _, 0 => some []
 | i, c + 1 => (g i).bind fun z => (mpO g (i + 1) c).bind fun r => some (z :: r)
theorem mpO_len (g : Nat → Option DQ) : ∀ (c i : Nat) (r : List DQ), mpO g i c = some r → r.length = c
 | 0, i, r, h => by cases h; rfl
 | c + 1, i, r, h => by
  unfold mpO at h
  cases hz : g i with
  | none => rw [hz] at h; cases h
  | some z =>
   rw [hz] at h
   simp only [Option.bind_some] at h
   cases hr : mpO g (i + 1) c with
   | none => rw [hr] at h; cases h
   | some r' =>
    rw [hr] at h
    cases h
    rw [List.length_cons, mpO_len g c (i + 1) r' hr]
theorem mpO_get (g : Nat → Option DQ) : ∀ (c i : Nat) (r : List DQ), mpO g i c = some r → ∀ k, k < c → g (i + k) = some (r[k]?.getD d0)
 | 0, i, r, h, k, hk => by omega
 | c + 1, i, r, h, k, hk => by
  unfold mpO at h
  cases hz : g i with
  | none => rw [hz] at h; cases h
  | some z =>
   rw [hz] at h
   simp only [Option.bind_some] at h
   cases hr : mpO g (i + 1) c with
   | none => rw [hr] at h; cases h
   | some r' =>
    rw [hr] at h
    cases h
    cases k with
    | zero => exact hz
    | succ k =>
     have := mpO_get g c (i + 1) r' hr k (by omega)
     rw [show i + (k + 1) = i + 1 + k by omega, this]
     rfl
/-- A loop that puts one number behind the other, or gives up. -/
theorem row_loop (L : Nat → Int → List DQ → Option (List DQ × Bool)) (g : Nat → Option DQ) (n : Nat) (hn : n ≤ 4000000)
  (hs : ∀ m k acc, k < n → acc.length = k → L (m + 1) (k : Int) acc = match g k with | some z => L m ((k + 1 : Nat) : Int) (acc ++ [z]) | none => some ([], false))
  (he : ∀ m acc, acc.length = n → L (m + 1) (n : Int) acc = some (acc, true)) : L FU 0 [] = some (resl (mpO g 0 n)) := by
 have key : ∀ (c m i : Nat) (acc : List DQ), i + c = n → c < m → acc.length = i → L m (i : Int) acc = match mpO g i c with | some r => some (acc ++ r, true) | none => some ([], false) := by
  intro c
  induction c with
  | zero =>
   intro m i acc hi hm ha
   obtain ⟨m, rfl⟩ : ∃ m', m = m' + 1 := ⟨m - 1, by omega⟩
   have : i = n := by omega
   subst this
   rw [he m acc ha]
   show _ = some (acc ++ [], true)
   rw [List.append_nil]
  | succ c ih =>
   intro m i acc hi hm ha
   obtain ⟨m, rfl⟩ : ∃ m', m = m' + 1 := ⟨m - 1, by omega⟩
   rw [hs m i acc (by omega) ha]
   unfold mpO
   cases hz : g i with
   | none => rfl
   | some z =>
    simp only [Option.bind_some]
    rw [ih m (i + 1) (acc ++ [z]) (by omega) (by omega) (by simp [ha])]
    cases hr : mpO g (i + 1) c with
    | none => rfl
    | some r => simp only [Option.bind_some, List.append_assoc, List.cons_append, List.nil_append]
 refine (key n FU 0 [] (by omega) (by rw [FU_eq]; omega) rfl).trans ?_
 cases mpO g 0 n <;> rfl
def scK (v : List DQ) (z : DQ) (k : Nat) : Option DQ := if vd (v[k]?.getD d0) = true ∧ vd z = true then mulF (v[k]?.getD d0) z else none
def scM (v : List DQ) (z : DQ) : Option (List DQ) := if stB v = true then mpO (scK v z) 0 v.length else none
theorem gD {v : List DQ} {k : Nat} (h : k < v.length) : geti v (k : Int) = some (v[k]?.getD d0) := by rw [geti_lt h, List.getElem?_eq_getElem h]; rfl
theorem s_scM (v : List DQ) (z : DQ) (hv : v.length ≤ 1048576) : s_ScaleState v z.1 z.2.1 z.2.2.1 z.2.2.2.1 z.2.2.2.2 = some (resl (scM v z)) := by
 unfold s_ScaleState scM
 cases hs : stB v with
 | true =>
  rw [if_pos rfl]
  refine row_loop (s_ScaleState_l1 v z.1 z.2.1 z.2.2.1 z.2.2.2.1 z.2.2.2.2) (scK v z) v.length (by omega) (fun m k acc hk ha => ?_) (fun m acc ha => ?_)
  ·have hlt : decide ((k : Int) < (v.length : Int)) = true := decide_eq_true (by omega)
   rw [s_ScaleState_l1, hlt, br_true, gD hk, bO_some, s_mul', bO_some, s_st v (by omega), hs]
   unfold scK
   split
   ·cases mulF (v[k]?.getD d0) z with
    | none => rfl
    | some y =>
     simp only [res, Bool.not_true, br_false, bO_some, s_ScaleState_j4]
     rw [decide_eq_true (by simp; omega), gd_true, w64s hk (by omega)]
   ·rfl
  ·have hlt : decide ((v.length : Int) < (v.length : Int)) = false := decide_eq_false (by omega)
   rw [s_ScaleState_l1, hlt, br_false]
   unfold s_ScaleState_j1
   rw [s_st v (by omega), hs]
   rfl
 | false =>
  rw [if_neg (by simp)]
  obtain ⟨m, hm⟩ : ∃ m, FU = m + 1 := ⟨FU - 1, by rw [FU_eq]⟩
  rw [hm, s_ScaleState_l1]
  by_cases h0 : 0 < v.length
  ·have hlt : decide ((0 : Int) < (v.length : Int)) = true := decide_eq_true (by omega)
   have hg := gD (v := v) (k := 0) h0
   rw [show ((0 : Nat) : Int) = 0 from rfl] at hg
   rw [hlt, br_true, hg, bO_some, s_mul', bO_some, s_st v (by omega), hs]
   cases (!(res (if vd (v[0]?.getD d0) = true ∧ vd z = true then mulF (v[0]?.getD d0) z else none)).2.2.2.2.2) <;> rfl
  ·have hlt : decide ((0 : Int) < (v.length : Int)) = false := decide_eq_false (by omega)
   have hv0 : v = [] := List.eq_nil_of_length_eq_zero (by omega)
   rw [hlt, br_false]
   unfold s_ScaleState_j1
   rw [s_st v (by omega), hs]
   rfl
end Go.Proofs.Ytfjopjalhllplaa
