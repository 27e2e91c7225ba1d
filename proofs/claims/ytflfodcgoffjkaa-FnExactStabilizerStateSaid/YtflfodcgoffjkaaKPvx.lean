/- Plain laws: sums and multiples of states, projections; both sides. -/
import Derived.Test.YtflfodcgoffjkaaK6b
import Derived.Test.YtflfodcgoffjkaaK16
import Derived.Test.YtflfodcgoffjkaaK15
namespace Go.Proofs.Ytflfodcgoffjkaa
open Go.RowKit
set_option maxRecDepth 100000
set_option linter.unusedVariables false
set_option linter.unusedSimpArgs false
def mpO (g : Nat → Option DQ) : Nat → Nat → Option (List DQ)
  | _, 0 => some []
  | i, c + 1 => (g i).bind fun z => (mpO g (i + 1) c).bind fun r => some (z :: r)
theorem mpO_len (g : Nat → Option DQ) : ∀ (c i : Nat) (r : List DQ), mpO g i c = some r → r.length = c
  | 0, i, r, h => by cases h; rfl
  | c + 1, i, r, h => by
    unfold mpO at h
    cases hz : g i with
    | none => rw [hz] at h; cases h
    | some z =>
      rw [hz] at h
      simp only [Option.bind_some] at h
      cases hr : mpO g (i + 1) c with
      | none => rw [hr] at h; cases h
      | some r' =>
        rw [hr] at h
        cases h
        rw [List.length_cons, mpO_len g c (i + 1) r' hr]
/-- A loop that puts one number behind the other, or gives up. -/
theorem row_loop (L : Nat → Int → List DQ → Option (List DQ × Bool)) (g : Nat → Option DQ) (n : Nat) (hn : n ≤ 4000000)
    (hs : ∀ m k acc, k < n → acc.length = k → L (m + 1) (k : Int) acc = match g k with | some z => L m ((k + 1 : Nat) : Int) (acc ++ [z]) | none => some ([], false))
    (he : ∀ m acc, acc.length = n → L (m + 1) (n : Int) acc = some (acc, true)) : L FU 0 [] = some (resl (mpO g 0 n)) := by
  have key : ∀ (c m i : Nat) (acc : List DQ), i + c = n → c < m → acc.length = i → L m (i : Int) acc = match mpO g i c with | some r => some (acc ++ r, true) | none => some ([], false) := by
    intro c
    induction c with
    | zero =>
      intro m i acc hi hm ha
      obtain ⟨m, rfl⟩ : ∃ m', m = m' + 1 := ⟨m - 1, by omega⟩
      have : i = n := by omega
      subst this
      rw [he m acc ha]
      show _ = some (acc ++ [], true)
      rw [List.append_nil]
    | succ c ih =>
      intro m i acc hi hm ha
      obtain ⟨m, rfl⟩ : ∃ m', m = m' + 1 := ⟨m - 1, by omega⟩
      rw [hs m i acc (by omega) ha]
      unfold mpO
      cases hz : g i with
      | none => rfl
      | some z =>
        simp only [Option.bind_some]
        rw [ih m (i + 1) (acc ++ [z]) (by omega) (by omega) (by simp [ha])]
        cases hr : mpO g (i + 1) c with
        | none => rfl
        | some r => simp only [Option.bind_some, List.append_assoc, List.cons_append, List.nil_append]
  refine (key n FU 0 [] (by omega) (by rw [FU_eq]; omega) rfl).trans ?_
  cases mpO g 0 n <;> rfl
def adK (u v : List DQ) (k : Nat) : Option DQ := if vd (u[k]?.getD d0) = true ∧ vd (v[k]?.getD d0) = true then addF (u[k]?.getD d0) (v[k]?.getD d0) else none
def adM (u v : List DQ) : Option (List DQ) := if (stB u = true ∧ stB v = true) ∧ u.length = v.length then mpO (adK u v) 0 u.length else none
def scK (v : List DQ) (z : DQ) (k : Nat) : Option DQ := if vd (v[k]?.getD d0) = true ∧ vd z = true then mulF (v[k]?.getD d0) z else none
def scM (v : List DQ) (z : DQ) : Option (List DQ) := if stB v = true then mpO (scK v z) 0 v.length else none
theorem gD {v : List DQ} {k : Nat} (h : k < v.length) : geti v (k : Int) = some (v[k]?.getD d0) := by rw [geti_lt h, List.getElem?_eq_getElem h]; rfl
theorem resT (z : DQ) : (z.1, z.2.1, z.2.2.1, z.2.2.2.1, z.2.2.2.2) = z := rfl
theorem s_adM (u v : List DQ) (hu : u.length ≤ 1048576) (hv : v.length ≤ 1048576) : s_AddStates u v = some (resl (adM u v)) := by
  unfold s_AddStates adM
  rw [s_st u (by omega), bO_some, s_st v (by omega)]
  cases hsu : stB u with
  | false => rfl
  | true =>
    cases hsv : stB v with
    | false => rfl
    | true =>
      simp only [Bool.not_true, br_false, bO_some, true_and]
      by_cases hl : u.length = v.length
      · have hne : (((u.length : Int)) != ((v.length : Int))) = false := by simp [hl]
        rw [hne]
        unfold s_AddStates_j1
        rw [br_false, if_pos hl]
        refine row_loop (s_AddStates_l1 u v) (adK u v) u.length (by omega) (fun m k acc hk ha => ?_) (fun m acc ha => ?_)
        · have hlt : decide ((k : Int) < (v.length : Int)) = true := decide_eq_true (by omega)
          rw [s_AddStates_l1, hlt, br_true, gD hk, bO_some, gD (v := v) (by omega), bO_some, s_add, bO_some]
          unfold adK
          split
          · cases addF (u[k]?.getD d0) (v[k]?.getD d0) with
            | none => rfl
            | some z =>
              simp only [res, Bool.not_true, br_false]
              rw [decide_eq_true (by simp; omega), gd_true, w64s hk (by omega)]
          · rfl
        · have hlt : decide ((u.length : Int) < (v.length : Int)) = false := decide_eq_false (by omega)
          rw [s_AddStates_l1, hlt, br_false]
          rfl
      · have hne : (((u.length : Int)) != ((v.length : Int))) = true := by rw [bne_iff_ne]; omega
        rw [hne, if_neg hl]
        rfl
theorem s_scM (v : List DQ) (z : DQ) (hv : v.length ≤ 1048576) : s_ScaleState v z.1 z.2.1 z.2.2.1 z.2.2.2.1 z.2.2.2.2 = some (resl (scM v z)) := by
  unfold s_ScaleState scM
  cases hs : stB v with
  | true =>
    rw [if_pos rfl]
    refine row_loop (s_ScaleState_l1 v z.1 z.2.1 z.2.2.1 z.2.2.2.1 z.2.2.2.2) (scK v z) v.length (by omega) (fun m k acc hk ha => ?_) (fun m acc ha => ?_)
    · have hlt : decide ((k : Int) < (v.length : Int)) = true := decide_eq_true (by omega)
      rw [s_ScaleState_l1, hlt, br_true, gD hk, bO_some, s_mul', bO_some, s_st v (by omega), hs]
      unfold scK
      split
      · cases mulF (v[k]?.getD d0) z with
        | none => rfl
        | some y =>
          simp only [res, Bool.not_true, br_false, bO_some, s_ScaleState_j4]
          rw [decide_eq_true (by simp; omega), gd_true, w64s hk (by omega)]
      · rfl
    · have hlt : decide ((v.length : Int) < (v.length : Int)) = false := decide_eq_false (by omega)
      rw [s_ScaleState_l1, hlt, br_false]
      unfold s_ScaleState_j1
      rw [s_st v (by omega), hs]
      rfl
  | false =>
    rw [if_neg (by simp)]
    obtain ⟨m, hm⟩ : ∃ m, FU = m + 1 := ⟨FU - 1, by rw [FU_eq]⟩
    rw [hm, s_ScaleState_l1]
    by_cases h0 : 0 < v.length
    · have hlt : decide ((0 : Int) < (v.length : Int)) = true := decide_eq_true (by omega)
      have hg := gD (v := v) (k := 0) h0
      rw [show ((0 : Nat) : Int) = 0 from rfl] at hg
      rw [hlt, br_true, hg, bO_some, s_mul', bO_some, s_st v (by omega), hs]
      cases (!(res (if vd (v[0]?.getD d0) = true ∧ vd z = true then mulF (v[0]?.getD d0) z else none)).2.2.2.2.2) <;> rfl
    · have hlt : decide ((0 : Int) < (v.length : Int)) = false := decide_eq_false (by omega)
      have hv0 : v = [] := List.eq_nil_of_length_eq_zero (by omega)
      rw [hlt, br_false]
      unfold s_ScaleState_j1
      rw [s_st v (by omega), hs]
      rfl
/-- The matrix of a Pauli operator; a projection; 'stabilized'. -/
def pmX (p : Q4) : List (List DQ) := if vP p = true then pmL p else []
def prM (p : Q4) (v : List DQ) : Option (List DQ) := (apM (pmX p) v).bind fun w => (adM v w).bind fun s => scM s h2
def stM (p : Q4) (v : List DQ) : Bool := match apM (pmX p) v with | some w => w == v | none => false
theorem pmX_bd (p : Q4) : (pmX p).length ≤ 16 ∧ ∀ r ∈ pmX p, r.length ≤ 16 := by
  unfold pmX
  split
  · rename_i hv
    have h1 := (vP_iff.1 hv).1
    have h16 := pw16 h1
    rw [pm_tb]
    refine ⟨by rw [tb_len]; exact h16, fun r hr => ?_⟩
    obtain ⟨i, _, rfl⟩ := List.mem_map.1 hr
    simp only [List.length_map, List.length_range]
    exact h16
  · exact ⟨by simp, fun r hr => by cases hr⟩
theorem apF_len : ∀ (m : List (List DQ)) (v r : List DQ), apF m v = some r → r.length = m.length
  | [], v, r, h => by cases h; rfl
  | row :: m, v, r, h => by
    unfold apF at h
    cases hz : dotF d0 row v with
    | none => rw [hz] at h; cases h
    | some z =>
      rw [hz] at h
      simp only [Option.bind_some] at h
      cases hr : apF m v with
      | none => rw [hr] at h; cases h
      | some r' =>
        rw [hr] at h
        cases h
        rw [List.length_cons, List.length_cons, apF_len m v r' hr]
theorem apM_len {m : List (List DQ)} {v r : List DQ} (h : apM m v = some r) : r.length = m.length := by
  unfold apM at h
  split at h
  · exact apF_len _ _ _ h
  · cases h
theorem adM_len {u v r : List DQ} (h : adM u v = some r) : r.length = u.length := by
  unfold adM at h
  split at h
  · exact mpO_len _ _ _ _ h
  · cases h
theorem adM_nil (v : List DQ) : adM v [] = none := by
  unfold adM
  rw [if_neg]
  rintro ⟨⟨_, h⟩, _⟩
  exact absurd h (by decide)
theorem s_is2 : s_InvSqrt2Power 2 = some h2 := by decide +kernel
theorem s_pmX (p : Q4) : s_PauliMatrix p.1 p.2.1 p.2.2.1 p.2.2.2 = some (pmX p) := by
  unfold pmX
  cases hv : vP p with
  | true => rw [if_pos rfl]; exact s_pm (n := p.1) (x := p.2.1) (z := p.2.2.1) (p := p.2.2.2) hv
  | false => rw [if_neg (by simp)]; exact s_pm_no (n := p.1) (x := p.2.1) (z := p.2.2.1) (p := p.2.2.2) hv
theorem s_prM (p : Q4) (v : List DQ) (hv : v.length ≤ 1048576) : s_ProjectState p.1 p.2.1 p.2.2.1 p.2.2.2 v = some (resl (prM p v)) := by
  obtain ⟨b1, b2⟩ := pmX_bd p
  unfold s_ProjectState prM
  rw [s_pmX, bO_some, s_apply _ _ (by omega) (fun r hr => by have := b2 r hr; omega) hv, bO_some]
  cases ha : apM (pmX p) v with
  | none =>
    simp only [resl, Option.bind_none]
    rw [s_adM v [] hv (by simp), adM_nil]
    rfl
  | some w =>
    have hw := apM_len ha
    simp only [resl, Option.bind_some]
    rw [s_adM v w hv (by omega), bO_some]
    cases hs : adM v w with
    | none => rfl
    | some s =>
      have hsl := adM_len hs
      simp only [resl, Bool.not_true, br_false, bO_some, Option.bind_some, s_ProjectState_j1]
      rw [s_is2, bO_some, s_scM s h2 (by omega), bO_some]
      rfl
end Go.Proofs.Ytflfodcgoffjkaa
