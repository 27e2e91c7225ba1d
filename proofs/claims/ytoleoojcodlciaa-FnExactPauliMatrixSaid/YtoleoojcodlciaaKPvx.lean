/- Plain laws: sums and multiples of states, projections; both sides. -/
import Derived.Test.YtoleoojcodlciaaK16
import Derived.Test.YtoleoojcodlciaaK15
namespace Go.Proofs.Ytoleoojcodlciaa
open Go.RowKit
set_option maxRecDepth 100000
set_option linter.unusedVariables false
set_option linter.unusedSimpArgs false
def mpO (g : Nat → Option DQ) : Nat → Nat → Option (List DQ)
  | _, 0 => some []
  | i, c + 1 => (g i).bind fun z => (mpO g (i + 1) c).bind fun r => some (z :: r)
theorem mpO_len (g : Nat → Option DQ) : ∀ (c i : Nat) (r : List DQ), mpO g i c = some r → r.length = c
  | 0, i, r, h => by cases h; rfl
  | c + 1, i, r, h => by
    unfold mpO at h
    cases hz : g i with
    | none => rw [hz] at h; cases h
    | some z =>
      rw [hz] at h
      simp only [Option.bind_some] at h
      cases hr : mpO g (i + 1) c with
      | none => rw [hr] at h; cases h
      | some r' =>
        rw [hr] at h
        cases h
        rw [List.length_cons, mpO_len g c (i + 1) r' hr]
/-- A loop that puts one number behind the other, or gives up. -/
theorem row_loop (L : Nat → Int → List DQ → Option (List DQ × Bool)) (g : Nat → Option DQ) (n : Nat) (hn : n ≤ 4000000)
    (hs : ∀ m k acc, k < n → acc.length = k → L (m + 1) (k : Int) acc = match g k with | some z => L m ((k + 1 : Nat) : Int) (acc ++ [z]) | none => some ([], false))
    (he : ∀ m acc, acc.length = n → L (m + 1) (n : Int) acc = some (acc, true)) : L FU 0 [] = some (resl (mpO g 0 n)) := by
  have key : ∀ (c m i : Nat) (acc : List DQ), i + c = n → c < m → acc.length = i → L m (i : Int) acc = match mpO g i c with | some r => some (acc ++ r, true) | none => some ([], false) := by
    intro c
    induction c with
    | zero =>
      intro m i acc hi hm ha
      obtain ⟨m, rfl⟩ : ∃ m', m = m' + 1 := ⟨m - 1, by omega⟩
      have : i = n := by omega
      subst this
      rw [he m acc ha]
      show _ = some (acc ++ [], true)
      rw [List.append_nil]
    | succ c ih =>
      intro m i acc hi hm ha
      obtain ⟨m, rfl⟩ : ∃ m', m = m' + 1 := ⟨m - 1, by omega⟩
      rw [hs m i acc (by omega) ha]
      unfold mpO
      cases hz : g i with
      | none => rfl
      | some z =>
        simp only [Option.bind_some]
        rw [ih m (i + 1) (acc ++ [z]) (by omega) (by omega) (by simp [ha])]
        cases hr : mpO g (i + 1) c with
        | none => rfl
        | some r => simp only [Option.bind_some, List.append_assoc, List.cons_append, List.nil_append]
  refine (key n FU 0 [] (by omega) (by rw [FU_eq]; omega) rfl).trans ?_
  cases mpO g 0 n <;> rfl
def adK (u v : List DQ) (k : Nat) : Option DQ := if vd (u[k]?.getD d0) = true ∧ vd (v[k]?.getD d0) = true then addF (u[k]?.getD d0) (v[k]?.getD d0) else none
def adM (u v : List DQ) : Option (List DQ) := if (stB u = true ∧ stB v = true) ∧ u.length = v.length then mpO (adK u v) 0 u.length else none
def scK (v : List DQ) (z : DQ) (k : Nat) : Option DQ := if vd (v[k]?.getD d0) = true ∧ vd z = true then mulF (v[k]?.getD d0) z else none
def scM (v : List DQ) (z : DQ) : Option (List DQ) := if stB v = true then mpO (scK v z) 0 v.length else none
theorem gD {v : List DQ} {k : Nat} (h : k < v.length) : geti v (k : Int) = some (v[k]?.getD d0) := by rw [geti_lt h, List.getElem?_eq_getElem h]; rfl
theorem resT (z : DQ) : (z.1, z.2.1, z.2.2.1, z.2.2.2.1, z.2.2.2.2) = z := rfl
/-- The matrix of a Pauli operator; a projection; 'stabilized'. -/
def pmX (p : Q4) : List (List DQ) := if vP p = true then pmL p else []
def prM (p : Q4) (v : List DQ) : Option (List DQ) := (apM (pmX p) v).bind fun w => (adM v w).bind fun s => scM s h2
def stM (p : Q4) (v : List DQ) : Bool := match apM (pmX p) v with | some w => w == v | none => false
theorem pmX_bd (p : Q4) : (pmX p).length ≤ 16 ∧ ∀ r ∈ pmX p, r.length ≤ 16 := by
  unfold pmX
  split
  · rename_i hv
    have h1 := (vP_iff.1 hv).1
    have h16 := pw16 h1
    rw [pm_tb]
    refine ⟨by rw [tb_len]; exact h16, fun r hr => ?_⟩
    obtain ⟨i, _, rfl⟩ := List.mem_map.1 hr
    simp only [List.length_map, List.length_range]
    exact h16
  · exact ⟨by simp, fun r hr => by cases hr⟩
theorem apF_len : ∀ (m : List (List DQ)) (v r : List DQ), apF m v = some r → r.length = m.length
  | [], v, r, h => by cases h; rfl
  | row :: m, v, r, h => by
    unfold apF at h
    cases hz : dotF d0 row v with
    | none => rw [hz] at h; cases h
    | some z =>
      rw [hz] at h
      simp only [Option.bind_some] at h
      cases hr : apF m v with
      | none => rw [hr] at h; cases h
      | some r' =>
        rw [hr] at h
        cases h
        rw [List.length_cons, List.length_cons, apF_len m v r' hr]
theorem apM_len {m : List (List DQ)} {v r : List DQ} (h : apM m v = some r) : r.length = m.length := by
  unfold apM at h
  split at h
  · exact apF_len _ _ _ h
  · cases h
theorem adM_len {u v r : List DQ} (h : adM u v = some r) : r.length = u.length := by
  unfold adM at h
  split at h
  · exact mpO_len _ _ _ _ h
  · cases h
theorem adM_nil (v : List DQ) : adM v [] = none := by
  unfold adM
  rw [if_neg]
  rintro ⟨⟨_, h⟩, _⟩
  exact absurd h (by decide)
theorem s_pmX (p : Q4) : s_PauliMatrix p.1 p.2.1 p.2.2.1 p.2.2.2 = some (pmX p) := by
  unfold pmX
  cases hv : vP p with
  | true => rw [if_pos rfl]; exact s_pm (n := p.1) (x := p.2.1) (z := p.2.2.1) (p := p.2.2.2) hv
  | false => rw [if_neg (by simp)]; exact s_pm_no (n := p.1) (x := p.2.1) (z := p.2.2.1) (p := p.2.2.2) hv
end Go.Proofs.Ytoleoojcodlciaa
