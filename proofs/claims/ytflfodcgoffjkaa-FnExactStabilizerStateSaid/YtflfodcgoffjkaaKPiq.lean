/- Plain laws: sums and multiples of states, projections, stabilized states: the program's side. -/
import Derived.Test.YtflfodcgoffjkaaKPvx
import Derived.Test.YtflfodcgoffjkaaKPzq
namespace Go.Proofs.Ytflfodcgoffjkaa
open Go.RowKit
set_option maxRecDepth 100000
set_option linter.unusedVariables false
set_option linter.unusedSimpArgs false
theorem i_adM (u v : List DQ) (hu : u.length ≤ 1048576) (hv : v.length ≤ 1048576) : i_AddStates u v = some (resl (adM u v)) := by
  unfold i_AddStates adM
  rw [i_st u (by omega), bO_some]
  cases hsu : stB u with
  | false => rfl
  | true =>
    rw [i_st v (by omega), bO_some]
    cases hsv : stB v with
    | false => rfl
    | true =>
      simp only [Bool.not_true, br_false, bO_some, true_and]
      by_cases hl : u.length = v.length
      · have hne : (((u.length : Int)) != ((v.length : Int))) = false := by simp [hl]
        rw [hne]
        unfold i_AddStates_j1
        rw [br_false, if_pos hl]
        refine row_loop (fun m k acc => i_AddStates_l1 u v m (u.length : Int) k acc) (adK u v) u.length (by omega) (fun m k acc hk ha => ?_) (fun m acc ha => ?_)
        · have hlt : decide ((k : Int) < (u.length : Int)) = true := decide_eq_true (by omega)
          show i_AddStates_l1 u v (m + 1) (u.length : Int) (k : Int) acc = _
          rw [i_AddStates_l1, hlt, br_true, gD hk, bO_some, gD (v := v) (by omega), bO_some, i_add, bO_some]
          unfold adK
          split
          · cases addF (u[k]?.getD d0) (v[k]?.getD d0) with
            | none => rfl
            | some z =>
              simp only [res, Bool.not_true, br_false]
              rw [decide_eq_true (by simp; omega), gd_true, w64s hk (by omega)]
          · rfl
        · have hlt : decide ((u.length : Int) < (u.length : Int)) = false := decide_eq_false (by omega)
          show i_AddStates_l1 u v (m + 1) (u.length : Int) (u.length : Int) acc = _
          rw [i_AddStates_l1, hlt, br_false]
          rfl
      · have hne : (((u.length : Int)) != ((v.length : Int))) = true := by rw [bne_iff_ne]; omega
        rw [hne, if_neg hl]
        rfl
theorem i_scM (v : List DQ) (z : DQ) (hv : v.length ≤ 1048576) : i_ScaleState v z.1 z.2.1 z.2.2.1 z.2.2.2.1 z.2.2.2.2 = some (resl (scM v z)) := by
  unfold i_ScaleState scM
  rw [i_st v (by omega), bO_some]
  cases hs : stB v with
  | false => rfl
  | true =>
    rw [if_pos rfl]
    simp only [Bool.not_true, br_false]
    refine row_loop (fun m k acc => i_ScaleState_l1 v z.1 z.2.1 z.2.2.1 z.2.2.2.1 z.2.2.2.2 m (v.length : Int) k acc) (scK v z) v.length (by omega) (fun m k acc hk ha => ?_) (fun m acc ha => ?_)
    · have hlt : decide ((k : Int) < (v.length : Int)) = true := decide_eq_true (by omega)
      show i_ScaleState_l1 v z.1 z.2.1 z.2.2.1 z.2.2.2.1 z.2.2.2.2 (m + 1) (v.length : Int) (k : Int) acc = _
      rw [i_ScaleState_l1, hlt, br_true, gD hk, bO_some, i_mul', bO_some]
      unfold scK
      split
      · cases mulF (v[k]?.getD d0) z with
        | none => rfl
        | some y =>
          simp only [res, Bool.not_true, br_false, bO_some]
          rw [decide_eq_true (by simp; omega), gd_true, w64s hk (by omega)]
      · rfl
    · have hlt : decide ((v.length : Int) < (v.length : Int)) = false := decide_eq_false (by omega)
      show i_ScaleState_l1 v z.1 z.2.1 z.2.2.1 z.2.2.2.1 z.2.2.2.2 (m + 1) (v.length : Int) (v.length : Int) acc = _
      rw [i_ScaleState_l1, hlt, br_false]
      rfl
theorem i_is2 : i_InvSqrt2Power 2 = some h2 := by decide +kernel
theorem i_pmX (p : Q4) : i_PauliMatrix p.1 p.2.1 p.2.2.1 p.2.2.2 = some (pmX p) := by
  unfold pmX
  cases hv : vP p with
  | true => rw [if_pos rfl]; exact i_pm (n := p.1) (x := p.2.1) (z := p.2.2.1) (p := p.2.2.2) hv
  | false => rw [if_neg (by simp)]; exact i_pm_no (n := p.1) (x := p.2.1) (z := p.2.2.1) (p := p.2.2.2) hv
theorem scM_len {v r : List DQ} {z : DQ} (h : scM v z = some r) : r.length = v.length := by
  unfold scM at h
  split at h
  · exact mpO_len _ _ _ _ h
  · cases h
theorem prM_len {p : Q4} {v r : List DQ} (h : prM p v = some r) : r.length = v.length := by
  unfold prM at h
  cases ha : apM (pmX p) v with
  | none => rw [ha] at h; cases h
  | some w =>
    rw [ha] at h
    simp only [Option.bind_some] at h
    cases hs : adM v w with
    | none => rw [hs] at h; cases h
    | some s =>
      rw [hs] at h
      exact (scM_len h).trans (adM_len hs)
theorem i_prM (p : Q4) (v : List DQ) (hv : v.length ≤ 1048576) : i_ProjectState p.1 p.2.1 p.2.2.1 p.2.2.2 v = some (resl (prM p v)) := by
  obtain ⟨b1, b2⟩ := pmX_bd p
  unfold i_ProjectState prM
  rw [i_pmX, bO_some, i_apply _ _ (by omega) (fun r hr => by have := b2 r hr; omega) hv, bO_some]
  cases ha : apM (pmX p) v with
  | none => rfl
  | some w =>
    have hw := apM_len ha
    simp only [resl, Option.bind_some, Bool.not_true, br_false]
    rw [i_adM v w hv (by omega), bO_some]
    cases hs : adM v w with
    | none => rfl
    | some s =>
      have hsl := adM_len hs
      simp only [resl, Bool.not_true, br_false, Option.bind_some]
      rw [i_is2, bO_some, i_scM s h2 (by omega), bO_some]
      cases scM s h2 <;> rfl
end Go.Proofs.Ytflfodcgoffjkaa
