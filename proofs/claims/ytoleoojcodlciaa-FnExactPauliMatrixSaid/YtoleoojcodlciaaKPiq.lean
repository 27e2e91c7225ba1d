/- Plain laws: sums and multiples of states, projections, stabilized states: the program's side. -/
import Derived.Test.YtoleoojcodlciaaKPvx
import Derived.Test.YtoleoojcodlciaaKPzq
namespace Go.Proofs.Ytoleoojcodlciaa
open Go.RowKit
set_option maxRecDepth 100000
set_option linter.unusedVariables false
set_option linter.unusedSimpArgs false
theorem i_pmX (p : Q4) : i_PauliMatrix p.1 p.2.1 p.2.2.1 p.2.2.2 = some (pmX p) := by
  unfold pmX
  cases hv : vP p with
  | true => rw [if_pos rfl]; exact i_pm (n := p.1) (x := p.2.1) (z := p.2.2.1) (p := p.2.2.2) hv
  | false => rw [if_neg (by simp)]; exact i_pm_no (n := p.1) (x := p.2.1) (z := p.2.2.1) (p := p.2.2.2) hv
theorem scM_len {v r : List DQ} {z : DQ} (h : scM v z = some r) : r.length = v.length := by
  unfold scM at h
  split at h
  · exact mpO_len _ _ _ _ h
  · cases h
theorem prM_len {p : Q4} {v r : List DQ} (h : prM p v = some r) : r.length = v.length := by
  unfold prM at h
  cases ha : apM (pmX p) v with
  | none => rw [ha] at h; cases h
  | some w =>
    rw [ha] at h
    simp only [Option.bind_some] at h
    cases hs : adM v w with
    | none => rw [hs] at h; cases h
    | some s =>
      rw [hs] at h
      exact (scM_len h).trans (adM_len hs)
end Go.Proofs.Ytoleoojcodlciaa
