/- Plain law and its bridge: PressedRun. -/
import Derived.Test.YtbkkfmcjfbbkaaaMLpr
import Derived.Test.YtbkkfmcjfbbkaaaPst
import Derived.Test.YtbkkfmcjfbbkaaaPdr
import Derived.Test.YtbkkfmcjfbbkaaaPsg
import Derived.Test.YtbkkfmcjfbbkaaaBy
namespace Go.Proofs.Ytbkkfmcjfbbkaaa
open Go.RowKit
set_option maxRecDepth 100000
set_option linter.unusedVariables false
set_option linter.unusedSimpArgs false
theorem dsr_ok {code : List Int} (h : code.length ≤ 1048576) : Ok (s_DrawShortenRun code) (fun r => r.length ≤ 20) := by
  unfold s_DrawShortenRun
  refine (new_ok h).bO fun c hc => (drun_ok (most := 10) hc (by omega)).bO fun g hg => (pick_ok hg.2 (by simp)).bO fun p hp => ?_
  have hl := hg.1.2
  have key : ∀ (m i : Nat) (v : List Q4), v.length = g.1.length → i ≤ v.length → v.length - i < m → Ok (s_DrawShortenRun_l1 p m i v) (fun r => r.length ≤ 20) := by
    intro m
    induction m with
    | zero => intro i v _ _ h; omega
    | succ m ih =>
      intro i v hv hi hm
      rw [s_DrawShortenRun_l1]
      refine Ok.br (fun e => ?_) (fun e => ?_)
      · have e := of_decide_eq_true e
        have hil : i < v.length := by omega
        rw [geti_lt hil, bO_some, w64s (n := v.length) hil (by omega)]
        exact ih (i + 1) _ (by simpa using hv) (by simp; omega) (by simp; omega)
      · unfold s_DrawShortenRun_j1
        refine (once_ok hp.2).bO fun o ho => Ok.br (fun _ => (gbent_ok (n := 3) ho (by omega)).bO fun q hq => Ok.gd (decide_eq_true (by simp; omega)) (Ok.some (by simp; omega))) (fun _ => Ok.some (by omega))
  exact key FU 0 g.1 rfl (by omega) (by rw [FU_eq]; omega)
theorem law_PressedRun (code : List Int) : l_FnPressedRun code = some true := by
  unfold l_FnPressedRun
  rw [big_eq, bO_some]
  by_cases hb : 1048576 < (code.length : Int)
  · simp only [hb, decide_true, br_true]
  simp only [hb, decide_false, br_false]
  obtain ⟨g, e2, hx2⟩ := dsr_ok (code := code) (by omega)
  rw [e2, bO_some]
  have hl := sr_len (g := g) (by omega)
  obtain ⟨i1, i2⟩ := sr_idem (g := g) (by omega)
  have hd : decide (rcF (srF g) ≤ rcF g) = true := decide_eq_true i2
  simp only [i_sr g (by omega), s_sr g (by omega), bO_some, same_self (srF g) (by omega), Bool.not_true, br_false, i_sr (srF g) (by omega), i1, br_true, i_rc (srF g) (by omega), i_rc g (by omega), hd, l_FnPressedRun_j1]
theorem law_pr (A : Option Addr) (n c : Nat) (l : List Int) (w : World) (wa : IsBytesC w A n c l) :
    Calls Try.prog 5 #[.slice A n c] w fun e w' => e = .returned (.bool true) ∧ Below w.heap.size w w' :=
  spec_calls (l_FnPressedRun_ok (law_PressedRun l)) rfl (args1 (.plain (pv_bytes wa)))
end Go.Proofs.Ytbkkfmcjfbbkaaa
