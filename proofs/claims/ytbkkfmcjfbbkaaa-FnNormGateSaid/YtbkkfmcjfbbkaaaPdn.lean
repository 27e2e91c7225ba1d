/- Plain laws: drawn normal forms. -/
import Derived.Test.YtbkkfmcjfbbkaaaMdn
import Derived.Test.YtbkkfmcjfbbkaaaPdr
import Derived.Test.YtbkkfmcjfbbkaaaPid
namespace Go.Proofs.Ytbkkfmcjfbbkaaa
open Go.RowKit
set_option maxRecDepth 100000
set_option linter.unusedVariables false
set_option linter.unusedSimpArgs false
theorem tB_len8 {N : Int} {l : List Q4} (ht : tB N l = true) : l.length ≤ 8 := by
  obtain ⟨h1, h2⟩ := tB_len ht
  omega
theorem dnf_ok {b : List Int} {i h : Int} (hc : CurP (b, i, h)) : Ok (s_l30Bent b i h) (fun r => (r.2.1.length ≤ 8 ∧ r.2.2.1.length ≤ 20) ∧ CurP r.2.2.2) := by
  unfold s_l30Bent
  refine (drun_ok (most := 10) hc (by omega)).bO fun g hg => ?_
  obtain ⟨c1, _, c3, c4, c5⟩ := cnf_ok (g := g.1) (by have := hg.1.2; omega) hg.1.1
  have hl := hg.1.2
  have h8 := tB_len8 c4
  rw [c1, bO_some]
  refine (below_ok hg.2).bO fun x hx => ?_
  refine Ok.br (fun _ => (below_ok hx.2).bO fun y hy => Ok.gd (decide_eq_true (by simp; omega)) (Ok.some ⟨⟨h8, by simp; omega⟩, hy.2⟩)) (fun _ => Ok.br (fun _ => (dbent_ok hx.2).bO fun t ht => Ok.some ⟨⟨ht.1, by show (fo g.1 S0).1.length ≤ 20; omega⟩, ht.2⟩) (fun _ => Ok.some ⟨⟨h8, by show (fo g.1 S0).1.length ≤ 20; omega⟩, hx.2⟩))
end Go.Proofs.Ytbkkfmcjfbbkaaa
