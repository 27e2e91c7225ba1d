/- Joined texts: Pdr Pdn. -/
import Derived.Test.YtbkkfmcjfbbkaaaGreatK4
import Derived.Test.YtbkkfmcjfbbkaaaGreatKPnb
import Derived.Test.YtbkkfmcjfbbkaaaGreatK12
/- Plain laws: drawn runs. -/
namespace Go.Proofs.YtbkkfmcjfbbkaaaGreat
open Go.RowKit
set_option maxRecDepth 100000
set_option linter.unusedVariables false
set_option linter.unusedSimpArgs false
theorem pick_g1 {k : Int} (h : k ∈ [(1 : Int), 2, 3, 4, 5, 6, 7, 8, 4, 7, 4, 7]) : G1 (k, 0, 0, 0) := by
  have e : ∀ k ∈ [(1 : Int), 2, 3, 4, 5, 6, 7, 8, 4, 7, 4, 7], ivg k 0 0 0 1 = true := by decide
  exact e k h
theorem drun_ok {b : List Int} {i h most : Int} (hc : CurP (b, i, h)) (hm : 0 ≤ most ∧ most ≤ 60) : Ok (s_l30Run b i h most) (fun r => ((∀ g ∈ r.1, G1 g) ∧ (r.1.length : Int) ≤ most) ∧ CurP r.2) := by
  unfold s_l30Run
  refine (below_ok hc).bO fun x hx => ?_
  have hw : IntKind.wrap .i64 (most + 1) = most + 1 := w64 (by omega) (by omega)
  rw [hw] at hx
  have hx1 := hx.1.2.1 (by omega)
  have key : ∀ (m : Nat) (k : Nat) (b : List Int) (i h : Int) (gs : List Q4), (k : Int) ≤ x.1 → x.1 - k < m → gs.length = k → CurP (b, i, h) → (∀ g ∈ gs, G1 g) →
      Ok (s_l30Run_l1 x m b i h k gs) (fun r => ((∀ g ∈ r.1, G1 g) ∧ (r.1.length : Int) ≤ most) ∧ CurP r.2) := by
    intro m
    induction m with
    | zero => intro k b i h gs h1 h2; omega
    | succ m ih =>
      intro k b i h gs h1 h2 h3 hc hg
      rw [s_l30Run_l1]
      refine Ok.br (fun e => ?_) (fun e => Ok.some ⟨⟨hg, by show (gs.length : Int) ≤ most; omega⟩, hc⟩)
      have e := of_decide_eq_true e
      refine (pick_ok hc (by simp)).bO fun g hg1 => ?_
      rw [show s_l14One g.1 0 = some (g.1, 0, 0, 0) from rfl, bO_some]
      refine Ok.gd (decide_eq_true (by simp; omega)) ?_
      rw [w64 (by omega) (by omega), show (k : Int) + 1 = ((k + 1 : Nat) : Int) by omega]
      refine ih (k + 1) _ _ _ _ (by omega) (by omega) (by simp; omega) hg1.2 (fun y hy => ?_)
      rcases List.mem_append.1 hy with hy | hy
      · exact hg y hy
      · simp only [List.mem_cons, List.not_mem_nil, or_false] at hy
        subst hy
        exact pick_g1 hg1.1
  exact key FU 0 _ _ _ [] (by omega) (by rw [FU_eq]; omega) rfl hx.2 (by simp)
end Go.Proofs.YtbkkfmcjfbbkaaaGreat
/- Plain laws: drawn normal forms. -/
namespace Go.Proofs.YtbkkfmcjfbbkaaaGreat
open Go.RowKit
set_option maxRecDepth 100000
set_option linter.unusedVariables false
set_option linter.unusedSimpArgs false
theorem tB_len8 {N : Int} {l : List Q4} (ht : tB N l = true) : l.length ≤ 8 := by
  obtain ⟨h1, h2⟩ := tB_len ht
  omega
theorem dnf_ok {b : List Int} {i h : Int} (hc : CurP (b, i, h)) : Ok (s_l30Bent b i h) (fun r => (r.2.1.length ≤ 8 ∧ r.2.2.1.length ≤ 20) ∧ CurP r.2.2.2) := by
  unfold s_l30Bent
  refine (drun_ok (most := 10) hc (by omega)).bO fun g hg => ?_
  obtain ⟨c1, _, c3, c4, c5⟩ := cnf_ok (g := g.1) (by have := hg.1.2; omega) hg.1.1
  have hl := hg.1.2
  have h8 := tB_len8 c4
  rw [c1, bO_some]
  refine (below_ok hg.2).bO fun x hx => ?_
  refine Ok.br (fun _ => (below_ok hx.2).bO fun y hy => Ok.gd (decide_eq_true (by simp; omega)) (Ok.some ⟨⟨h8, by simp; omega⟩, hy.2⟩)) (fun _ => Ok.br (fun _ => (dbent_ok hx.2).bO fun t ht => Ok.some ⟨⟨ht.1, by show (fo g.1 S0).1.length ≤ 20; omega⟩, ht.2⟩) (fun _ => Ok.some ⟨⟨h8, by show (fo g.1 S0).1.length ≤ 20; omega⟩, hx.2⟩))
end Go.Proofs.YtbkkfmcjfbbkaaaGreat
