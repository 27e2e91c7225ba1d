/- Plain laws: drawn circuits and tableaux. -/
import Derived.Test.YtbkkfmcjfbbkaaaMkt
import Derived.Test.YtbkkfmcjfbbkaaaPd
import Derived.Test.YtbkkfmcjfbbkaaaPi
namespace Go.Proofs.Ytbkkfmcjfbbkaaa
open Go.RowKit
set_option maxRecDepth 100000
set_option linter.unusedVariables false
set_option linter.unusedSimpArgs false
/-- What is drawn. -/
theorem dcirc_ok {b : List Int} {i h most : Int} {n : Nat} (hc : CurP (b, i, h)) (hn : 1 ≤ n ∧ n ≤ 4) (hm : 0 ≤ most ∧ most ≤ 60) : Ok (s_l26Circ b i h n most) (fun r => (r.1 = n ∧ (∀ g ∈ r.2.1, GateOk n g) ∧ (r.2.1.length : Int) ≤ most) ∧ CurP r.2.2) := by
  unfold s_l26Circ
  refine (below_ok hc).bO fun x hx => ?_
  have hw : IntKind.wrap .i64 (most + 1) = most + 1 := w64 (by omega) (by omega)
  rw [hw] at hx
  have hx1 := hx.1.2.1 (by omega)
  have key : ∀ (m : Nat) (k : Nat) (b : List Int) (i h : Int) (gs : List Q4), (k : Int) ≤ x.1 → x.1 - k < m → gs.length = k → CurP (b, i, h) → (∀ g ∈ gs, GateOk n g) →
      Ok (s_l26Circ_l1 n x m b i h k gs) (fun r => (r.1 = n ∧ (∀ g ∈ r.2.1, GateOk n g) ∧ (r.2.1.length : Int) ≤ most) ∧ CurP r.2.2) := by
    intro m
    induction m with
    | zero => intro k b i h gs h1 h2; omega
    | succ m ih =>
      intro k b i h gs h1 h2 h3 hc hg
      rw [s_l26Circ_l1]
      refine Ok.br (fun e => ?_) (fun e => Ok.some ⟨⟨rfl, hg, by show (gs.length : Int) ≤ most; omega⟩, hc⟩)
      have e := of_decide_eq_true e
      refine (cliff_ok hc hn).bO fun g hg1 => Ok.gd (decide_eq_true (by simp; omega)) ?_
      rw [w64 (by omega) (by omega), show (k : Int) + 1 = ((k + 1 : Nat) : Int) by omega]
      refine ih (k + 1) _ _ _ _ (by omega) (by omega) (by simp; omega) hg1.2 (fun y hy => ?_)
      rcases List.mem_append.1 hy with hy | hy
      · exact hg y hy
      · simp only [List.mem_cons, List.not_mem_nil, or_false] at hy
        subst hy
        exact hg1.1
  exact key FU 0 _ _ _ [] (by omega) (by rw [FU_eq]; omega) rfl hx.2 (by simp)
theorem dtab_ok {b : List Int} {i h : Int} (hc : CurP (b, i, h)) : Ok (s_l26Tab b i h) (fun r => ((1 ≤ r.1 ∧ r.1 ≤ 4) ∧ tB r.1 r.2.1 = true) ∧ CurP r.2.2) := by
  unfold s_l26Tab
  refine (below_ok hc).bO fun x hx => ?_
  have hb := hx.1.2.1 (by omega)
  obtain ⟨n, hn, hn1⟩ := nat_of (n := IntKind.wrap .i64 (1 + x.1)) (by rw [w64 (by omega) (by omega)]; omega)
  rw [hn]
  refine (dcirc_ok hx.2 hn1 (by omega)).bO fun g hg => ?_
  obtain ⟨⟨g1, g2, g3⟩, g4⟩ := hg
  have hN : 1 ≤ (n : Int) ∧ (n : Int) ≤ 4 := by omega
  rw [g1, circ_ok hN g.2.1 (by omega) g2, bO_some]
  exact Ok.some ⟨⟨hN, runG_tB hN _ _ g2 (id_ok hN).2.2.1⟩, g4⟩
theorem dbent_ok {b : List Int} {i h : Int} (hc : CurP (b, i, h)) : Ok (s_l26Bent b i h) (fun r => r.2.1.length ≤ 8 ∧ CurP r.2.2) := by
  unfold s_l26Bent
  refine (dtab_ok hc).bO fun t ht => ?_
  obtain ⟨⟨hN, htB⟩, htc⟩ := ht
  obtain ⟨_, hlen⟩ := tB_len htB
  have h8 : t.2.1.length ≤ 8 := by omega
  refine (below_ok htc).bO fun x hx => ?_
  refine Ok.br (fun _ => (pick_ok hx.2 (by simp)).bO fun q hq => Ok.some ⟨h8, hq.2⟩) (fun _ => Ok.br (fun _ => ?_) (fun _ => Ok.br (fun _ => ?_) (fun _ => Ok.br (fun _ => ?_) (fun _ => Ok.some ⟨h8, hx.2⟩))))
  · refine (below_ok hx.2).bO fun y hy => (bent_ok hy.2).bO fun p hp => ?_
    have := hy.1.2.1 (by omega)
    refine (geti_ok ⟨hy.1.1, this⟩).bO fun q hq => Ok.some ⟨by simpa using h8, hp⟩
  · refine (below_ok hx.2).bO fun y hy => ?_
    have := hy.1.2.1 (by omega)
    obtain ⟨k, hk⟩ : ∃ k : Nat, y.1 = (k : Int) := ⟨y.1.toNat, by have := hy.1.1; omega⟩
    rw [hk, slc_pre (by omega), bO_some]
    exact Ok.some ⟨by simp; omega, hy.2⟩
  · refine (geti_ok (l := t.2.1) (i := 0) ⟨by omega, by omega⟩).bO fun q hq => Ok.some ⟨by simpa using h8, hx.2⟩
end Go.Proofs.Ytbkkfmcjfbbkaaa
