/- Plain laws: drawn circuits and tableaux. -/
import Derived.Test.YtfpfalknddfejaaMkt
import Derived.Test.YtfpfalknddfejaaPr
import Derived.Test.YtfpfalknddfejaaPh
namespace Go.Proofs.Ytfpfalknddfejaa
open Go.RowKit
set_option maxRecDepth 100000
set_option linter.unusedVariables false
set_option linter.unusedSimpArgs false
/-- A gate's map, for any gate. -/
def GateOk (N : Int) (g : Q4) : Prop := clif g.1 = true ∧ ivg g.1 g.2.1 g.2.2.1 g.2.2.2 N = true
theorem len_map (f : Q4 → Q4) (l : List Q4) : (l.map f).length = l.length := List.length_map ..
def runG {N : Int} (h : 1 ≤ N ∧ N ≤ 4) : List Q4 → List Q4 → List Q4
  | [], l => l
  | g :: gs, l => runG h gs (l.map (gmap h g.1 g.2.1 g.2.2.1))
theorem runG_app {N : Int} (h : 1 ≤ N ∧ N ≤ 4) : ∀ (g r l : List Q4), runG h (g ++ r) l = runG h r (runG h g l)
  | [], r, l => rfl
  | g :: gs, r, l => runG_app h gs r _
theorem runG_tB {N : Int} (h : 1 ≤ N ∧ N ≤ 4) : ∀ (gs l : List Q4), (∀ g ∈ gs, GateOk N g) → tB N l = true → tB N (runG h gs l) = true
  | [], l, _, ht => ht
  | g :: gs, l, hg, ht => runG_tB h gs _ (fun x hx => hg x (by simp [hx])) (gmap_tB h (hg g (by simp)).1 (hg g (by simp)).2 ht)
theorem runG_len {N : Int} (h : 1 ≤ N ∧ N ≤ 4) : ∀ (gs l : List Q4), (runG h gs l).length = l.length
  | [], l => rfl
  | g :: gs, l => by rw [runG, runG_len h gs]; exact len_map _ _
theorem circ_run {N : Int} (h : 1 ≤ N ∧ N ≤ 4) (gs : List Q4) (hlen : gs.length ≤ 1048576) (hg : ∀ g ∈ gs, GateOk N g) : ∀ (m j : Nat) (l : List Q4), j ≤ gs.length → gs.length - j < m → tB N l = true → l.length ≤ 1048576 →
    s_CircuitTableau_l1 gs m j N l = some (N, runG h (gs.drop j) l, true)
  | 0, j, l, _, hm, _, _ => by omega
  | m + 1, j, l, hj, hm, ht, hl => by
    rw [s_CircuitTableau_l1]
    by_cases e : j = gs.length
    · have hlt : ¬ (j : Int) < (gs.length : Int) := by omega
      simp only [hlt, decide_false, br_false, s_CircuitTableau_j1]
      rw [e, List.drop_length]; rfl
    · have hjl : j < gs.length := by omega
      have hlt : (j : Int) < (gs.length : Int) := by omega
      have ho := hg _ (List.getElem_mem hjl)
      simp only [hlt, decide_true, br_true, geti_lt hjl, bO_some, tg_ok hl h ho.1 ho.2 ht, Bool.not_true, br_false, w64s hjl (by omega : gs.length ≤ 4194304)]
      rw [circ_run h gs hlen hg m (j + 1) _ (by omega) (by omega) (gmap_tB h ho.1 ho.2 ht) (by rw [len_map]; exact hl), List.drop_eq_getElem_cons hjl]
      rfl
theorem vC_of {N : Int} {gs : List Q4} (h : 1 ≤ N ∧ N ≤ 4) (hlen : gs.length ≤ 60) (hg : ∀ g ∈ gs, GateOk N g) : vC N gs = true := by
  unfold vC
  have e1 : decide (1 ≤ N ∧ N ≤ 4) = true := decide_eq_true h
  have e2 : decide ((gs.length : Int) ≤ 60) = true := decide_eq_true (by omega)
  rw [e1, e2, Bool.and_self, Bool.and_true, List.all_eq_true]
  intro k hk
  have hk := List.mem_range.1 hk
  rw [gvB_eq (List.getElem?_eq_getElem hk)]
  exact (hg _ (List.getElem_mem hk)).2
theorem circ_ok {N : Int} (h : 1 ≤ N ∧ N ≤ 4) (gs : List Q4) (hlen : gs.length ≤ 60) (hg : ∀ g ∈ gs, GateOk N g) : s_CircuitTableau N gs = some (N, runG h gs (idT N), true) := by
  unfold s_CircuitTableau
  obtain ⟨i1, i2, i3, i4⟩ := id_ok h
  rw [s_circ N gs (by omega), vC_of h hlen hg, bO_some]
  simp only [Bool.not_true, br_false, i1, bO_some]
  exact circ_run h gs (by omega) hg FU 0 (idT N) (by omega) (by rw [FU_eq]; omega) i3 (by omega)
/-- What is drawn. -/
theorem dcirc_ok {b : List Int} {i h most : Int} {n : Nat} (hc : CurP (b, i, h)) (hn : 1 ≤ n ∧ n ≤ 4) (hm : 0 ≤ most ∧ most ≤ 60) : Ok (s_l26Circ b i h n most) (fun r => (r.1 = n ∧ (∀ g ∈ r.2.1, GateOk n g) ∧ (r.2.1.length : Int) ≤ most) ∧ CurP r.2.2) := by
  unfold s_l26Circ
  refine (below_ok hc).bO fun x hx => ?_
  have hw : IntKind.wrap .i64 (most + 1) = most + 1 := w64 (by omega) (by omega)
  rw [hw] at hx
  have hx1 := hx.1.2.1 (by omega)
  have key : ∀ (m : Nat) (k : Nat) (b : List Int) (i h : Int) (gs : List Q4), (k : Int) ≤ x.1 → x.1 - k < m → gs.length = k → CurP (b, i, h) → (∀ g ∈ gs, GateOk n g) →
      Ok (s_l26Circ_l1 n x m b i h k gs) (fun r => (r.1 = n ∧ (∀ g ∈ r.2.1, GateOk n g) ∧ (r.2.1.length : Int) ≤ most) ∧ CurP r.2.2) := by
    intro m
    induction m with
    | zero => intro k b i h gs h1 h2; omega
    | succ m ih =>
      intro k b i h gs h1 h2 h3 hc hg
      rw [s_l26Circ_l1]
      refine Ok.br (fun e => ?_) (fun e => Ok.some ⟨⟨rfl, hg, by show (gs.length : Int) ≤ most; omega⟩, hc⟩)
      have e := of_decide_eq_true e
      refine (cliff_ok hc hn).bO fun g hg1 => Ok.gd (decide_eq_true (by simp; omega)) ?_
      rw [w64 (by omega) (by omega), show (k : Int) + 1 = ((k + 1 : Nat) : Int) by omega]
      refine ih (k + 1) _ _ _ _ (by omega) (by omega) (by simp; omega) hg1.2 (fun y hy => ?_)
      rcases List.mem_append.1 hy with hy | hy
      · exact hg y hy
      · simp only [List.mem_cons, List.not_mem_nil, or_false] at hy
        subst hy
        exact hg1.1
  exact key FU 0 _ _ _ [] (by omega) (by rw [FU_eq]; omega) rfl hx.2 (by simp)
theorem dtab_ok {b : List Int} {i h : Int} (hc : CurP (b, i, h)) : Ok (s_l26Tab b i h) (fun r => ((1 ≤ r.1 ∧ r.1 ≤ 4) ∧ tB r.1 r.2.1 = true) ∧ CurP r.2.2) := by
  unfold s_l26Tab
  refine (below_ok hc).bO fun x hx => ?_
  have hb := hx.1.2.1 (by omega)
  obtain ⟨n, hn, hn1⟩ := nat_of (n := IntKind.wrap .i64 (1 + x.1)) (by rw [w64 (by omega) (by omega)]; omega)
  rw [hn]
  refine (dcirc_ok hx.2 hn1 (by omega)).bO fun g hg => ?_
  obtain ⟨⟨g1, g2, g3⟩, g4⟩ := hg
  have hN : 1 ≤ (n : Int) ∧ (n : Int) ≤ 4 := by omega
  rw [g1, circ_ok hN g.2.1 (by omega) g2, bO_some]
  exact Ok.some ⟨⟨hN, runG_tB hN _ _ g2 (id_ok hN).2.2.1⟩, g4⟩
theorem tB_len {N : Int} {l : List Q4} (ht : tB N l = true) : (1 ≤ N ∧ N ≤ 4) ∧ (l.length : Int) = 2 * N := ⟨(tB_inv2 ht).1, (tB_inv2 ht).2.1⟩
theorem dbent_ok {b : List Int} {i h : Int} (hc : CurP (b, i, h)) : Ok (s_l26Bent b i h) (fun r => r.2.1.length ≤ 8 ∧ CurP r.2.2) := by
  unfold s_l26Bent
  refine (dtab_ok hc).bO fun t ht => ?_
  obtain ⟨⟨hN, htB⟩, htc⟩ := ht
  obtain ⟨_, hlen⟩ := tB_len htB
  have h8 : t.2.1.length ≤ 8 := by omega
  refine (below_ok htc).bO fun x hx => ?_
  refine Ok.br (fun _ => (pick_ok hx.2 (by simp)).bO fun q hq => Ok.some ⟨h8, hq.2⟩) (fun _ => Ok.br (fun _ => ?_) (fun _ => Ok.br (fun _ => ?_) (fun _ => Ok.br (fun _ => ?_) (fun _ => Ok.some ⟨h8, hx.2⟩))))
  · refine (below_ok hx.2).bO fun y hy => (bent_ok hy.2).bO fun p hp => ?_
    have := hy.1.2.1 (by omega)
    refine (geti_ok ⟨hy.1.1, this⟩).bO fun q hq => Ok.some ⟨by simpa using h8, hp⟩
  · refine (below_ok hx.2).bO fun y hy => ?_
    have := hy.1.2.1 (by omega)
    obtain ⟨k, hk⟩ : ∃ k : Nat, y.1 = (k : Int) := ⟨y.1.toNat, by have := hy.1.1; omega⟩
    rw [hk, slc_pre (by omega), bO_some]
    exact Ok.some ⟨by simp; omega, hy.2⟩
  · refine (geti_ok (l := t.2.1) (i := 0) ⟨by omega, by omega⟩).bO fun q hq => Ok.some ⟨by simpa using h8, hx.2⟩
end Go.Proofs.Ytfpfalknddfejaa
