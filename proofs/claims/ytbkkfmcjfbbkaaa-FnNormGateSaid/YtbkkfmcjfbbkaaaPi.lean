/- Plain laws: drawn circuits and tableaux. -/
import Derived.Test.YtbkkfmcjfbbkaaaPr
import Derived.Test.YtbkkfmcjfbbkaaaPh
namespace Go.Proofs.Ytbkkfmcjfbbkaaa
open Go.RowKit
set_option maxRecDepth 100000
set_option linter.unusedVariables false
set_option linter.unusedSimpArgs false
/-- A gate's map, for any gate. -/
def GateOk (N : Int) (g : Q4) : Prop := clif g.1 = true ∧ ivg g.1 g.2.1 g.2.2.1 g.2.2.2 N = true
theorem len_map (f : Q4 → Q4) (l : List Q4) : (l.map f).length = l.length := List.length_map ..
def runG {N : Int} (h : 1 ≤ N ∧ N ≤ 4) : List Q4 → List Q4 → List Q4
  | [], l => l
  | g :: gs, l => runG h gs (l.map (gmap h g.1 g.2.1 g.2.2.1))
theorem runG_app {N : Int} (h : 1 ≤ N ∧ N ≤ 4) : ∀ (g r l : List Q4), runG h (g ++ r) l = runG h r (runG h g l)
  | [], r, l => rfl
  | g :: gs, r, l => runG_app h gs r _
theorem runG_tB {N : Int} (h : 1 ≤ N ∧ N ≤ 4) : ∀ (gs l : List Q4), (∀ g ∈ gs, GateOk N g) → tB N l = true → tB N (runG h gs l) = true
  | [], l, _, ht => ht
  | g :: gs, l, hg, ht => runG_tB h gs _ (fun x hx => hg x (by simp [hx])) (gmap_tB h (hg g (by simp)).1 (hg g (by simp)).2 ht)
theorem runG_len {N : Int} (h : 1 ≤ N ∧ N ≤ 4) : ∀ (gs l : List Q4), (runG h gs l).length = l.length
  | [], l => rfl
  | g :: gs, l => by rw [runG, runG_len h gs]; exact len_map _ _
theorem circ_run {N : Int} (h : 1 ≤ N ∧ N ≤ 4) (gs : List Q4) (hlen : gs.length ≤ 1048576) (hg : ∀ g ∈ gs, GateOk N g) : ∀ (m j : Nat) (l : List Q4), j ≤ gs.length → gs.length - j < m → tB N l = true → l.length ≤ 1048576 →
    s_CircuitTableau_l1 gs m j N l = some (N, runG h (gs.drop j) l, true)
  | 0, j, l, _, hm, _, _ => by omega
  | m + 1, j, l, hj, hm, ht, hl => by
    rw [s_CircuitTableau_l1]
    by_cases e : j = gs.length
    · have hlt : ¬ (j : Int) < (gs.length : Int) := by omega
      simp only [hlt, decide_false, br_false, s_CircuitTableau_j1]
      rw [e, List.drop_length]; rfl
    · have hjl : j < gs.length := by omega
      have hlt : (j : Int) < (gs.length : Int) := by omega
      have ho := hg _ (List.getElem_mem hjl)
      simp only [hlt, decide_true, br_true, geti_lt hjl, bO_some, tg_ok hl h ho.1 ho.2 ht, Bool.not_true, br_false, w64s hjl (by omega : gs.length ≤ 4194304)]
      rw [circ_run h gs hlen hg m (j + 1) _ (by omega) (by omega) (gmap_tB h ho.1 ho.2 ht) (by rw [len_map]; exact hl), List.drop_eq_getElem_cons hjl]
      rfl
theorem vC_of {N : Int} {gs : List Q4} (h : 1 ≤ N ∧ N ≤ 4) (hlen : gs.length ≤ 60) (hg : ∀ g ∈ gs, GateOk N g) : vC N gs = true := by
  unfold vC
  have e1 : decide (1 ≤ N ∧ N ≤ 4) = true := decide_eq_true h
  have e2 : decide ((gs.length : Int) ≤ 60) = true := decide_eq_true (by omega)
  rw [e1, e2, Bool.and_self, Bool.and_true, List.all_eq_true]
  intro k hk
  have hk := List.mem_range.1 hk
  rw [gvB_eq (List.getElem?_eq_getElem hk)]
  exact (hg _ (List.getElem_mem hk)).2
theorem circ_ok {N : Int} (h : 1 ≤ N ∧ N ≤ 4) (gs : List Q4) (hlen : gs.length ≤ 60) (hg : ∀ g ∈ gs, GateOk N g) : s_CircuitTableau N gs = some (N, runG h gs (idT N), true) := by
  unfold s_CircuitTableau
  obtain ⟨i1, i2, i3, i4⟩ := id_ok h
  rw [s_circ N gs (by omega), vC_of h hlen hg, bO_some]
  simp only [Bool.not_true, br_false, i1, bO_some]
  exact circ_run h gs (by omega) hg FU 0 (idT N) (by omega) (by rw [FU_eq]; omega) i3 (by omega)
theorem tB_len {N : Int} {l : List Q4} (ht : tB N l = true) : (1 ≤ N ∧ N ≤ 4) ∧ (l.length : Int) = 2 * N := ⟨(tB_inv2 ht).1, (tB_inv2 ht).2.1⟩
end Go.Proofs.Ytbkkfmcjfbbkaaa
