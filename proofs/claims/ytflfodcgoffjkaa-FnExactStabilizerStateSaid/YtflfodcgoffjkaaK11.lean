/- Joined texts: Pr Pi. -/
import Derived.Test.YtflfodcgoffjkaaK3
import Derived.Test.YtflfodcgoffjkaaK9
import Derived.Test.YtflfodcgoffjkaaKPh
/- Plain law: CircuitTableau. -/
namespace Go.Proofs.Ytflfodcgoffjkaa
open Go.RowKit
set_option maxRecDepth 100000
set_option linter.unusedVariables false
set_option linter.unusedSimpArgs false
/-- A valid circuit. -/
def gvB (N : Int) (l : List Q4) (k : Nat) : Bool := match l[k]? with
  | some q => ivg q.1 q.2.1 q.2.2.1 q.2.2.2 N
  | none => false
def vC (N : Int) (l : List Q4) : Bool := (List.range l.length).all (gvB N l) && (decide (1 ≤ N ∧ N ≤ 4) && decide ((l.length : Int) ≤ 60))
theorem gvB_eq {N : Int} {l : List Q4} {k : Nat} {q : Q4} (hq : l[k]? = some q) : gvB N l k = ivg q.1 q.2.1 q.2.2.1 q.2.2.2 N := by unfold gvB; rw [hq]
theorem s_circ (N : Int) (l : List Q4) (hl : l.length ≤ 1048576) : s_IsValidCircuit N l = some (vC N l) := by
  unfold s_IsValidCircuit
  rw [loop_all0 (s_IsValidCircuit_l1 N l) l.length (gvB N l) (by omega) (fun m k hk => ?_) (some (decide (1 ≤ N ∧ N ≤ 4) && decide ((l.length : Int) ≤ 60))) (fun m => ?_)]
  · unfold vC
    cases (List.range l.length).all (gvB N l) <;> rfl
  · have hq := List.getElem?_eq_getElem hk
    have hlt : (k : Int) < (l.length : Int) := by omega
    rw [s_IsValidCircuit_l1, geti_nat hq, gvB_eq hq]
    simp only [hlt, decide_true, br_true, bO_some, s_ivg]
    rw [w64s hk (by omega)]
    cases ivg l[k].1 l[k].2.1 l[k].2.2.1 l[k].2.2.2 N <;> simp only [Bool.not_true, Bool.not_false, br_true, br_false]
  · have hlt : ¬ (l.length : Int) < (l.length : Int) := by omega
    rw [s_IsValidCircuit_l1]
    simp only [hlt, decide_false, br_false, s_IsValidCircuit_j1, s_in_eq, bO_some, br_and, s_IsValidCircuit_j2]
/-- The identity's tableau. -/
def idT (N : Int) : List Q4 := match s_IdentityTableau N with | some r => r.2 | none => []
def idOk (n : Nat) : Bool := match s_IdentityTableau (n : Int) with
  | some r => (r.1 == (n : Int) && (tB r.1 r.2 && r.2.length == 2 * n))
  | _ => false
theorem id_fin : ∀ n : Fin 5, (decide (n.val < 1) || idOk n.val) = true := by decide +kernel
theorem id_ok {N : Int} (h : 1 ≤ N ∧ N ≤ 4) : s_IdentityTableau N = some (N, idT N) ∧ True ∧ tB N (idT N) = true ∧ (idT N).length = 2 * N.toNat := by
  obtain ⟨k, rfl⟩ := fin_of' (n := 5) (x := N) (by omega)
  have e := id_fin k
  rw [decide_eq_false (by omega : ¬ k.val < 1), Bool.false_or] at e
  unfold idOk at e
  unfold idT
  split at e
  · rename_i r h2
    rw [h2]
    obtain ⟨r1, r2⟩ := r
    simp only [Bool.and_eq_true, beq_iff_eq] at e
    obtain ⟨h1, h3, h4⟩ := e
    subst h1
    exact ⟨rfl, trivial, h3, by rw [h4]; simp⟩
  · cases e
end Go.Proofs.Ytflfodcgoffjkaa
/- Plain laws: drawn circuits and tableaux. -/
namespace Go.Proofs.Ytflfodcgoffjkaa
open Go.RowKit
set_option maxRecDepth 100000
set_option linter.unusedVariables false
set_option linter.unusedSimpArgs false
/-- A gate's map, for any gate. -/
def GateOk (N : Int) (g : Q4) : Prop := clif g.1 = true ∧ ivg g.1 g.2.1 g.2.2.1 g.2.2.2 N = true
theorem len_map (f : Q4 → Q4) (l : List Q4) : (l.map f).length = l.length := List.length_map ..
def runG {N : Int} (h : 1 ≤ N ∧ N ≤ 4) : List Q4 → List Q4 → List Q4
  | [], l => l
  | g :: gs, l => runG h gs (l.map (gmap h g.1 g.2.1 g.2.2.1))
theorem runG_app {N : Int} (h : 1 ≤ N ∧ N ≤ 4) : ∀ (g r l : List Q4), runG h (g ++ r) l = runG h r (runG h g l)
  | [], r, l => rfl
  | g :: gs, r, l => runG_app h gs r _
theorem runG_tB {N : Int} (h : 1 ≤ N ∧ N ≤ 4) : ∀ (gs l : List Q4), (∀ g ∈ gs, GateOk N g) → tB N l = true → tB N (runG h gs l) = true
  | [], l, _, ht => ht
  | g :: gs, l, hg, ht => runG_tB h gs _ (fun x hx => hg x (by simp [hx])) (gmap_tB h (hg g (by simp)).1 (hg g (by simp)).2 ht)
theorem runG_len {N : Int} (h : 1 ≤ N ∧ N ≤ 4) : ∀ (gs l : List Q4), (runG h gs l).length = l.length
  | [], l => rfl
  | g :: gs, l => by rw [runG, runG_len h gs]; exact len_map _ _
theorem circ_run {N : Int} (h : 1 ≤ N ∧ N ≤ 4) (gs : List Q4) (hlen : gs.length ≤ 1048576) (hg : ∀ g ∈ gs, GateOk N g) : ∀ (m j : Nat) (l : List Q4), j ≤ gs.length → gs.length - j < m → tB N l = true → l.length ≤ 1048576 →
    s_CircuitTableau_l1 gs m j N l = some (N, runG h (gs.drop j) l, true)
  | 0, j, l, _, hm, _, _ => by omega
  | m + 1, j, l, hj, hm, ht, hl => by
    rw [s_CircuitTableau_l1]
    by_cases e : j = gs.length
    · have hlt : ¬ (j : Int) < (gs.length : Int) := by omega
      simp only [hlt, decide_false, br_false, s_CircuitTableau_j1]
      rw [e, List.drop_length]; rfl
    · have hjl : j < gs.length := by omega
      have hlt : (j : Int) < (gs.length : Int) := by omega
      have ho := hg _ (List.getElem_mem hjl)
      simp only [hlt, decide_true, br_true, geti_lt hjl, bO_some, tg_ok hl h ho.1 ho.2 ht, Bool.not_true, br_false, w64s hjl (by omega : gs.length ≤ 4194304)]
      rw [circ_run h gs hlen hg m (j + 1) _ (by omega) (by omega) (gmap_tB h ho.1 ho.2 ht) (by rw [len_map]; exact hl), List.drop_eq_getElem_cons hjl]
      rfl
theorem vC_of {N : Int} {gs : List Q4} (h : 1 ≤ N ∧ N ≤ 4) (hlen : gs.length ≤ 60) (hg : ∀ g ∈ gs, GateOk N g) : vC N gs = true := by
  unfold vC
  have e1 : decide (1 ≤ N ∧ N ≤ 4) = true := decide_eq_true h
  have e2 : decide ((gs.length : Int) ≤ 60) = true := decide_eq_true (by omega)
  rw [e1, e2, Bool.and_self, Bool.and_true, List.all_eq_true]
  intro k hk
  have hk := List.mem_range.1 hk
  rw [gvB_eq (List.getElem?_eq_getElem hk)]
  exact (hg _ (List.getElem_mem hk)).2
theorem circ_ok {N : Int} (h : 1 ≤ N ∧ N ≤ 4) (gs : List Q4) (hlen : gs.length ≤ 60) (hg : ∀ g ∈ gs, GateOk N g) : s_CircuitTableau N gs = some (N, runG h gs (idT N), true) := by
  unfold s_CircuitTableau
  obtain ⟨i1, i2, i3, i4⟩ := id_ok h
  rw [s_circ N gs (by omega), vC_of h hlen hg, bO_some]
  simp only [Bool.not_true, br_false, i1, bO_some]
  exact circ_run h gs (by omega) hg FU 0 (idT N) (by omega) (by rw [FU_eq]; omega) i3 (by omega)
theorem tB_len {N : Int} {l : List Q4} (ht : tB N l = true) : (1 ≤ N ∧ N ≤ 4) ∧ (l.length : Int) = 2 * N := ⟨(tB_inv2 ht).1, (tB_inv2 ht).2.1⟩
end Go.Proofs.Ytflfodcgoffjkaa
