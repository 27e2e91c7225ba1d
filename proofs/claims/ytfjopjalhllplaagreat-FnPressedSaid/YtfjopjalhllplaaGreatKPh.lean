/- Plain laws: a gate on a tableau. -/
import Derived.Test.YtfjopjalhllplaaGreatK5
import Derived.Test.YtfjopjalhllplaaGreatK9
import Derived.Test.YtfjopjalhllplaaGreatK10
namespace Go.Proofs.YtfjopjalhllplaaGreat
open Go.RowKit
set_option maxRecDepth 100000
set_option linter.unusedVariables false
set_option linter.unusedSimpArgs false
def gmap {N : Int} (h : 1 ≤ N ∧ N ≤ 4) (k a b : Int) (q : Q4) : Q4 := (led h (gA h k a b) (gB h k a b) (toG h q)).q
theorem conj_gmap {N k a b c : Int} (h : 1 ≤ N ∧ N ≤ 4) (h1 : clif k = true) (h2 : ivg k a b c N = true) {q : Q4} (hv : vP q = true) (hn : q.1 = N) :
  s_ConjugatePauli q.1 q.2.1 q.2.2.1 q.2.2.2 k a b c = some ((gmap h k a b q).1, (gmap h k a b q).2.1, (gmap h k a b q).2.2.1, (gmap h k a b q).2.2.2, true) := by
 obtain ⟨q0, q1, q2, q3⟩ := q
 simp only at hn
 subst hn
 have e : toG h (q0, q1, q2, q3) = ⟨(q0, q1, q2, q3), hv, rfl⟩ := Gp.ext (toG_q h hv rfl)
 have := conj_s h1 h2 hv h
 unfold gmap
 rw [e]
 exact this
theorem mem_row {N : Int} {l : List Q4} (ht : tB N l = true) {q : Q4} (hq : q ∈ l) : vP q = true ∧ q.1 = N := by
 obtain ⟨j, hj, rfl⟩ := List.mem_iff_getElem.1 hq
 obtain ⟨e, g⟩ := row_vP ht (List.getElem?_eq_getElem hj)
 exact ⟨g, e⟩
/-- A map that keeps what is Hermitian and what commutes keeps valid tableaux. -/
theorem tB_map {N : Int} {l : List Q4} (ht : tB N l = true) (f : Q4 → Q4) (h1 : ∀ q ∈ l, (f q).1 = N) (h2 : ∀ q ∈ l, hP (f q) = hP q) (h3 : ∀ q ∈ l, ∀ r ∈ l, cP (f q) (f r) = cP q r) : tB N (l.map f) = true := by
 obtain ⟨hN, hlen, hr⟩ := tB_inv2 ht
 unfold tB
 simp only [Bool.and_eq_true, decide_eq_true_eq, List.all_eq_true, List.mem_range, List.length_map]
 refine ⟨hN, hlen, fun k hk => ?_⟩
 have hq := List.getElem?_eq_getElem hk
 have hmem := List.getElem_mem hk
 have := hr k hk
 rw [rowB_eq hq] at this
 have hq' : (l.map f)[k]? = some (f l[k]) := by rw [List.getElem?_map, hq]; rfl
 rw [rowB_eq hq']
 simp only [Bool.and_eq_true, beq_iff_eq, List.all_eq_true, List.mem_range] at this ⊢
 refine ⟨h1 _ hmem, (h2 _ hmem).trans this.2.1, fun i hi => ?_⟩
 have hil : i < l.length := by omega
 have hc := this.2.2 i hi
 unfold cell4 at hc ⊢
 have hi' : (l.map f)[i]? = some (f l[i]) := by rw [List.getElem?_map, List.getElem?_eq_getElem hil]; rfl
 rw [List.getElem?_eq_getElem hil] at hc
 rw [hi']
 simp only at hc ⊢
 rw [h3 _ (List.getElem_mem hil) _ hmem]
 exact hc
theorem gmap_tB {N k a b c : Int} (h : 1 ≤ N ∧ N ≤ 4) (h1 : clif k = true) (h2 : ivg k a b c N = true) {l : List Q4} (ht : tB N l = true) : tB N (l.map (gmap h k a b)) = true := by
 have F := gate_fam h h1 h2
 refine tB_map ht _ (fun q hq => (led h _ _ _).n) (fun q hq => ?_) (fun q hq r hr => ?_)
 ·unfold gmap
  rw [led_herm F, toG_q h (mem_row ht hq).1 (mem_row ht hq).2]
 ·unfold gmap
  rw [led_comm F, toG_q h (mem_row ht hq).1 (mem_row ht hq).2, toG_q h (mem_row ht hr).1 (mem_row ht hr).2]
theorem tg_ok {N k a b c : Int} {l : List Q4} (hl : l.length ≤ 1048576) (h : 1 ≤ N ∧ N ≤ 4) (h1 : clif k = true) (h2 : ivg k a b c N = true) (ht : tB N l = true) :
  s_TableauApplyGate N l k a b c = some (N, l.map (gmap h k a b), true) := by
 unfold s_TableauApplyGate
 rw [s_tab N l hl, ht, bO_some]
 simp only [Bool.not_true, br_false]
 have key : ∀ m (j : Nat), j ≤ l.length → l.length - j < m → s_TableauApplyGate_l1 N l k a b c m (j : Int) ((l.take j).map (gmap h k a b)) = some (N, l.map (gmap h k a b), true) := by
  intro m
  induction m with
  | zero => intro j _ h; omega
  | succ m ih =>
   intro j hj hm
   rw [s_TableauApplyGate_l1]
   by_cases e : j = l.length
   ·have hlt : ¬ (j : Int) < (l.length : Int) := by omega
    simp only [hlt, decide_false, br_false, s_TableauApplyGate_j1]
    rw [e, List.take_length]
   ·have hjl : j < l.length := by omega
    have hlt : (j : Int) < (l.length : Int) := by omega
    obtain ⟨hv, hn⟩ := mem_row ht (List.getElem_mem hjl)
    have hg : decide ((List.map (gmap h k a b) (List.take j l)).length + [((gmap h k a b l[j]).1, (gmap h k a b l[j]).2.1, (gmap h k a b l[j]).2.2.1, (gmap h k a b l[j]).2.2.2)].length ≤ 16777216) = true := decide_eq_true (by simp; omega)
    simp only [hlt, decide_true, br_true, geti_lt hjl, bO_some, conj_gmap h h1 h2 hv hn, Bool.not_true, br_false, hg, gd_true, w64s hjl (by omega : l.length ≤ 4194304)]
    have := ih (j + 1) (by omega) (by omega)
    rw [List.take_succ_eq_append_getElem hjl, List.map_append] at this
    exact this
 exact key FU 0 (by omega) (by rw [FU_eq]; omega)
/-- X and Z themselves. -/
def eX (N : Int) (i : Nat) : Q4 := (N, 2 ^ i, 0, 0)
def eZ (N : Int) (i : Nat) : Q4 := (N, 0, 2 ^ i, 0)
end Go.Proofs.YtfjopjalhllplaaGreat
