/- Plain laws: a circuit leads each Pauli operator to what its tableau says. -/
import Derived.Test.YtflfodcgoffjkaaKPvf
import Derived.Test.YtflfodcgoffjkaaK11
namespace Go.Proofs.Ytflfodcgoffjkaa
open Go.RowKit
set_option maxRecDepth 100000
set_option linter.unusedVariables false
set_option linter.unusedSimpArgs false
theorem gok_of {N : Int} {L : List Q4} (hL : ∀ g ∈ L, GateOk N g) : ∀ q ∈ L, gok N.toNat q := fun q hq => by
  obtain ⟨k, a, b, c⟩ := q
  exact ivg_gok (hL _ hq).2
theorem rw_gmap {N : Int} (h : 1 ≤ N ∧ N ≤ 4) {l : List Q4} (ht : tB N l = true) {g : Q4} (hg : GateOk N g) {i : Nat} (hi : i < l.length) :
    rwG h (l.map (gmap h g.1 g.2.1 g.2.2.1)) i = led h (gA h g.1 g.2.1 g.2.2.1) (gB h g.1 g.2.1 g.2.2.1) (rwG h l i) := by
  have ht' := gmap_tB h hg.1 hg.2 ht
  have e1 := rwG_q h ht hi
  have e2 := rwG_q h ht' (j := i) (by rw [List.length_map]; exact hi)
  rw [List.getElem?_map, e1, Option.map_some] at e2
  refine Gp.ext ?_
  rw [← Option.some.inj e2]
  unfold gmap
  rw [toG_id]
theorem run_cj {N : Int} (h : 1 ≤ N ∧ N ≤ 4) : ∀ (L : List Q4) (M : List Q4) (l : List Q4) (E : Gp N) (i : Nat), (∀ g ∈ L, GateOk N g) → tB N l = true → i < l.length → Cj M E (rwG h l i) → Cj (M ++ L) E (rwG h (runG h L l) i)
  | [], M, l, E, i, _, _, _, hc => by rw [List.append_nil]; exact hc
  | g :: L, M, l, E, i, hL, ht, hi, hc => by
    have hg := hL g (List.mem_cons_self ..)
    have hL' : ∀ x ∈ L, GateOk N x := fun x hx => hL x (List.mem_cons_of_mem _ hx)
    have e : M ++ g :: L = (M ++ [g]) ++ L := by simp
    rw [e, runG]
    refine run_cj h L (M ++ [g]) _ E i hL' (gmap_tB h hg.1 hg.2 ht) (by rw [List.length_map]; exact hi) ?_
    rw [rw_gmap h ht hg hi]
    refine Cj.append (gok_of (L := [g]) fun x hx => ?_) hc ?_
    · simp only [List.mem_cons, List.not_mem_nil, or_false] at hx
      rw [hx]; exact hg
    · obtain ⟨k, a, b, c⟩ := g
      exact cj_gate h hg.1 hg.2 _
def idR (N : Nat) : Bool := (List.range N).all fun j => (idT N)[j]? == some (eX N j) && (idT N)[N + j]? == some (eZ N j)
theorem idR_fin : ∀ N : Fin 5, (decide (N.val < 1) || idR N.val) = true := by decide +kernel
theorem id_rows {N : Int} (h : 1 ≤ N ∧ N ≤ 4) {j : Nat} (hj : j < N.toNat) : rwG h (idT N) j = gpX h j ∧ rwB h (idT N) j = gpZ h j := by
  obtain ⟨_, _, ht, hl⟩ := id_ok h
  have e1 := rwG_q h ht (j := j) (by omega)
  have e2 := rwG_q h ht (j := N.toNat + j) (by omega)
  obtain ⟨N', rfl⟩ : ∃ N' : Nat, N = N' := ⟨N.toNat, by omega⟩
  have hf := idR_fin ⟨N', by omega⟩
  rw [decide_eq_false (by simp only; omega), Bool.false_or] at hf
  rw [Int.toNat_natCast] at hj
  have := List.all_eq_true.1 hf j (List.mem_range.2 hj)
  rw [Bool.and_eq_true, beq_iff_eq, beq_iff_eq] at this
  obtain ⟨t1, t2⟩ := this
  constructor
  · refine Gp.ext ?_
    rw [t1] at e1
    rw [← Option.some.inj e1]
    unfold gpX; rw [dif_pos (by rw [Int.toNat_natCast]; exact hj)]
  · refine Gp.ext ?_
    unfold rwB
    rw [Int.toNat_natCast] at e2 ⊢
    rw [t2] at e2
    rw [← Option.some.inj e2]
    unfold gpZ; rw [dif_pos (by rw [Int.toNat_natCast]; exact hj)]
/-- A circuit of Clifford gates, and its tableau. -/
theorem circ_rows {N : Int} (h : 1 ≤ N ∧ N ≤ 4) {L : List Q4} (hL : ∀ g ∈ L, GateOk N g) {j : Nat} (hj : j < N.toNat) : Cj L (gpX h j) (rwG h (runG h L (idT N)) j) ∧ Cj L (gpZ h j) (rwB h (runG h L (idT N)) j) := by
  obtain ⟨_, _, ht, hl⟩ := id_ok h
  obtain ⟨r1, r2⟩ := id_rows h hj
  have c1 := run_cj h L [] (idT N) (gpX h j) j hL ht (by omega) (by rw [r1]; exact Cj.nil _)
  have c2 := run_cj h L [] (idT N) (gpZ h j) (N.toNat + j) hL ht (by omega) (by rw [← r2]; exact Cj.nil _)
  rw [List.nil_append] at c1 c2
  exact ⟨c1, c2⟩
theorem circ_cj {N : Int} (h : 1 ≤ N ∧ N ≤ 4) {L : List Q4} (hL : ∀ g ∈ L, GateOk N g) (p : Gp N) : Cj L p (led h (rwG h (runG h L (idT N))) (rwB h (runG h L (idT N))) p) :=
  Cj.all (gok_of hL) h (fun j hj => circ_rows h hL hj) p
end Go.Proofs.Ytflfodcgoffjkaa
