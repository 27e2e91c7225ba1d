/- Joined texts: Pln Zsy Jsy. -/
import Derived.Test.YtcclapenpaediaaPrd
import Derived.Test.YtcclapenpaediaaPo
import Derived.Test.YtcclapenpaediaaMLsy
import Derived.Test.YtcclapenpaediaaPid
import Derived.Test.YtcclapenpaediaaPsg
import Derived.Test.YtcclapenpaediaaBy
/- Plain laws: how many gates the reduction takes; the gates back. -/
namespace Go.Proofs.Ytcclapenpaediaa
open Go.RowKit
set_option maxRecDepth 100000
set_option linter.unusedVariables false
set_option linter.unusedSimpArgs false
section
variable {N : Int} {h : 1 ≤ N ∧ N ≤ 4}
theorem dg_len (s : RS) (k a b : Int) : (dg h s k a b).2.length = s.2.length + 1 := by unfold dg; simp
theorem iter_len {f : Nat → RS → RS} {d : Nat} (hf : ∀ k s, (f k s).2.length ≤ s.2.length + d) : ∀ (c k : Nat) (s : RS), (iterN f k c s).2.length ≤ s.2.length + d * c
  | 0, k, s => Nat.le_refl _
  | c + 1, k, s => by
    have h1 := iter_len hf c (k + 1) (f k s)
    have h2 := hf k s
    show (iterN f (k + 1) c (f k s)).2.length ≤ _
    rw [Nat.mul_succ]
    omega
theorem f1_len (q k : Nat) (s : RS) : (f1 h q k s).2.length ≤ s.2.length + 1 := by unfold f1; (repeat' split) <;> (try rw [dg_len]) <;> omega
theorem f2_len (q : Nat) (s : RS) : (f2 h q s).2.length ≤ s.2.length + 1 := by unfold f2; simp only; split <;> (try rw [dg_len]) <;> omega
theorem f3_len (q k : Nat) (s : RS) : (f3 h q k s).2.length ≤ s.2.length + 1 := by unfold f3; split <;> (try rw [dg_len]) <;> omega
theorem f4_len (j k : Nat) (s : RS) : (f4 h j k s).2.length ≤ s.2.length + 2 := by unfold f4; (repeat' split) <;> (try rw [dg_len]) <;> (try rw [dg_len]) <;> omega
theorem f5_len (j q k : Nat) (s : RS) : (f5 h j q k s).2.length ≤ s.2.length + 1 := by unfold f5; split <;> (try rw [dg_len]) <;> omega
theorem f6_len (j q : Nat) (s : RS) : (f6 h j q s).2.length ≤ s.2.length + 3 := by unfold f6; split <;> (try rw [dg_len, dg_len, dg_len]) <;> omega
theorem f7_len (q : Nat) (s : RS) : (f7 h q s).2.length ≤ s.2.length + 1 := by unfold f7; split <;> (try rw [dg_len]) <;> omega
theorem f8_len (j q : Nat) (s : RS) : (f8 h j q s).2.length ≤ s.2.length + 1 := by unfold f8; split <;> (try rw [dg_len]) <;> omega
theorem qubit_len (q : Nat) (s : RS) : (secondP h q (firstP h q s)).2.length ≤ s.2.length + (N.toNat - q) + 4 * (N.toNat - 1 - q) + 6 := by
  have a1 := iter_len (fun k s => f1_len (h := h) q k s) (N.toNat - q) q s
  have a2 := f2_len (h := h) q (iterN (f1 h q) q (N.toNat - q) s)
  have a3 := iter_len (fun k s => f3_len (h := h) q k s) (N.toNat - 1 - q) (q + 1) (f2 h q (iterN (f1 h q) q (N.toNat - q) s))
  have a4 := iter_len (fun k s => f4_len (h := h) (N.toNat + q) k s) (N.toNat - 1 - q) (q + 1) (firstP h q s)
  have a5 := iter_len (fun k s => f5_len (h := h) (N.toNat + q) q k s) (N.toNat - 1 - q) (q + 1) (iterN (f4 h (N.toNat + q)) (q + 1) (N.toNat - 1 - q) (firstP h q s))
  have a6 := f6_len (h := h) (N.toNat + q) q (iterN (f5 h (N.toNat + q) q) (q + 1) (N.toNat - 1 - q) (iterN (f4 h (N.toNat + q)) (q + 1) (N.toNat - 1 - q) (firstP h q s)))
  have a7 := f7_len (h := h) q (f6 h (N.toNat + q) q (iterN (f5 h (N.toNat + q) q) (q + 1) (N.toNat - 1 - q) (iterN (f4 h (N.toNat + q)) (q + 1) (N.toNat - 1 - q) (firstP h q s))))
  have a8 := f8_len (h := h) (N.toNat + q) q (f7 h q (f6 h (N.toNat + q) q (iterN (f5 h (N.toNat + q) q) (q + 1) (N.toNat - 1 - q) (iterN (f4 h (N.toNat + q)) (q + 1) (N.toNat - 1 - q) (firstP h q s)))))
  have e1 : (iterN (f3 h q) (q + 1) (N.toNat - 1 - q) (f2 h q (iterN (f1 h q) q (N.toNat - q) s))).2.length = (firstP h q s).2.length := rfl
  have e2 : (f8 h (N.toNat + q) q (f7 h q (f6 h (N.toNat + q) q (iterN (f5 h (N.toNat + q) q) (q + 1) (N.toNat - 1 - q) (iterN (f4 h (N.toNat + q)) (q + 1) (N.toNat - 1 - q) (firstP h q s)))))).2.length = (secondP h q (firstP h q s)).2.length := rfl
  omega
theorem red_len (l : List Q4) : (redP h l).2.length ≤ 58 := by
  unfold redP
  have hn : N.toNat = 1 ∨ N.toNat = 2 ∨ N.toNat = 3 ∨ N.toNat = 4 := by omega
  have q := qubit_len (N := N) (h := h)
  have g0 := q 0 (l, [])
  have g1 := q 1 (secondP h 0 (firstP h 0 (l, [])))
  have g2 := q 2 (secondP h 1 (firstP h 1 (secondP h 0 (firstP h 0 (l, [])))))
  have g3 := q 3 (secondP h 2 (firstP h 2 (secondP h 1 (firstP h 1 (secondP h 0 (firstP h 0 (l, [])))))))
  have e : ([] : List Q4).length = 0 := rfl
  simp only [e] at g0
  rcases hn with hn | hn | hn | hn <;> rw [hn] <;> simp only [iterN, Nat.zero_add, Nat.reduceAdd] <;> omega
/-- The inverse gates, in reverse, lead back. -/
theorem run_back : ∀ (gs : List Q4) (l : List Q4), tB N l = true → (∀ g ∈ gs, GateOk N g) → runG h ((gs.map invG).reverse) (runG h gs l) = l
  | [], l, _, _ => rfl
  | g :: gs, l, ht, hg => by
    have g0 := hg g (by simp)
    rw [List.map_cons, List.reverse_cons, runG_app]
    show runG h [invG g] (runG h ((gs.map invG).reverse) (runG h gs (l.map (gmap h g.1 g.2.1 g.2.2.1)))) = l
    rw [run_back gs _ (gmap_tB h g0.1 g0.2 ht) (fun g' h' => hg g' (by simp [h']))]
    show (l.map (gmap h g.1 g.2.1 g.2.2.1)).map (gmap h (invK g.1) g.2.1 g.2.2.1) = l
    rw [List.map_map]
    refine (List.map_congr_left fun q hq => ?_).trans (List.map_id l)
    obtain ⟨hv, hn⟩ := mem_row ht hq
    exact gmap_inv h g0.1 g0.2 hv hn
theorem inv_ok {g : Q4} (hg : GateOk N g) : GateOk N (invG g) := ⟨(inv_clif _).trans hg.1, (inv_ivg ..).trans hg.2⟩
theorem syn_ok {l : List Q4} (ht : tB N l = true) (hl : l.length ≤ 1048576) : s_SynthesizeTableau N l = some (((redP h l).2.map invG).reverse, true) ∧ i_SynthesizeTableau N l = some (((redP h l).2.map invG).reverse, true) := by
  obtain ⟨h1, h2, h3⟩ := red_ok (h := h) ht hl
  have hlen := red_len (h := h) l
  constructor
  · unfold s_SynthesizeTableau
    rw [h1, bO_some]
    show (bO (s_l11Inverse (redP h l).2) fun y => some (y, true)) = _
    rw [s_back (redP h l).2 (by omega), bO_some]
  · unfold i_SynthesizeTableau
    rw [h2, bO_some]
    simp only [Bool.not_true, br_false, i_back (redP h l).2 (by omega), bO_some]
theorem syn_no {l : List Q4} (ht : tB N l = false) (hl : l.length ≤ 1048576) : s_SynthesizeTableau N l = some ([], false) ∧ i_SynthesizeTableau N l = some ([], false) := by
  obtain ⟨h1, h2⟩ := red_no ht hl
  constructor
  · unfold s_SynthesizeTableau
    rw [h1, bO_some]
    show (bO (s_l11Inverse []) fun y => some (y, false)) = _
    rw [s_back [] (by simp), bO_some]
    rfl
  · unfold i_SynthesizeTableau
    rw [h2, bO_some]
    simp only [Bool.not_false, br_true]
/-- The synthesized circuit gives the tableau. -/
theorem syn_run {l : List Q4} (ht : tB N l = true) : s_CircuitTableau N ((redP h l).2.map invG).reverse = some (N, l, true) := by
  have J := red_end (h := h) ht
  have hlen := red_len (h := h) l
  rw [circ_ok h _ (by simpa using (by omega : (redP h l).2.length ≤ 60)) (fun g hg => by
    obtain ⟨g', hg', rfl⟩ := List.mem_map.1 (List.mem_reverse.1 hg)
    exact inv_ok (J.gs g' hg')), ← red_id (h := h) ht]
  conv => lhs; rw [J.run]
  rw [run_back _ _ ht J.gs]
end
end Go.Proofs.Ytcclapenpaediaa
/- Plain law: Synth. -/
namespace Go.Proofs.Ytcclapenpaediaa
open Go.RowKit
set_option maxRecDepth 100000
set_option linter.unusedVariables false
set_option linter.unusedSimpArgs false
theorem law_Synth (code : List Int) : l_FnSynth code = some true := by
  unfold l_FnSynth
  rw [big_eq, bO_some]
  by_cases hb : 1048576 < (code.length : Int)
  · simp only [hb, decide_true, br_true]
  simp only [hb, decide_false, br_false]
  have hd : Ok (s_DrawSynthesizeTableau code) (fun r => r.2.length ≤ 8) := by
    unfold s_DrawSynthesizeTableau
    exact (new_ok (by omega)).bO fun c hc => (dbent_ok hc).bO fun t ht => Ok.some ht.1
  obtain ⟨x2, e2, hx2⟩ := hd
  obtain ⟨N, l⟩ := x2
  rw [e2, bO_some]
  simp only at hx2 ⊢
  rcases Bool.eq_false_or_eq_true (tB N l) with ht | ht
  · have h := (tB_len ht).1
    obtain ⟨h1, h2⟩ := syn_ok (h := h) ht (by omega)
    have hlen := red_len (h := h) l
    have hl2 : (((redP h l).2.map invG).reverse).length ≤ 58 := by simpa using hlen
    obtain ⟨r, c1, c2, _⟩ := circ_eq N ((redP h l).2.map invG).reverse (by omega)
    have hr := (Option.some.inj (c1.symm.trans (syn_run (h := h) ht)))
    subst hr
    rw [h1, h2, bO_some, bO_some]
    simp only [bne_self_eq_false, br_false, same_self ((redP h l).2.map invG).reverse (by omega), bO_some, Bool.not_true, l_FnSynth_j1, c2, br_true, s_eqT N l N l (by omega : l.length ≤ 1048576), beq_self_eq_true, Bool.and_self, l_FnSynth_j2]
  · obtain ⟨h1, h2⟩ := syn_no ht (by omega : l.length ≤ 1048576)
    rw [h1, h2, bO_some, bO_some]
    simp only [bne_self_eq_false, br_false, same_self [] (by simp), bO_some, Bool.not_true, Bool.not_false, l_FnSynth_j1, br_true]
    rfl
end Go.Proofs.Ytcclapenpaediaa
namespace Go.Proofs.Ytcclapenpaediaa
open Go.RowKit
set_option linter.unusedVariables false
theorem law_synth (A : Option Addr) (n c : Nat) (l : List Int) (w : World) (wa : IsBytesC w A n c l) :
    Calls Try.prog 9 #[.slice A n c] w fun e w' => e = .returned (.bool true) ∧ Below w.heap.size w w' :=
  spec_calls (l_FnSynth_ok (law_Synth l)) rfl (args1 (.plain (pv_bytes wa)))
end Go.Proofs.Ytcclapenpaediaa
