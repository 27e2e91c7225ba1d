/- Plain law and its bridge: Tab. -/
import Derived.Test.YtplbdmigbakmlaaKMLta
import Derived.Test.YtplbdmigbakmlaaKPvr
import Derived.Test.YtplbdmigbakmlaaKPfc
import Derived.Test.YtplbdmigbakmlaaK12
import Derived.Test.YtplbdmigbakmlaaK1
namespace Go.Proofs.Ytplbdmigbakmlaa
open Go.RowKit
set_option maxRecDepth 100000
set_option linter.unusedVariables false
set_option linter.unusedSimpArgs false
theorem i_eqT' (N : Int) (l : List Q4) (M : Int) (r : List Q4) (hl : l.length ≤ 1048576) : i_EqualTableau N l M r = some (N == M && l == r) := by
  have same : i_same_impl_Pauli_ l r = some (l == r) := by
    unfold i_same_impl_Pauli_
    by_cases hlen : l.length = r.length
    · have : ((l.length : Int) != (r.length : Int)) = false := by simp [hlen]
      simp only [this, br_false]
      rw [loop_all0 (fun m k => i_same_impl_Pauli__l1 l r m (l.length : Int) k) l.length (fun k => l[k]? == r[k]?) (by omega) (fun m k hk => ?_) (some true) (fun m => ?_)]
      · have e : (List.range l.length).all (fun k => l[k]? == r[k]?) = (l == r) := by
          rw [Bool.eq_iff_iff, List.all_eq_true, beq_iff_eq]
          constructor
          · intro hh
            refine List.ext_getElem? fun k => ?_
            by_cases hk : k < l.length
            · exact eq_of_beq (hh k (List.mem_range.2 hk))
            · rw [List.getElem?_eq_none (by omega), List.getElem?_eq_none (by omega)]
          · intro hh k _; rw [hh]; exact beq_self_eq_true _
        rw [e]
        cases (l == r) <;> rfl
      · have hk' : k < r.length := by omega
        have hlt : (k : Int) < (l.length : Int) := by omega
        show i_same_impl_Pauli__l1 l r (m + 1) (l.length : Int) (k : Int) = _
        rw [i_same_impl_Pauli__l1, geti_lt hk, geti_lt hk', w64s hk (by omega)]
        simp only [hlt, decide_true, br_true, bO_some, List.getElem?_eq_getElem hk, List.getElem?_eq_getElem hk']
        have e : (l[k].1 == r[k].1 && (l[k].2.1 == r[k].2.1 && (l[k].2.2.1 == r[k].2.2.1 && l[k].2.2.2 == r[k].2.2.2))) = (some l[k] == some r[k]) := rfl
        rw [e]
        cases (some l[k] == some r[k]) <;> rfl
      · have hlt : ¬ (l.length : Int) < (l.length : Int) := by omega
        show i_same_impl_Pauli__l1 l r (m + 1) (l.length : Int) (l.length : Int) = _
        rw [i_same_impl_Pauli__l1]
        simp only [hlt, decide_false, br_false, i_same_impl_Pauli__j1]
    · have : ((l.length : Int) != (r.length : Int)) = true := by rw [bne_iff_ne]; intro hh; exact hlen (by omega)
      have e : (l == r) = false := by
        rw [beq_eq_false_iff_ne]; intro hh; exact hlen (by rw [hh])
      simp only [this, br_true, e]
  unfold i_EqualTableau
  rw [same]
  cases N == M <;> rfl
def Few (g : List Q4) : Prop := hc g ≤ 12 ∧ g.length ≤ 100
theorem right_ok {b : List Int} {i h most : Int} {n : Nat} (hcu : CurP (b, i, h)) (hn : 1 ≤ n ∧ n ≤ 4) (hm : 0 ≤ most ∧ most ≤ 11) : Ok (s_l11Right b i h n most) (fun r => (r.1 = n ∧ (r.2.1.length : Int) ≤ most) ∧ CurP r.2.2) := by
  unfold s_l11Right
  refine (below_ok hcu).bO fun x hx => ?_
  have hw : IntKind.wrap .i64 (most + 1) = most + 1 := w64 (by omega) (by omega)
  rw [hw] at hx
  have hx1 := hx.1.2.1 (by omega)
  have key : ∀ (m : Nat) (k : Nat) (b : List Int) (i h : Int) (gs : List Q4), (k : Int) ≤ x.1 → x.1 - k < m → gs.length = k → CurP (b, i, h) →
      Ok (s_l11Right_l1 n x m b i h k gs) (fun r => (r.1 = n ∧ (r.2.1.length : Int) ≤ most) ∧ CurP r.2.2) := by
    intro m
    induction m with
    | zero => intro k b i h gs h1 h2; omega
    | succ m ih =>
      intro k b i h gs h1 h2 h3 hcu
      rw [s_l11Right_l1]
      refine Ok.br (fun e => ?_) (fun e => Ok.some ⟨⟨rfl, by show (gs.length : Int) ≤ most; omega⟩, hcu⟩)
      have e := of_decide_eq_true e
      refine (gate_ok hcu hn).bO fun g hg1 => Ok.gd (decide_eq_true (by simp; omega)) ?_
      rw [w64 (by omega) (by omega), show (k : Int) + 1 = ((k + 1 : Nat) : Int) by omega]
      exact ih (k + 1) _ _ _ _ (by omega) (by omega) (by simp; omega) hg1.2
  exact key FU 0 _ _ _ [] (by omega) (by rw [FU_eq]; omega) rfl hx.2
theorem bentc_ok {b : List Int} {i h : Int} (hcu : CurP (b, i, h)) : Ok (s_l11Bent b i h 8) (fun r => Few r.2.1 ∧ CurP r.2.2) := by
  unfold s_l11Bent
  refine (below_ok hcu).bO fun x hx => ?_
  have hb := hx.1.2.1 (by omega)
  obtain ⟨n, hn, hn1⟩ := nat_of (n := IntKind.wrap .i64 (1 + x.1)) (by rw [w64 (by omega) (by omega)]; omega)
  rw [hn]
  refine (right_ok hx.2 hn1 (by omega)).bO fun r hr => ?_
  obtain ⟨⟨r1, r2⟩, r3⟩ := hr
  have hf : Few r.2.1 := ⟨by have := hc_le r.2.1; omega, by omega⟩
  refine (below_ok r3).bO fun y hy => Ok.br (fun _ => (pick_ok hy.2 (by simp)).bO fun q hq => Ok.some ⟨hf, hq.2⟩) (fun _ => Ok.br (fun _ => ?_) (fun _ => Ok.br (fun _ => ?_) (fun _ => Ok.some ⟨hf, hy.2⟩)))
  · have hmx : s_l1Max 1 r.1 = some (n : Int) := by
      unfold s_l1Max
      rw [r1]
      by_cases e : (n : Int) < 1
      · omega
      · have : n = 1 ∨ n = 2 ∨ n = 3 ∨ n = 4 := by omega
        rcases this with rfl | rfl | rfl | rfl <;> rfl
    rw [hmx, bO_some]
    refine (gbent_ok hy.2 hn1).bO fun g hg => Ok.gd (decide_eq_true (by simp; omega)) (Ok.some ⟨⟨?_, by simp; omega⟩, hg⟩)
    show hc (r.2.1 ++ [(g.1, g.2.1, g.2.2.1, g.2.2.2.1)]) ≤ 12
    rw [hc_append]
    have := hc_le r.2.1
    have := hc_le [((g.1, g.2.1, g.2.2.1, g.2.2.2.1) : Q4)]
    simp only [List.length_cons, List.length_nil] at this
    omega
  · refine (once_ok hy.2).bO fun o ho => Ok.br (fun _ => ?_) (fun _ => Ok.some ⟨hf, ho⟩)
    have key : ∀ (m : Nat) (b : List Int) (i h : Int) (gs : List Q4), gs.length ≤ 70 → 70 - gs.length < m → hc gs ≤ 12 → CurP (b, i, h) → Ok (s_l11Bent_l1 r m b i h gs) (fun r => Few r.2.1 ∧ CurP r.2.2) := by
      intro m
      induction m with
      | zero => intro b i h gs h1 h2; omega
      | succ m ih =>
        intro b i h gs h1 h2 h3 hcu
        rw [s_l11Bent_l1]
        refine (below_ok hcu).bO fun z hz => Ok.br (fun e => ?_) (fun _ => Ok.some ⟨⟨h3, by show gs.length ≤ 100; omega⟩, hz.2⟩)
        have e := of_decide_eq_true e
        have hz1 := hz.1.2.1 (by omega)
        have hz0 := hz.1.1
        rw [w64 (by omega) (by omega)] at e
        refine Ok.gd (decide_eq_true (by simp; omega)) (ih _ _ _ _ (by simp; omega) (by simp; omega) ?_ hz.2)
        rw [hc_append]
        show hc gs + 0 ≤ 12
        omega
    exact key FU _ _ _ _ (by omega) (by rw [FU_eq]; omega) (by have := hc_le r.2.1; omega) ho
theorem dct_ok {code : List Int} (h : code.length ≤ 1048576) : Ok (s_DrawCircuitTableau code) (fun r => Few r.2) := by
  unfold s_DrawCircuitTableau
  refine (new_ok h).bO fun c hcu => (once_ok hcu).bO fun o ho => Ok.br (fun _ => (bentc_ok ho).bO fun r hr => Ok.some hr.1) (fun _ => (below_ok ho).bO fun x hx => ?_)
  have hb := hx.1.2.1 (by omega)
  obtain ⟨n, hn, hn1⟩ := nat_of (n := IntKind.wrap .i64 (1 + x.1)) (by rw [w64 (by omega) (by omega)]; omega)
  rw [hn]
  refine (dcirc_ok hx.2 hn1 (by omega)).bO fun g hg => Ok.some ⟨?_, ?_⟩
  · have := hc_le g.2.1; have := hg.1.2.2; show hc g.2.1 ≤ 12; omega
  · have := hg.1.2.2; show g.2.1.length ≤ 100; omega
theorem at0_bd (code : List Int) (hl : code.length ≤ 1048576) (hb : ∀ x ∈ code, 0 ≤ x ∧ x ≤ 255) (i : Nat) (hi : i < 1000) : ∃ v, l_at0 code (i : Int) = some v ∧ 0 ≤ v := by
  unfold l_at0
  by_cases h : i < code.length
  · rw [decide_eq_true (by omega), br_true, geti_lt h, bO_some]
    have := hb _ (List.getElem_mem h)
    exact ⟨_, rfl, by rw [w64 (by omega) (by omega)]; omega⟩
  · rw [decide_eq_false (by omega), br_false]
    refine ⟨_, rfl, ?_⟩
    rw [w64 (x := (i : Int) * 7) (by omega) (by omega), w64 (by omega) (by omega)]
    exact Int.tmod_nonneg _ (by omega)
theorem law_Tab (code : List Int) (hby : ∀ x ∈ code, 0 ≤ x ∧ x ≤ 255) : l_FnTab code = some true := by
  unfold l_FnTab
  rw [big_eq, bO_some]
  by_cases hb : 1048576 < (code.length : Int)
  · simp only [hb, decide_true, br_true]
  simp only [hb, decide_false, br_false]
  obtain ⟨x2, e2, f1, f2⟩ := dct_ok (code := code) (by omega)
  obtain ⟨N, g⟩ := x2
  simp only at f1 f2
  rw [e2, bO_some]
  simp only
  obtain ⟨r, hs, hi, _⟩ := circ_eq N g (by omega)
  by_cases hv : vC N g = true ∧ ∀ q ∈ g, GateOk N q
  · obtain ⟨hv1, hv2⟩ := hv
    have hvv := hv1
    unfold vC at hvv
    simp only [Bool.and_eq_true, decide_eq_true_eq] at hvv
    have h : 1 ≤ N ∧ N ≤ 4 := hvv.2.1
    have hlen : g.length ≤ 60 := by have := hvv.2.2; omega
    have ht := runG_tB h g (idT N) hv2 (id_ok h).2.2.1
    have hco := circ_ok h g hlen hv2
    rw [hco] at hs
    injection hs with hs
    subst hs
    have hl8 := (tB_len ht).2
    rw [hi, hco, bO_some, bO_some]
    simp only [bne_self_eq_false, br_false, s_eqT N _ N _ (show (runG h g (idT N)).length ≤ 1048576 by omega), i_eqT' N _ N _ (show (runG h g (idT N)).length ≤ 1048576 by omega), beq_self_eq_true, Bool.and_self, bO_some, Bool.not_true, l_FnTab_j1]
    by_cases h3 : 3 < N
    · rw [decide_eq_true h3, br_true, i_tab N _ (by omega), ht]
      rfl
    · rw [decide_eq_false h3, br_false]
      obtain ⟨v2, a2, b2⟩ := at0_bd code (by omega) hby 2 (by omega)
      obtain ⟨v3, a3, b3⟩ := at0_bd code (by omega) hby 3 (by omega)
      obtain ⟨v4, a4, b4⟩ := at0_bd code (by omega) hby 4 (by omega)
      rw [show ((2 : Nat) : Int) = 2 from rfl] at a2
      rw [show ((3 : Nat) : Int) = 3 from rfl] at a3
      rw [show ((4 : Nat) : Int) = 4 from rfl] at a4
      have hu : IntKind.wrap .u64 N = N := IntWalk.u64_in _ (by omega)
      have hsh : IntKind.wrap .i64 (1 * 2 ^ min (Int.toNat N) (IntKind.bits .i64)) = 2 ^ N.toNat := by rcases four h with rfl | rfl | rfl | rfl <;> decide
      have hng : decide (¬ N < 0) = true := decide_eq_true (by omega)
      have hne : decide ((2 : Int) ^ N.toNat ≠ 0) = true := decide_eq_true (by rcases four h with rfl | rfl | rfl | rfl <;> decide)
      have hpos : (0 : Int) < 2 ^ N.toNat := Int.pow_pos (by omega)
      have hp : vP (N, Int.tmod v2 (2 ^ N.toNat), Int.tmod v3 (2 ^ N.toNat), Int.tmod v4 4) = true := by
        have t2 := tmod_bd b2 hpos
        have t3 := tmod_bd b3 hpos
        have t4 := tmod_bd b4 (show (0 : Int) < 4 by omega)
        exact vP_iff.2 ⟨h, t2, t3, by omega⟩
      have hcb := cbt_i ht (by omega) hp h
      have hcj := circ_cj h hv2 ⟨_, hp, rfl⟩
      obtain ⟨m, m1, m2, m3⟩ := s_both h (L := g) (K := hc g) (by omega) (fun i => gzs_bd1 (by omega) i) hcj
      generalize hQ : led h (rwG h (runG h g (idT N))) (rwB h (runG h g (idT N))) ⟨_, hp, rfl⟩ = Q at *
      have hqv : s_PauliMatrix Q.q.1 Q.q.2.1 Q.q.2.2.1 Q.q.2.2.2 = some (pmL Q.q) := s_pm (n := Q.q.1) (x := Q.q.2.1) (z := Q.q.2.2.1) (p := Q.q.2.2.2) Q.v
      have hcm := s_cm h (L := g) (by omega) hv1 (fun q hq => (hv2 q hq).2) (by omega)
      have hpm : s_PauliMatrix N (Int.tmod v2 (2 ^ N.toNat)) (Int.tmod v3 (2 ^ N.toNat)) (Int.tmod v4 4) = some (pmL (N, Int.tmod v2 (2 ^ N.toNat), Int.tmod v3 (2 ^ N.toNat), Int.tmod v4 4)) := s_pm hp
      simp only [a2, a3, a4, bO_some, hu, hng, gd_true, hsh, hne, hcb, outG, hcm, hpm, m1, hqv, m2, i_tab N _ (show (runG h g (idT N)).length ≤ 1048576 by omega), s_tab N _ (show (runG h g (idT N)).length ≤ 1048576 by omega), ht, br_true, m3, l_FnTab_j2]
  · have hno := circ_no (by omega) hv
    rw [hno] at hs
    injection hs with hs
    subst hs
    rw [hi, hno, bO_some, bO_some]
    simp only [bne_self_eq_false, br_false, s_eqT 0 [] 0 [] (by simp), i_eqT' 0 [] 0 [] (by simp), beq_self_eq_true, Bool.and_self, bO_some, Bool.not_true, Bool.not_false, l_FnTab_j1, br_true]
    rfl
theorem law_ta (A : Option Addr) (n c : Nat) (l : List Int) (w : World) (wa : IsBytesC w A n c l) :
    Calls Try.prog 4 #[.slice A n c] w fun e w' => e = .returned (.bool true) ∧ Below w.heap.size w w' :=
  spec_calls (l_FnTab_ok (law_Tab l wa.2.2.2.1)) rfl (args1 (.plain (pv_bytes wa)))
end Go.Proofs.Ytplbdmigbakmlaa
