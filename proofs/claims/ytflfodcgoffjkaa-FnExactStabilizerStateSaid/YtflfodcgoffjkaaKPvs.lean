/- Plain laws: the stabilizer state of a tableau. -/
import Derived.Test.YtflfodcgoffjkaaKPrd
import Derived.Test.YtflfodcgoffjkaaKPvq
import Derived.Test.YtflfodcgoffjkaaKPvy
import Derived.Test.YtflfodcgoffjkaaKPvt
import Derived.Test.YtflfodcgoffjkaaKPvp
namespace Go.Proofs.Ytflfodcgoffjkaa
open Go.RowKit
set_option maxRecDepth 100000
set_option linter.unusedVariables false
set_option linter.unusedSimpArgs false
section
variable {N : Int} {h : 1 ≤ N ∧ N ≤ 4}
theorem iv_ok {g : Q4} (hg : GateOk N g) : GateOk N (ivG g) := ⟨(inv_clif _).trans hg.1, (inv_ivg ..).trans hg.2⟩
/-- The inverse gates, in reverse, lead back. -/
theorem run_back' : ∀ (gs : List Q4) (l : List Q4), tB N l = true → (∀ g ∈ gs, GateOk N g) → runG h (ivL' gs) (runG h gs l) = l
  | [], l, _, _ => rfl
  | g :: gs, l, ht, hg => by
    have g0 := hg g (by simp)
    have e : ivL' (g :: gs) = ivL' gs ++ [ivG g] := by unfold ivL'; rw [List.map_cons, List.reverse_cons]
    rw [e, runG_app]
    show runG h [ivG g] (runG h (ivL' gs) (runG h gs (l.map (gmap h g.1 g.2.1 g.2.2.1)))) = l
    rw [run_back' gs _ (gmap_tB h g0.1 g0.2 ht) (fun g' h' => hg g' (by simp [h']))]
    show (l.map (gmap h g.1 g.2.1 g.2.2.1)).map (gmap h (invK g.1) g.2.1 g.2.2.1) = l
    rw [List.map_map]
    refine (List.map_congr_left fun q hq => ?_).trans (List.map_id l)
    obtain ⟨hv, hn⟩ := mem_row ht hq
    exact gmap_inv h g0.1 g0.2 hv hn
theorem ivL_ok {L : List Q4} (hL : ∀ g ∈ L, GateOk N g) : ∀ g ∈ ivL' L, GateOk N g := fun g hg => by
  obtain ⟨g', hg', rfl⟩ := List.mem_map.1 (List.mem_reverse.1 hg)
  exact iv_ok (hL g' hg')
/-- Each tableau is that of a circuit. -/
theorem tab_circ (h : 1 ≤ N ∧ N ≤ 4) {l : List Q4} (ht : tB N l = true) : ∃ L : List Q4, (∀ g ∈ L, GateOk N g) ∧ runG h L (idT N) = l := by
  have J := red_end (h := h) ht
  have e := run_back' (h := h) _ _ ht J.gs
  rw [← J.run, red_id (h := h) ht] at e
  exact ⟨_, ivL_ok J.gs, e⟩
theorem tab_hH (h : 1 ≤ N ∧ N ≤ 4) {l : List Q4} (ht : tB N l = true) : ∀ j, j < N.toNat → rwB h l j * rwB h l j = Gp.one h := (tab_fam h ht).bb
theorem tab_hC (h : 1 ≤ N ∧ N ≤ 4) {l : List Q4} (ht : tB N l = true) : ∀ i j, i < N.toNat → j < N.toNat → rwB h l i * rwB h l j = rwB h l j * rwB h l i := fun i j hi hj => by
  by_cases e : i = j
  · rw [e]
  · exact (tab_fam h ht).xbb i j hi hj e
theorem tab_cj (h : 1 ≤ N ∧ N ≤ 4) {L l : List Q4} (hL : ∀ g ∈ L, GateOk N g) (he : runG h L (idT N) = l) : ∀ j, j < N.toNat → Cj L (gpZ h j) (rwB h l j) := fun j hj => by
  rw [← he]; exact (circ_rows h hL hj).2
theorem dq_z {K : Nat} {x : Z4} : dq K x = d0 ↔ x = (0, 0, 0, 0) := by
  rw [← dq_0 0, dq_eq2]
  show x = rtn K (0, 0, 0, 0) ↔ _
  rw [rtn_zero]
theorem rtn_z {k : Nat} {x : Z4} : rtn k x = (0, 0, 0, 0) ↔ x = (0, 0, 0, 0) := ⟨fun e => rtn_inj k (e.trans (rtn_zero k).symm), fun e => by rw [e, rtn_zero]⟩
theorem vc_all {D K : Nat} {f : Amp} : ((vc D K f).all fun x => decide (x = d0)) = true ↔ ∀ r, r < D → f r = (0, 0, 0, 0) := by
  unfold vc
  rw [List.all_map, List.all_eq_true]
  constructor
  · intro h r hr
    have := h r (List.mem_range.2 hr)
    exact dq_z.1 (of_decide_eq_true this)
  · intro h r hr
    exact decide_eq_true (dq_z.2 (h r (List.mem_range.1 hr)))
/-- The stabilizer state of a tableau. -/
theorem s_stst (h : 1 ≤ N ∧ N ≤ 4) {l : List Q4} (ht : tB N l = true) : ∃ i e, i < 2 ^ N.toNat ∧ e ≤ N.toNat ∧ (∃ r, r < 2 ^ N.toNat ∧ prs (rwB h l) N.toNat (dl i) r ≠ (0, 0, 0, 0)) ∧ ipz (2 ^ N.toNat) (prs (rwB h l) N.toNat (dl i)) (prs (rwB h l) N.toNat (dl i)) = rtn (2 * (N.toNat + e)) (1, 0, 0, 0) ∧
    s_StabilizerState N l = some (vc (2 ^ N.toNat) (2 * N.toNat) (fun r => rtn (N.toNat - e) (prs (rwB h l) N.toNat (dl i) r)), true) := by
  obtain ⟨L, hL, he⟩ := tab_circ h ht
  have hLg := gok_of hL
  have hS := tab_cj h hL he
  have h16 := pw16' h
  have hq := qc_pw h
  have hl8 := (tB_len ht).2
  have hu : IntKind.wrap .u64 N = N := IntWalk.u64_in _ (by omega)
  have hs : IntKind.wrap .i64 (1 * 2 ^ min (Int.toNat N) (IntKind.bits .i64)) = ((2 ^ N.toNat : Nat) : Int) := by rcases four h with rfl | rfl | rfl | rfl <;> decide
  have hng : decide (¬ N < 0) = true := decide_eq_true (by omega)
  have key : ∀ (m k : Nat), k ≤ 2 ^ N.toNat → 2 ^ N.toNat - k < m → (∀ i, i < k → ∀ r, r < 2 ^ N.toNat → prs (rwB h l) N.toNat (dl i) r = (0, 0, 0, 0)) →
      ∃ i e, i < 2 ^ N.toNat ∧ e ≤ N.toNat ∧ (∃ r, r < 2 ^ N.toNat ∧ prs (rwB h l) N.toNat (dl i) r ≠ (0, 0, 0, 0)) ∧ ipz (2 ^ N.toNat) (prs (rwB h l) N.toNat (dl i)) (prs (rwB h l) N.toNat (dl i)) = rtn (2 * (N.toNat + e)) (1, 0, 0, 0) ∧
        s_StabilizerState_l1 N l m (k : Int) = some (vc (2 ^ N.toNat) (2 * N.toNat) (fun r => rtn (N.toNat - e) (prs (rwB h l) N.toNat (dl i) r)), true) := by
    intro m
    induction m with
    | zero => intro k _ h; omega
    | succ m ih =>
      intro k hk hm hz
      by_cases ek : k = 2 ^ N.toNat
      · exact absurd (fun i hi => hz i (by omega)) (some_f h hLg hS)
      have hkl : k < 2 ^ N.toNat := by omega
      have hlt : decide ((k : Int) < ((2 ^ N.toNat : Nat) : Int)) = true := (fun x h => decide_eq_true (by omega) : ∀ x : Nat, k < x → decide ((k : Int) < (x : Int)) = true) _ hkl
      have step : s_StabilizerState_l1 N l (m + 1) (k : Int) = br ((vc (2 ^ N.toNat) (2 * N.toNat) (prs (rwB h l) N.toNat (dl k))).all fun x => decide (x = d0)) (s_StabilizerState_l1 N l m ((k + 1 : Nat) : Int)) (bO (s_l27Whole (vc (2 ^ N.toNat) (2 * N.toNat) (prs (rwB h l) N.toNat (dl k)))) fun x15 => some (x15.1, x15.2)) := by
        rw [s_StabilizerState_l1, s_tab N l (by omega), bO_some, ht, br_true, hu, hng, gd_true, hs, hlt, bO_some]
        unfold s_StabilizerState_j4
        rw [br_true, s_from h ht hkl, bO_some]
        simp only [Bool.not_true, br_false]
        rw [s_none _ (by rw [vc_len]; omega), bO_some, w64s (n := 17) (by omega) (by omega)]
        cases ((vc (2 ^ N.toNat) (2 * N.toNat) (prs (rwB h l) N.toNat (dl k))).all fun x => decide (x = d0)) <;> rfl
      rw [step]
      cases ha : ((vc (2 ^ N.toNat) (2 * N.toNat) (prs (rwB h l) N.toNat (dl k))).all fun x => decide (x = d0)) with
      | true =>
        rw [br_true]
        refine ih (k + 1) (by omega) (by omega) (fun i hi => ?_)
        by_cases ei : i = k
        · rw [ei]; exact vc_all.1 ha
        · exact hz i (by omega)
      | false =>
        rw [br_false]
        have hne : ¬ ∀ r, r < 2 ^ N.toNat → prs (rwB h l) N.toNat (dl k) r = (0, 0, 0, 0) := fun h' => by
          rw [vc_all.2 h'] at ha; cases ha
        have hF : ∀ j, j < N.toNat → ∀ r, r < 2 ^ N.toNat → paQ (rwB h l j).q (prs (rwB h l) N.toNat (dl k)) r = prs (rwB h l) N.toNat (dl k) r := fun j hj r hr => f_stab h hLg hS (dl k) hj hr
        rcases f_norm h (tab_hH h ht) (tab_hC h ht) hkl hF with h0 | ⟨e, he1, he2⟩
        · exact absurd (fun r hr => ip_zero h0 hr) hne
        · refine ⟨k, e, hkl, he1, ?_, he2, ?_⟩
          · exact Classical.byContradiction fun hc => hne fun r hr => Classical.byContradiction fun hc2 => hc ⟨r, hr, hc2⟩
          · rw [s_whole h16 hq (by omega) he1 (prs_bd16 h _ k (Nat.le_refl _)) he2, bO_some]
  exact key FU 0 (Nat.zero_le _) (by rw [FU_eq]; omega) (fun i hi => by omega)
end
end Go.Proofs.Ytflfodcgoffjkaa
