/- Plain law and its bridge: StabState. -/
import Derived.Test.YtfoiedjjhgpcpaaGreatKMLsS
import Derived.Test.YtfoiedjjhgpcpaaGreatKPvk
import Derived.Test.YtfoiedjjhgpcpaaGreatKPes
import Derived.Test.YtfoiedjjhgpcpaaGreatKPo
import Derived.Test.YtfoiedjjhgpcpaaGreatKPhc
import Derived.Test.YtfoiedjjhgpcpaaGreatK12
import Derived.Test.YtfoiedjjhgpcpaaGreatKPvo
import Derived.Test.YtfoiedjjhgpcpaaGreatK1
namespace Go.Proofs.YtfoiedjjhgpcpaaGreat
open Go.RowKit
set_option maxRecDepth 100000
set_option linter.unusedVariables false
set_option linter.unusedSimpArgs false
theorem ivL_hc (L : List GQ) : hc (ivL' L) = hc L := by
  unfold ivL'
  have hcm : ∀ M : List GQ, hc (M.map ivG) = hc M := by
    intro M
    induction M with
    | nil => rfl
    | cons x M ih =>
      obtain ⟨k, a, b, c⟩ := x
      have : (invK k = 4) ↔ (k = 4) := by unfold invK; (repeat' split) <;> omega
      rw [List.map_cons]
      simp only [hc, ivG, ih, this]
  have hcr : ∀ M : List GQ, hc M.reverse = hc M := by
    intro M
    induction M with
    | nil => rfl
    | cons x M ih => rw [List.reverse_cons, hc_append, ih]; simp only [hc]; omega
  rw [hcr, hcm]
theorem nrm_rtn : ∀ (k : Nat) (x : Z4), nrm (rtn k x) = rtn (2 * k) (nrm x)
  | 0, x => rfl
  | k + 1, x => by
    show nrm (rt (rtn k x)) = _
    rw [nrm_rt, nrm_rtn k x, rtn_add]
    congr 1; omega
theorem one_dq : ((1, 0, 0, 0, 0) : DQ) = dq 0 (1, 0, 0, 0) := by decide
/-- The inner product of what a circuit prepares with a state on its line. -/
theorem line_ip {D H n e : Nat} {U F : Amp} {c : Z4} (he : e ≤ n) (hU : ipz D U U = rtn (2 * H) (1, 0, 0, 0)) (hF : ipz D F F = rtn (2 * (n + e)) (1, 0, 0, 0)) (hl : ∀ r, r < D → rtn (2 * H) (F r) = mlz c (U r)) :
    nrm (ipz D U (fun r => rtn (n - e) (F r))) = rtn (2 * (H + 2 * n)) (1, 0, 0, 0) := by
  have hz : ipz D U (fun r => rtn (n - e) (F r)) = rtn (n - e) c := by
    refine rtn_inj (2 * H) ?_
    have e1 : rtn (2 * H) (ipz D U (fun r => rtn (n - e) (F r))) = ipz D U (fun r => mlz (rtn (n - e) c) (U r)) := by
      rw [rtn_ml, ← ip_smul]
      refine ip_congr (fun i _ => rfl) (fun i hi => ?_)
      rw [← rtn_ml, rtn_swap, hl i hi, rtn_mlz]
    rw [e1, ip_smul, hU, ← rtn_mlz', mlz_1]
  have hc' : nrm c = rtn (2 * H + 2 * (n + e)) (1, 0, 0, 0) := by
    refine rtn_inj (2 * H) ?_
    have e1 := ip_rtn D (2 * H) F
    rw [hF, ip_congr (f' := fun i => mlz c (U i)) (g' := fun i => mlz c (U i)) (fun i hi => hl i hi) (fun i hi => hl i hi), ip_smul, ip_smul', hU, ← mlz_assoc, ← rtn_mlz', mlz_1, mlz_comm c] at e1
    rw [show nrm c = mlz (cjz c) c from rfl, e1, rtn_add, rtn_add]
    congr 1; omega
  rw [hz, nrm_rtn, hc', rtn_add]
  congr 1; omega
theorem dss_ok {code : List Int} (h : code.length ≤ 1048576) : Ok (s_DrawStabilizerState code) (fun r => r.2.length ≤ 1048576) := by
  unfold s_DrawStabilizerState
  refine (new_ok h).bO fun c hcu => (once_ok hcu).bO fun o ho => Ok.br (fun _ => (dbent_ok ho).bO fun r hr => Ok.some ?_) (fun _ => (below_ok ho).bO fun x hx => ?_)
  · have := hr.1; show r.2.1.length ≤ 1048576; omega
  have hb := hx.1.2.1 (by omega)
  obtain ⟨n, hn, hn1⟩ := nat_of (n := IntKind.wrap .i64 (1 + x.1)) (by rw [w64 (by omega) (by omega)]; omega)
  rw [hn]
  have hN : 1 ≤ (n : Int) ∧ (n : Int) ≤ 4 := by omega
  refine (dcirc_ok hx.2 hn1 (by omega)).bO fun g hg => ?_
  obtain ⟨⟨g1, g2, g3⟩, g4⟩ := hg
  rw [g1, circ_ok hN g.2.1 (by omega) g2, bO_some]
  refine Ok.some ?_
  have hl := (tB_len (runG_tB hN g.2.1 (idT n) g2 (id_ok hN).2.2.1)).2
  show (runG hN g.2.1 (idT n)).length ≤ 1048576
  omega
theorem law_StabState (code : List Int) : l_FnStabState code = some true := by
  unfold l_FnStabState
  rw [big_eq, bO_some]
  by_cases hb : 1048576 < (code.length : Int)
  · simp only [hb, decide_true, br_true]
  simp only [hb, decide_false, br_false]
  obtain ⟨x2, e2, hl⟩ := dss_ok (code := code) (by omega)
  obtain ⟨N, l⟩ := x2
  simp only at hl
  rw [e2, bO_some]
  simp only []
  cases ht : tB N l with
  | false =>
    obtain ⟨ei, es⟩ := i_stst_no hl ht
    rw [ei, bO_some, es, bO_some]
    simp only [bne_self_eq_false, br_false, s_eqs [] [] (by simp), beq_self_eq_true, bO_some, Bool.not_true, Bool.not_false, br_true, l_FnStabState_j1, l_FnStabState_j2]
  | true =>
    have h := (tB_len ht).1
    have hl8 := (tB_len ht).2
    obtain ⟨i, e, hi2, he, hne, hN2, es, ei⟩ := i_stst h ht
    have h16 := pw16' h
    have hq := qc_pw h
    have J := red_end (h := h) ht
    have hrun : runG h (ivL' (redP h l).2) (idT N) = l := by
      have e := run_back' (h := h) _ _ ht J.gs
      rwa [← J.run, red_id (h := h) ht] at e
    have hL := ivL_ok (N := N) J.gs
    have hH : hc (ivL' (redP h l).2) ≤ 24 := by rw [ivL_hc]; exact red_hc h l
    obtain ⟨er, hri⟩ := red_s (h := h) ht (by omega)
    have hlen : (ivL' (redP h l).2).length ≤ 250 := by
      have := hri.2.1
      unfold ivL'
      simpa using this
    have esy : s_SynthesizeTableau N l = some (ivL' (redP h l).2, true) := by
      unfold s_SynthesizeTableau
      have hb := s_back (redP h l).2 (by have := hri.2.1; omega)
      rw [er, bO_some]
      show bO (s_l11Inverse (redP h l).2) _ = _
      rw [hb, bO_some]
      rfl
    generalize ivL' (redP h l).2 = L at hrun hL hH hlen esy
    have hLg := gok_of hL
    have hS := tab_cj h hL hrun
    obtain ⟨c, hline⟩ := line h hLg hS (dl i)
    have hFs : ∀ j, j < N.toNat → ∀ r, r < 2 ^ N.toNat → paQ (rwB h l j).q (prs (rwB h l) N.toNat (dl i)) r = prs (rwB h l) N.toNat (dl i) r := fun j hj r hr => f_stab h hLg hS (dl i) hj hr
    have hF16 := prs_bd16 h (rwB h l) i (Nat.le_refl N.toNat)
    generalize prs (rwB h l) N.toNat (dl i) = F at hne hN2 es ei hline hFs hF16
    have hUU : ipz (2 ^ N.toNat) (gzs L (dl 0)) (gzs L (dl 0)) = rtn (2 * hc L) (1, 0, 0, 0) := by
      rw [ip_run hLg, ip_dl (Nat.two_pow_pos _)]
    have hnz := line_ip he hUU hN2 hline
    have hG : bdv ((256 : Nat) : Int) (fun r => rtn (N.toNat - e) (F r)) := fun r => by
      have := bd_rtn (N.toNat - e) (hF16 r)
      have h2 : 2 ^ (N.toNat - e) ≤ 2 ^ 4 := Nat.pow_le_pow_right (by omega) (by omega)
      exact bdz_mono (by omega) this
    have hG30 : bdv 1073741824 (fun r => rtn (N.toNat - e) (F r)) := fun r => bdz_mono (by omega) (hG r)
    have hip1 : ipz (2 ^ N.toNat) (fun r => rtn (N.toNat - e) (F r)) (fun r => rtn (N.toNat - e) (F r)) = rtn (2 * N.toNat + 2 * N.toNat) (1, 0, 0, 0) := by
      rw [ip_rtn, hN2, rtn_add]
      congr 1; omega
    have hGs : ∀ j, j < N.toNat → ∀ r, r < 2 ^ N.toNat → paQ (rwB h l j).q (fun r => rtn (N.toNat - e) (F r)) r = rtn (N.toNat - e) (F r) := fun j hj r hr => by
      have : (fun r => rtn (N.toNat - e) (F r)) = fun r => mlz (rz (N.toNat - e)) (F r) := funext fun r => rtn_ml _ _
      rw [this, pa_smul, hFs j hj r hr, ← rtn_ml]
    generalize hGd : (fun r => rtn (N.toNat - e) (F r)) = G at es ei hnz hG hG30 hip1 hGs
    rw [ei, bO_some, es, bO_some]
    have hVl : (vc (2 ^ N.toNat) (2 * N.toNat) G).length ≤ 1048576 := by rw [vc_len]; omega
    simp only [bne_self_eq_false, br_false, s_eqs _ _ (show (vc (2 ^ N.toNat) (2 * N.toNat) G).length ≤ 4000000 by omega), beq_self_eq_true, bO_some, Bool.not_true, l_FnStabState_j1]
    -- what stands behind the loop
    have tailOk : l_FnStabState_j3 (N, l) (vc (2 ^ N.toNat) (2 * N.toNat) G, true) = some true := by
      unfold l_FnStabState_j3
      simp only []
      have hbs := s_bs h (i := 0) (Nat.two_pow_pos _)
      rw [show ((0 : Nat) : Int) = 0 from rfl] at hbs
      rw [s_ip (Bf := 256) (Bg := 256) h16 hq (by omega) (by omega) (by omega) (by omega) hG hG, bO_some, hip1, esy, bO_some, hbs, bO_some, s_run h (by omega) (fun q hq => (hL q hq).2) hH 0, bO_some]
      have hU' : vc (2 ^ N.toNat) (hc L) (gzs L (dl 0)) = vc (2 ^ N.toNat) (hc L) (fun r => if r < 2 ^ N.toNat then gzs L (dl 0) r else (0, 0, 0, 0)) := vc_congr fun i hi => (if_pos hi).symm
      have hUb : bdv ((4096 : Nat) : Int) (fun r => if r < 2 ^ N.toNat then gzs L (dl 0) r else (0, 0, 0, 0)) := fun r => by
        show bdz _ (if r < 2 ^ N.toNat then gzs L (dl 0) r else (0, 0, 0, 0))
        split
        · rename_i hr
          exact u_bd hLg hH (Nat.two_pow_pos _) hr
        · unfold bdz; simp
      have hipU : ipz (2 ^ N.toNat) (fun r => if r < 2 ^ N.toNat then gzs L (dl 0) r else (0, 0, 0, 0)) G = ipz (2 ^ N.toNat) (gzs L (dl 0)) G := ip_congr (fun i hi => if_pos hi) (fun i _ => rfl)
      simp only []
      rw [hU', s_ip (Bf := 4096) (Bg := 256) h16 hq (by omega) (by omega) (by omega) (by omega) hUb hG, bO_some, hipU]
      obtain ⟨y, hy1, hy2⟩ := nrm_unit (hc L + 2 * N.toNat) _ hnz
      have hdy : dq (hc L + 2 * N.toNat) (ipz (2 ^ N.toNat) (gzs L (dl 0)) G) = dq 0 y := by
        rw [dq_eq2]
        exact hy1.symm
      have hyb : bdz 1 y := nrm_bd (by omega) (by rw [hy2]; decide)
      have hy30 : bdz 1073741824 y := bdz_mono (by omega) hyb
      have hyv : vd (dq 0 y) = true := dq_vd (by omega) hy30
      have hmul : mulF (dq 0 y) (dq 0 (cjz y)) = some (dq 0 (1, 0, 0, 0)) := by
        have e1 : mlz y (cjz y) = (1, 0, 0, 0) := by rw [mlz_comm]; exact hy2
        rw [dq_mul (by omega) hy30 (bd_cjz hy30) (by rw [e1]; unfold bdz; simp), e1]
      have hns : s_NormSquared (dq 0 y).1 (dq 0 y).2.1 (dq 0 y).2.2.1 (dq 0 y).2.2.2.1 (dq 0 y).2.2.2.2 = some (res (some (dq 0 (1, 0, 0, 0)))) := by
        unfold s_NormSquared
        rw [s_cj _ hyv, bO_some, cD_dq (by omega) hy30, s_mul' (dq 0 y) (dq 0 (cjz y)), if_pos ⟨hyv, dq_vd (by omega) (bd_cjz hy30)⟩, hmul, bO_some]
        try rfl
      have h4 : dq (2 * N.toNat + 2 * N.toNat) (rtn (2 * N.toNat + 2 * N.toNat) (1, 0, 0, 0)) = dq 0 (1, 0, 0, 0) := by
        rw [dq_eq2]
        try rfl
      rw [hdy, h4]
      simp only [res]
      rw [hns, bO_some, ← one_dq]
      try rfl
    have loop : ∀ (m k : Nat), (k : Int) ≤ N → N.toNat - k < m → l_FnStabState_l1 (N, l) (vc (2 ^ N.toNat) (2 * N.toNat) G, true) m (k : Int) = some true := by
      intro m
      induction m with
      | zero => intro k _ h; omega
      | succ m ih =>
        intro k hk hm
        rw [l_FnStabState_l1]
        simp only []
        by_cases ek : (k : Int) = N
        · rw [decide_eq_false (by omega), br_false]
          exact tailOk
        · have hkl : k < N.toNat := by omega
          have hg : geti l (IntKind.wrap .i64 (N + (k : Int))) = some (rwB h l k).q := by
            rw [w64 (by omega) (by omega), show N + (k : Int) = ((N.toNat + k : Nat) : Int) by omega]
            exact geti_nat (rwG_q h ht (by omega))
          have hst : stM (rwB h l k).q (vc (2 ^ N.toNat) (2 * N.toNat) G) = true := by
            have hpn := (rwB h l k).n
            unfold stM
            rw [apM_ok (rwB h l k).v (vc_st hq (by omega) hG30) (by rw [vc_len, hpn])]
            simp only []
            rw [beq_iff_eq, ap_vc _ (by omega) hG30]
            exact vc_congr fun r hr => by
              have := hGs k hkl r hr
              rw [← hGd] at this ⊢
              exact this
          rw [decide_eq_true (by omega), br_true, hg, bO_some, i_stM _ _ hVl, bO_some, s_stM _ _ hVl, hst]
          simp only [Bool.not_true, br_false, bO_some, l_FnStabState_j6]
          rw [w64s (n := 5) (by omega) (by omega)]
          exact ih (k + 1) (by omega) (by omega)
    exact loop FU 0 (by omega) (by rw [FU_eq]; omega)
theorem law_sS (A : Option Addr) (n c : Nat) (l : List Int) (w : World) (wa : IsBytesC w A n c l) :
    Calls Tryz.prog 3 #[.slice A n c] w fun e w' => e = .returned (.bool true) ∧ Below w.heap.size w w' :=
  spec_calls (l_FnStabState_ok (law_StabState l)) rfl (args1 (.plain (pv_bytes wa)))
end Go.Proofs.YtfoiedjjhgpcpaaGreat
