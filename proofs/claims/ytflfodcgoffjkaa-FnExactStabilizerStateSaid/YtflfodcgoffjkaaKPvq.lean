/- Plain laws: projections, inner products and stabilizer states of the reference, at a common exponent. -/
import Derived.Test.YtflfodcgoffjkaaK6b
import Derived.Test.YtflfodcgoffjkaaK17
import Derived.Test.YtflfodcgoffjkaaKPvh
import Derived.Test.YtflfodcgoffjkaaKPvz
namespace Go.Proofs.Ytflfodcgoffjkaa
open Go.RowKit
set_option maxRecDepth 100000
set_option linter.unusedVariables false
set_option linter.unusedSimpArgs false
theorem as_loop {D K : Nat} {f g : Amp} (hD : D ≤ 16) (hK : K ≤ 60) (hf : bdv 1073741824 f) (hg : bdv 1073741824 g) (hs : bdv 1073741824 (fun i => adz (f i) (g i))) : ∀ (m i : Nat), i ≤ D → D - i < m →
    s_AddStates_l1 (vc D K f) (vc D K g) m (i : Int) (vc i K (fun i => adz (f i) (g i))) = some (vc D K (fun i => adz (f i) (g i)), true) := by
  intro m
  induction m with
  | zero => intro i _ h; omega
  | succ m ih =>
    intro i hi hm
    rw [s_AddStates_l1, vc_len]
    by_cases e : i = D
    · subst e
      have hlt : decide ((i : Int) < (i : Int)) = false := decide_eq_false (by omega)
      rw [hlt, br_false]
      rfl
    · have hil : i < D := by omega
      have hlt : decide ((i : Int) < (D : Int)) = true := decide_eq_true (by omega)
      rw [hlt, br_true, vc_geti hil, bO_some, vc_geti hil, bO_some, s_add (dq K (f i)) (dq K (g i)), if_pos ⟨dq_vd hK (hf i), dq_vd hK (hg i)⟩, dq_add hK (hf i) (hg i) (hs i), bO_some]
      simp only [res, Bool.not_true, br_false]
      rw [decide_eq_true (by rw [vc_len]; simp; omega), gd_true, w64s hil (by omega)]
      have := ih (i + 1) (by omega) (by omega)
      rw [vc_snoc] at this
      exact this
theorem s_as {D K : Nat} {f g : Amp} (hD : D ≤ 16) (hq : 0 < qcF D) (hK : K ≤ 60) (hf : bdv 1073741824 f) (hg : bdv 1073741824 g) (hs : bdv 1073741824 (fun i => adz (f i) (g i))) : s_AddStates (vc D K f) (vc D K g) = some (vc D K (fun i => adz (f i) (g i)), true) := by
  unfold s_AddStates
  rw [s_st _ (by rw [vc_len]; omega), vc_st hq hK hf, bO_some]
  simp only [Bool.not_true, br_false]
  rw [s_st _ (by rw [vc_len]; omega), vc_st hq hK hg, bO_some]
  simp only [Bool.not_true, br_false, bO_some, vc_len, bne_self_eq_false, s_AddStates_j1]
  exact as_loop hD hK hf hg hs FU 0 (Nat.zero_le _) (by rw [FU_eq]; omega)
theorem ap_vc {N : Int} (p : Gp N) {K : Nat} {f : Amp} (hK : K ≤ 60) (hf : bdv 1073741824 f) : apP p.q (vc (2 ^ N.toNat) K f) = vc (2 ^ N.toNat) K (paQ p.q f) := by
  unfold apP
  rw [p.n]
  refine List.map_congr_left fun r hr => ?_
  have hr := List.mem_range.1 hr
  unfold atp
  rw [vc_get (gp_lt p hr), Option.getD_some, ph_dq _ K hK (hf _)]
  rfl
theorem is2 : s_InvSqrt2Power 2 = some h2 := by decide +kernel
theorem h2_dq : h2 = dq 2 (1, 0, 0, 0) := by decide
theorem h2_vd : vd h2 = true := by decide
theorem h2_mul {K : Nat} {n : Z4} (hK : K + 2 ≤ 60) (hn : bdz 1073741824 n) : mulF (dq K n) h2 = some (dq (K + 2) n) := by
  rw [h2_dq, dq_mul hK hn (by unfold bdz; simp) (by rw [mlz_1]; exact hn), mlz_1]
/-- A projection. -/
theorem s_pj {N : Int} (h : 1 ≤ N ∧ N ≤ 4) (p : Gp N) {K M : Nat} {f : Amp} (hK : K + 2 ≤ 60) (hM : 2 * M ≤ 1073741824) (hf : bdv M f) :
    s_ProjectState p.q.1 p.q.2.1 p.q.2.2.1 p.q.2.2.2 (vc (2 ^ N.toNat) K f) = some (vc (2 ^ N.toNat) (K + 2) (prj p.q f), true) := by
  have h16 := pw16' h
  have hq := qc_pw h
  have hf30 : bdv 1073741824 f := fun i => bdz_mono (by omega) (hf i)
  have hpf : bdv M (paQ p.q f) := fun i => bd_ph _ (hf _)
  have hpf30 : bdv 1073741824 (paQ p.q f) := fun i => bdz_mono (by omega) (hpf i)
  have hsum : bdv 1073741824 (fun i => adz (f i) (paQ p.q f i)) := fun i => bdz_mono (M := (M : Int) + M) (by omega) (bdz_adz (hf i) (hpf i))
  have hpm : s_PauliMatrix p.q.1 p.q.2.1 p.q.2.2.1 p.q.2.2.2 = some (pmL p.q) := s_pm (n := p.q.1) (x := p.q.2.1) (z := p.q.2.2.1) (p := p.q.2.2.2) p.v
  have hlen : (pmL p.q).length = 2 ^ N.toNat := by rw [pm_tb, tb_len, p.n]
  have hmt : mtB (pmL p.q) = true := by rw [pm_tb]; exact tb_mtB (by rw [p.n]; exact hq) (fun r c _ _ => pm_vd _ _ _)
  have hst : stB (vc (2 ^ N.toNat) K f) = true := vc_st hq (by omega) hf30
  have hap : apM (pmL p.q) (vc (2 ^ N.toNat) K f) = some (vc (2 ^ N.toNat) K (paQ p.q f)) := by
    unfold apM
    rw [if_pos ⟨⟨hmt, hst⟩, by rw [hlen, vc_len]⟩, ap_pm p.v (by rw [vc_len, p.n]) (st_inv hst).1, ap_vc p (by omega) hf30]
  unfold s_ProjectState
  rw [hpm, bO_some, s_apply _ _ (by omega) (fun r hr => by have := (mt_inv hmt r hr).1; omega) (by rw [vc_len]; omega), hap, bO_some]
  simp only [resl]
  rw [s_as h16 hq (by omega) hf30 hpf30 hsum, bO_some]
  simp only [Bool.not_true, br_false, bO_some, s_ProjectState_j1]
  rw [is2, bO_some, s_scale (z := h2) h16 (vc_st hq (by omega) hsum) h2_vd hsum (fun i _ => h2_mul hK (hsum i)), bO_some]
  rfl
theorem prs_bd16 {N : Int} (h : 1 ≤ N ∧ N ≤ 4) (S : Nat → Gp N) (i : Nat) {k : Nat} (hk : k ≤ N.toNat) : bdv ((16 : Nat) : Int) (prs S k (dl i)) := fun r => by
  have h1 := prs_bd (M := 1) S (dl_bd i) k r
  have h2 : 2 ^ k ≤ 16 := Nat.le_trans (Nat.pow_le_pow_right (by omega) hk) (pw16' h)
  exact bdz_mono (by omega) h1
/-- All projections of a basis state. -/
theorem s_from {N : Int} (h : 1 ≤ N ∧ N ≤ 4) {l : List Q4} (ht : tB N l = true) {i : Nat} (hi : i < 2 ^ N.toNat) : s_l27From N l (i : Int) = some (vc (2 ^ N.toNat) (2 * N.toNat) (prs (rwB h l) N.toNat (dl i)), true) := by
  have hl8 := (tB_len ht).2
  have key : ∀ (m j : Nat), j ≤ N.toNat → N.toNat - j < m → s_l27From_l1 N l m (j : Int) (vc (2 ^ N.toNat) (2 * j) (prs (rwB h l) j (dl i))) = some (vc (2 ^ N.toNat) (2 * N.toNat) (prs (rwB h l) N.toNat (dl i)), true) := by
    intro m
    induction m with
    | zero => intro j _ h; omega
    | succ m ih =>
      intro j hj hm
      rw [s_l27From_l1]
      by_cases e : j = N.toNat
      · have hlt : decide ((j : Int) < N) = false := decide_eq_false (by omega)
        rw [hlt, br_false, e]
        rfl
      · have hjl : j < N.toNat := by omega
        have hlt : decide ((j : Int) < N) = true := decide_eq_true (by omega)
        have hg : geti l (IntKind.wrap .i64 (N + (j : Int))) = some (rwB h l j).q := by
          rw [w64 (by omega) (by omega), show N + (j : Int) = ((N.toNat + j : Nat) : Int) by omega]
          exact geti_nat (rwG_q h ht (by omega))
        rw [hlt, br_true, hg, bO_some, s_pj h (rwB h l j) (K := 2 * j) (M := 16) (by omega) (by omega) (prs_bd16 h _ i (by omega)), bO_some]
        simp only [Bool.not_true, br_false]
        rw [w64s (n := 5) (by omega) (by omega)]
        exact ih (j + 1) (by omega) (by omega)
  unfold s_l27From
  rw [s_bs h hi, bO_some]
  exact key FU 0 (Nat.zero_le _) (by rw [FU_eq]; omega)
theorem s_none (v : List DQ) (hl : v.length ≤ 4000000) : s_l27None v = some (v.all fun x => decide (x = d0)) := by
  unfold s_l27None
  rw [← all_get]
  rw [loop_all0 (fun m k => s_l27None_l1 v m k) v.length (gBv (fun x => decide (x = d0)) v) hl (fun m k hk => ?_) (some true) (fun m => ?_)]
  · cases (List.range v.length).all (gBv (fun x => decide (x = d0)) v) <;> rfl
  · have hlt : decide ((k : Int) < (v.length : Int)) = true := decide_eq_true (by omega)
    show s_l27None_l1 v (m + 1) (k : Int) = _
    rw [s_l27None_l1, hlt, br_true, geti_lt hk, bO_some, d0_eq, w64s hk (by omega), gBv_eq _ hk]
    cases decide (v[k] = d0) <;> rfl
  · have hlt : decide ((v.length : Int) < (v.length : Int)) = false := decide_eq_false (by omega)
    show s_l27None_l1 v (m + 1) (v.length : Int) = _
    rw [s_l27None_l1, hlt, br_false]
    rfl
/-- The conjugate of a number. -/
theorem dvb_cjz (x : Z4) : dvb (cjz x) = dvb x := by
  rw [Bool.eq_iff_iff]
  unfold dvb
  rw [ev4_iff, ev4_iff]
  unfold cjz rt
  simp only
  omega
def cD (x : DQ) : DQ := (x.1, -x.2.2.2.1, -x.2.2.1, -x.2.1, x.2.2.2.2)
theorem cD_dq {K : Nat} {n : Z4} (hK : K ≤ 60) (hn : bdz 1073741824 n) : cD (dq K n) = dq K (cjz n) := by
  have hv := dq_vd hK hn
  have e := dq_val K n
  generalize dq K n = x at *
  have e1 : znm (cD x) = cjz (znm x) := rfl
  have e2 : zexn (cD x) = zexn x := rfl
  have e3 : zex (cD x) = zex x := rfl
  refine dq_eq ?_ ?_
  · obtain ⟨a, b, c⟩ := (vd_iff x).1 hv
    refine (vd_iff _).2 ⟨?_, ?_, ?_⟩
    · rw [e1, vz_iff]; exact bd_cjz ((vz_iff _).1 a)
    · rw [e3]; exact b
    · rw [e1, e2, dvb_cjz]; exact c
  · rw [e1, e2, ← cjz_rtn, ← cjz_rtn, e]
theorem s_cj (x : DQ) (hv : vd x = true) : s_ConjDOmega x.1 x.2.1 x.2.2.1 x.2.2.2.1 x.2.2.2.2 = some (cD x) := by
  obtain ⟨a, b, c⟩ := (vd_iff x).1 hv
  obtain ⟨⟨_, _⟩, ⟨_, _⟩, ⟨_, _⟩, _, _⟩ := (vz_iff _).1 a
  have hz := s_zv (znm x)
  unfold znm at hz
  simp only at hz
  unfold s_ConjDOmega s_ConjZOmega
  rw [s_vd, hv, bO_some]
  simp only [Bool.not_true, br_false]
  unfold znm at a
  rw [hz, a, bO_some]
  simp only [Bool.not_true, br_false, bO_some]
  unfold znm at *
  simp only at *
  rw [w64 (x := 0 - x.2.2.2.1) (by omega) (by omega), w64 (x := 0 - x.2.2.1) (by omega) (by omega), w64 (x := 0 - x.2.1) (by omega) (by omega)]
  unfold cD
  simp only [Int.zero_sub]
/-- An inner product. -/
theorem ip_loop {D K L Bf Bg : Nat} {f g : Amp} (hD : D ≤ 16) (hKL : K + L ≤ 60) (hB : 64 * (Bf * Bg) ≤ 1073741824) (hBf : Bf ≤ 1073741824) (hBg : Bg ≤ 1073741824) (hf : ∀ i, i < D → bdz Bf (f i)) (hg : ∀ i, i < D → bdz Bg (g i)) : ∀ (m i : Nat), i ≤ D → D - i < m →
    s_InnerProduct_l1 (vc D K f) (vc D L g) m (i : Int) (dq (K + L) (smz (fun j => mlz (cjz (f j)) (g j)) i)).1 (dq (K + L) (smz (fun j => mlz (cjz (f j)) (g j)) i)).2.1 (dq (K + L) (smz (fun j => mlz (cjz (f j)) (g j)) i)).2.2.1 (dq (K + L) (smz (fun j => mlz (cjz (f j)) (g j)) i)).2.2.2.1 (dq (K + L) (smz (fun j => mlz (cjz (f j)) (g j)) i)).2.2.2.2 =
      some (res (some (dq (K + L) (ipz D f g)))) := by
  have hP : ∀ i, i < D → bdz ((4 * (Bf * Bg) : Nat) : Int) (mlz (cjz (f i)) (g i)) := fun i hi => bdz_mlz (bd_cjz (hf i hi)) (hg i hi)
  have hS : ∀ i, i ≤ D → bdz 1073741824 (smz (fun j => mlz (cjz (f j)) (g j)) i) := fun i hi => by
    refine bdz_mono ?_ (smz_bd (M := 4 * (Bf * Bg)) (fun j hj => hP j (by omega)))
    have : i * (4 * (Bf * Bg)) ≤ 16 * (4 * (Bf * Bg)) := Nat.mul_le_mul_right _ (by omega)
    omega
  intro m
  induction m with
  | zero => intro i _ h; omega
  | succ m ih =>
    intro i hi hm
    rw [s_InnerProduct_l1, vc_len]
    by_cases e : i = D
    · subst e
      have hlt : decide ((i : Int) < (i : Int)) = false := decide_eq_false (by omega)
      rw [hlt, br_false]
      rfl
    · have hil : i < D := by omega
      have hlt : decide ((i : Int) < (D : Int)) = true := decide_eq_true (by omega)
      have f30 : bdz 1073741824 (f i) := bdz_mono (by omega) (hf i hil)
      have g30 : bdz 1073741824 (g i) := bdz_mono (by omega) (hg i hil)
      have p30 : bdz 1073741824 (mlz (cjz (f i)) (g i)) := bdz_mono (by omega) (hP i hil)
      rw [hlt, br_true, vc_geti hil, bO_some, s_cj _ (dq_vd (by omega) f30), bO_some, vc_geti hil, bO_some, cD_dq (by omega) f30]
      rw [s_mul' (dq K (cjz (f i))) (dq L (g i)), if_pos ⟨dq_vd (by omega) (bd_cjz f30), dq_vd (by omega) g30⟩, dq_mul hKL (bd_cjz f30) g30 p30, bO_some]
      simp only [res]
      rw [s_add (dq (K + L) (smz (fun j => mlz (cjz (f j)) (g j)) i)) (dq (K + L) (mlz (cjz (f i)) (g i))), if_pos ⟨dq_vd hKL (hS i (by omega)), dq_vd hKL p30⟩, dq_add hKL (hS i (by omega)) p30 (hS (i + 1) (by omega)), bO_some]
      simp only [res, Bool.not_true, br_false, bO_some, s_InnerProduct_j5]
      rw [w64s hil (by omega)]
      exact ih (i + 1) (by omega) (by omega)
theorem s_ip {D K L Bf Bg : Nat} {f g : Amp} (hD : D ≤ 16) (hq : 0 < qcF D) (hKL : K + L ≤ 60) (hB : 64 * (Bf * Bg) ≤ 1073741824) (hBf : Bf ≤ 1073741824) (hBg : Bg ≤ 1073741824) (hf : bdv Bf f) (hg : bdv Bg g) :
    s_InnerProduct (vc D K f) (vc D L g) = some (res (some (dq (K + L) (ipz D f g)))) := by
  have f30 : bdv 1073741824 f := fun i => bdz_mono (by omega) (hf i)
  have g30 : bdv 1073741824 g := fun i => bdz_mono (by omega) (hg i)
  unfold s_InnerProduct
  rw [s_st _ (by rw [vc_len]; omega), vc_st hq (by omega) f30, bO_some]
  simp only [Bool.not_true, br_false]
  rw [s_st _ (by rw [vc_len]; omega), vc_st hq (by omega) g30, bO_some]
  simp only [Bool.not_true, br_false, bO_some, vc_len, bne_self_eq_false, s_InnerProduct_j1]
  have := ip_loop hD hKL hB hBf hBg (fun i _ => hf i) (fun i _ => hg i) FU 0 (Nat.zero_le _) (by rw [FU_eq]; omega)
  rw [show smz (fun j => mlz (cjz (f j)) (g j)) 0 = (0, 0, 0, 0) from rfl, dq_0] at this
  exact this
theorem bd_rt {M : Int} {x : Z4} (h : bdz M x) : bdz (2 * M) (rt x) := by unfold bdz rt at *; simp only; omega
theorem bd_rtn {M : Nat} : ∀ (k : Nat) {x : Z4}, bdz M x → bdz ((2 ^ k * M : Nat) : Int) (rtn k x)
  | 0, x, h => by rw [Nat.pow_zero, Nat.one_mul]; exact h
  | k + 1, x, h => by
    have := bd_rt (bd_rtn k h)
    rw [show ((2 ^ (k + 1) * M : Nat) : Int) = 2 * ((2 ^ k * M : Nat) : Int) by rw [Nat.pow_succ, Nat.mul_comm (2 ^ k) 2, Nat.mul_assoc]; omega]
    exact this
theorem rtD_vd : vd rtD = true := by decide
theorem rtD_dq : rtD = dq 0 (0, 1, 0, -1) := by decide
theorem rt_mulD {K : Nat} {n : Z4} (hK : K ≤ 60) (hn : bdz 1073741824 n) (hr : bdz 1073741824 (rt n)) : mulF (dq K n) rtD = some (dq K (rt n)) := by
  rw [rtD_dq, dq_mul (by omega) hn (by unfold bdz; simp) (by rw [mlz_comm, ← rt_ml]; exact hr), mlz_comm, ← rt_ml, Nat.add_zero]
theorem root_eq : (bO (s_InvSqrt2Power 1) fun x1 => bO (s_InvSqrt2Power 1) fun x2 => s_AddDOmega x1.1 x1.2.1 x1.2.2.1 x1.2.2.2.1 x1.2.2.2.2 x2.1 x2.2.1 x2.2.2.1 x2.2.2.2.1 x2.2.2.2.2) = some (res (some rtD)) := by decide +kernel
theorem one_eqD (q : DQ) : ((q.1 == 1) && ((q.2.1 == 0) && ((q.2.2.1 == 0) && ((q.2.2.2.1 == 0) && (q.2.2.2.2 == 0))))) = decide (q = ((1, 0, 0, 0, 0) : DQ)) := by
  obtain ⟨a, b, c, d, e⟩ := q
  rw [Bool.eq_iff_iff]
  simp
theorem ip_rtn (D k : Nat) (f : Amp) : ipz D (fun i => rtn k (f i)) (fun i => rtn k (f i)) = rtn (2 * k) (ipz D f f) := by
  simp only [rtn_ml]
  rw [ip_smul, ip_smul', ← mlz_assoc]
  have e : mlz (rz k) (cjz (rz k)) = rz (2 * k) := by
    have h1 : ∀ k, rz k = rtn k (1, 0, 0, 0) := fun k => by rw [rtn_ml, mlz_1]
    rw [h1 k, cjz_rtn, ← rtn_mlz, ← rtn_mlz', show mlz (1, 0, 0, 0) (cjz (1, 0, 0, 0)) = (1, 0, 0, 0) from rfl, rtn_add, h1 (2 * k)]
    congr 1; omega
  rw [e]
theorem rtn_one_inj {a b : Nat} (h : rtn (2 * a) (1, 0, 0, 0) = rtn (2 * b) (1, 0, 0, 0)) : a = b := by
  rw [rtn_even, rtn_even] at h
  have e := congrArg (fun x : Z4 => x.1) h
  simp only [Int.mul_one] at e
  have e2 : 2 ^ a = 2 ^ b := by omega
  exact (Nat.pow_right_inj (by omega)).1 e2
/-- Scaled to norm one. -/
theorem s_whole {n D e : Nat} {f : Amp} (hD : D ≤ 16) (hq : 0 < qcF D) (hn : n ≤ 4) (he : e ≤ n) (hf : bdv ((16 : Nat) : Int) f) (hN : ipz D f f = rtn (2 * (n + e)) (1, 0, 0, 0)) : s_l27Whole (vc D (2 * n) f) = some (vc D (2 * n) (fun i => rtn (n - e) (f i)), true) := by
  have hb : ∀ k, k ≤ 4 → bdv ((256 : Nat) : Int) (fun i => rtn k (f i)) := fun k hk i => by
    have := bd_rtn k (hf i)
    have h2 : 2 ^ k ≤ 2 ^ 4 := Nat.pow_le_pow_right (by omega) hk
    exact bdz_mono (by omega) this
  have hb5 : ∀ k, k ≤ 4 → bdv 1073741824 (fun i => rt (rtn k (f i))) := fun k hk i => bdz_mono (M := 2 * ((256 : Nat) : Int)) (by omega) (bd_rt (hb k hk i))
  have key : ∀ (m k : Nat), k ≤ n - e → n - e - k < m → s_l27Whole_l1 (res (some rtD)) m (vc D (2 * n) (fun i => rtn k (f i))) (k : Int) = some (vc D (2 * n) (fun i => rtn (n - e) (f i)), true) := by
    intro m
    induction m with
    | zero => intro k _ h; omega
    | succ m ih =>
      intro k hk hm
      have hlt : decide ((k : Int) ≤ 4) = true := decide_eq_true (by omega)
      have h30 : bdv 1073741824 (fun i => rtn k (f i)) := fun i => bdz_mono (by omega) (hb k (by omega) i)
      rw [s_l27Whole_l1, hlt, br_true, s_ip (Bf := 256) (Bg := 256) hD hq (by omega) (by omega) (by omega) (by omega) (hb k (by omega)) (hb k (by omega)), bO_some, ip_rtn, hN, rtn_add]
      simp only [res, br_true]
      unfold s_OneDOmega
      rw [bO_some, one_eqD, bO_some]
      have hone : (dq (2 * n + 2 * n) (rtn (2 * k + 2 * (n + e)) (1, 0, 0, 0)) = ((1, 0, 0, 0, 0) : DQ)) ↔ k = n - e := by
        rw [show ((1, 0, 0, 0, 0) : DQ) = dq 0 (1, 0, 0, 0) from by decide, dq_eq2]
        show rtn (2 * k + 2 * (n + e)) (1, 0, 0, 0) = rtn (2 * n + 2 * n) (1, 0, 0, 0) ↔ _
        rw [show 2 * k + 2 * (n + e) = 2 * (k + (n + e)) by omega, show 2 * n + 2 * n = 2 * (2 * n) by omega]
        constructor
        · intro h'; have := rtn_one_inj h'; omega
        · intro h'; rw [h']; congr 2; omega
      unfold s_l27Whole_j4
      by_cases e1 : k = n - e
      · rw [decide_eq_true (hone.2 e1), br_true, e1]
      · rw [decide_eq_false (fun h' => e1 (hone.1 h')), br_false]
        have hsc := s_scale (K := 2 * n) (L := 2 * n) (f := fun i => rtn k (f i)) (g := fun i => rt (rtn k (f i))) (z := rtD) hD (vc_st hq (by omega) h30) rtD_vd (hb5 k (by omega)) (fun i _ => rt_mulD (by omega) (h30 i) (hb5 k (by omega) i))
        rw [hsc, bO_some]
        simp only [Bool.not_true, br_false]
        rw [w64s (n := 5) (by omega) (by omega)]
        exact ih (k + 1) (by omega) (by omega)
  unfold s_l27Whole
  have hr := root_eq
  obtain ⟨x1, e1, hr⟩ := bO_inv hr
  obtain ⟨x2, e2, hr⟩ := bO_inv hr
  have ex : x1 = x2 := Option.some.inj (e1.symm.trans e2)
  subst ex
  rw [e1, bO_some, bO_some, hr, bO_some]
  exact key FU 0 (Nat.zero_le _) (by rw [FU_eq]; omega)
end Go.Proofs.Ytflfodcgoffjkaa
