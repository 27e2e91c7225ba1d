/- Plain laws: the stabilizer state of a tableau, the program's side. -/
import Derived.Test.YtflfodcgoffjkaaKPvs
import Derived.Test.YtflfodcgoffjkaaKPiq
namespace Go.Proofs.Ytflfodcgoffjkaa
open Go.RowKit
set_option maxRecDepth 100000
set_option linter.unusedVariables false
set_option linter.unusedSimpArgs false
theorem cD_vd {x : DQ} (h : vd x = true) : vd (cD x) = true := by
  obtain ⟨a, b, c⟩ := (vd_iff x).1 h
  refine (vd_iff _).2 ⟨(vz_iff _).2 (bd_cjz ((vz_iff _).1 a)), b, ?_⟩
  rcases c with c | c
  · exact .inl c
  · exact .inr ((dvb_cjz (znm x)).trans c)
theorem slc_end' {α : Type} {l : List α} {k : Nat} (h : k ≤ l.length) : slc l (k : Int) (l.length : Int) = some (l.drop k) := by
  unfold slc
  rw [if_pos (by omega)]
  simp only [Int.toNat_natCast]
  rw [List.take_of_length_le (by simp)]
theorem i_cj (x : DQ) (hv : vd x = true) : i_ConjDOmega x.1 x.2.1 x.2.2.1 x.2.2.2.1 x.2.2.2.2 = some (cD x) := by
  obtain ⟨a, b, c⟩ := (vd_iff x).1 hv
  obtain ⟨⟨_, _⟩, ⟨_, _⟩, ⟨_, _⟩, _, _⟩ := (vz_iff _).1 a
  have hz := i_zv (znm x)
  unfold znm at hz
  simp only at hz
  unfold i_ConjDOmega i_ConjZOmega
  rw [i_vd, hv, bO_some]
  simp only [Bool.not_true, br_false]
  unfold znm at a
  rw [hz, a, bO_some]
  simp only [Bool.not_true, br_false, bO_some]
  unfold znm at *
  simp only at *
  rw [w64 (x := 0 - x.2.2.2.1) (by omega) (by omega), w64 (x := 0 - x.2.2.1) (by omega) (by omega), w64 (x := 0 - x.2.1) (by omega) (by omega)]
  unfold cD
  simp only [Int.zero_sub]
def ipM (u v : List DQ) : Option DQ := if (stB u = true ∧ stB v = true) ∧ u.length = v.length then dotF d0 (u.map cD) v else none
theorem i_ipM (u v : List DQ) (hu : u.length ≤ 1048576) (hv : v.length ≤ 1048576) : i_InnerProduct u v = some (res (ipM u v)) := by
  unfold i_InnerProduct ipM
  rw [i_st u (by omega), bO_some]
  cases hsu : stB u with
  | false => rfl
  | true =>
    rw [i_st v (by omega), bO_some]
    cases hsv : stB v with
    | false => rfl
    | true =>
      simp only [Bool.not_true, br_false, bO_some, true_and]
      by_cases hl : u.length = v.length
      · have hne : (((u.length : Int)) != ((v.length : Int))) = false := by simp [hl]
        rw [hne, if_pos hl]
        unfold i_InnerProduct_j1
        rw [br_false]
        have key : ∀ (m k : Nat), k ≤ u.length → u.length - k < m → i_InnerProduct_l1 u v m (u.length : Int) (k : Int) ((u.take k).map cD) = i_InnerProduct_j2 v (u.map cD) := by
          intro m
          induction m with
          | zero => intro k _ h; omega
          | succ m ih =>
            intro k hk hm
            rw [i_InnerProduct_l1]
            by_cases e : k = u.length
            · subst e
              rw [decide_eq_false (by omega), br_false, List.take_length]
            · have hkl : k < u.length := by omega
              rw [decide_eq_true (by omega), br_true, geti_lt hkl, bO_some, i_cj _ ((st_inv hsu).1 _ (List.getElem_mem hkl)), bO_some, decide_eq_true (by simp; omega), gd_true, w64s hkl (by omega)]
              have := ih (k + 1) (by omega) (by omega)
              rw [List.take_succ_eq_append_getElem hkl, List.map_append] at this
              exact this
        have := key FU 0 (Nat.zero_le _) (by rw [FU_eq]; omega)
        rw [List.take_zero] at this
        refine Eq.trans this ?_
        unfold i_InnerProduct_j2
        rw [i_dot_eq (u.map cD) v (by simp; omega) (by simpa using hl) (fun x hx => ?_) (st_inv hsv).1, bO_some]
        obtain ⟨y, hy, rfl⟩ := List.mem_map.1 hx
        exact cD_vd ((st_inv hsu).1 y hy)
      · have hne : (((u.length : Int)) != ((v.length : Int))) = true := by rw [bne_iff_ne]; omega
        rw [hne, if_neg hl]
        rfl
theorem s_ipM (u v : List DQ) (hu : u.length ≤ 1048576) (hv : v.length ≤ 1048576) : s_InnerProduct u v = some (res (ipM u v)) := by
  unfold s_InnerProduct ipM
  rw [s_st u (by omega), bO_some]
  cases hsu : stB u with
  | false => rfl
  | true =>
    simp only [Bool.not_true, br_false]
    rw [s_st v (by omega), bO_some]
    cases hsv : stB v with
    | false => rfl
    | true =>
      simp only [Bool.not_true, br_false, bO_some, true_and]
      by_cases hl : u.length = v.length
      · have hne : (((u.length : Int)) != ((v.length : Int))) = false := by simp [hl]
        rw [hne, if_pos hl]
        unfold s_InnerProduct_j1
        rw [br_false]
        have key : ∀ (m k : Nat) (s : DQ), k ≤ u.length → u.length - k < m → vd s = true → s_InnerProduct_l1 u v m (k : Int) s.1 s.2.1 s.2.2.1 s.2.2.2.1 s.2.2.2.2 = some (res (dotF s ((u.map cD).drop k) (v.drop k))) := by
          intro m
          induction m with
          | zero => intro k _ _ h; omega
          | succ m ih =>
            intro k s hk hm hs
            rw [s_InnerProduct_l1]
            by_cases e : k = u.length
            · rw [decide_eq_false (by omega), br_false, List.drop_eq_nil_of_le (by omega : v.length ≤ k)]
              cases (u.map cD).drop k <;> rfl
            · have hkl : k < u.length := by omega
              have hkv : k < v.length := by omega
              have v1 := (st_inv hsu).1 _ (List.getElem_mem hkl)
              have v2 := (st_inv hsv).1 _ (List.getElem_mem hkv)
              rw [decide_eq_true (by omega), br_true, geti_lt hkl, bO_some, s_cj _ v1, bO_some, geti_lt hkv, bO_some, s_mul' (cD u[k]) v[k], bO_some, if_pos ⟨cD_vd v1, v2⟩, List.drop_eq_getElem_cons (l := u.map cD) (by simpa using hkl), List.drop_eq_getElem_cons hkv, List.getElem_map]
              unfold dotF
              cases hmu : mulF (cD u[k]) v[k] with
              | none =>
                have ha := s_add s d0
                unfold d0 at ha
                simp only at ha
                simp only [res]
                rw [ha, bO_some]
                rfl
              | some p =>
                have vp := (mul_val hmu).1
                have ha := s_add s p
                rw [if_pos ⟨hs, vp⟩] at ha
                simp only [res]
                rw [ha, bO_some]
                cases had : addF s p with
                | none =>
                  rw [Option.bind_some, had]
                  rfl
                | some z =>
                  rw [Option.bind_some, had, Option.bind_some]
                  simp only [res, Bool.not_true, br_false, bO_some, s_InnerProduct_j5]
                  rw [w64s hkl (by omega)]
                  exact ih (k + 1) z (by omega) (by omega) (add_val had).1
        have := key FU 0 d0 (Nat.zero_le _) (by rw [FU_eq]; omega) vd_d0
        rw [List.drop_zero, List.drop_zero] at this
        exact this
      · have hne : (((u.length : Int)) != ((v.length : Int))) = true := by rw [bne_iff_ne]; omega
        rw [hne, if_neg hl]
        rfl
theorem ip_eq (u v : List DQ) (hu : u.length ≤ 1048576) (hv : v.length ≤ 1048576) : i_InnerProduct u v = s_InnerProduct u v := (i_ipM u v hu hv).trans (s_ipM u v hu hv).symm
def bsI (n i : Nat) : Bool := !decide (i < 2 ^ n) || i_BasisState (n : Int) (i : Int) == some (vc (2 ^ n) 0 (dl i))
theorem bsI_fin : ∀ n : Fin 4, ∀ i : Fin 16, bsI (n.val + 1) i.val = true := by decide +kernel
theorem i_bs {n : Int} (hn : 1 ≤ n ∧ n ≤ 4) {i : Nat} (hi : i < 2 ^ n.toNat) : i_BasisState n (i : Int) = some (vc (2 ^ n.toNat) 0 (dl i)) := by
  have h16 : i < 16 := Nat.lt_of_lt_of_le hi (by rcases four hn with rfl | rfl | rfl | rfl <;> decide)
  obtain ⟨n', rfl⟩ : ∃ n' : Nat, n = ((n' + 1 : Nat) : Int) := ⟨(n - 1).toNat, by omega⟩
  have := bsI_fin ⟨n', by omega⟩ ⟨i, h16⟩
  unfold bsI at this
  simp only [Int.toNat_natCast] at hi ⊢
  rw [decide_eq_true hi, Bool.not_true, Bool.false_or] at this
  exact eq_of_beq this
theorem pr_eq (p : Q4) (v : List DQ) (hv : v.length ≤ 1048576) : i_ProjectState p.1 p.2.1 p.2.2.1 p.2.2.2 v = s_ProjectState p.1 p.2.1 p.2.2.1 p.2.2.2 v := (i_prM p v hv).trans (s_prM p v hv).symm
theorem i_from {N : Int} (h : 1 ≤ N ∧ N ≤ 4) {l : List Q4} (ht : tB N l = true) {i : Nat} (hi : i < 2 ^ N.toNat) : i_projected N l (i : Int) = some (vc (2 ^ N.toNat) (2 * N.toNat) (prs (rwB h l) N.toNat (dl i)), true) := by
  have hl8 := (tB_len ht).2
  have h16 := pw16' h
  have hdl : (l.drop N.toNat).length = N.toNat := by rw [List.length_drop]; omega
  have key : ∀ (m j : Nat), j ≤ N.toNat → N.toNat - j < m → i_projected_l2 (l.drop N.toNat) m (N.toNat : Int) (j : Int) (vc (2 ^ N.toNat) (2 * j) (prs (rwB h l) j (dl i))) = some (vc (2 ^ N.toNat) (2 * N.toNat) (prs (rwB h l) N.toNat (dl i)), true) := by
    intro m
    induction m with
    | zero => intro j _ h; omega
    | succ m ih =>
      intro j hj hm
      rw [i_projected_l2]
      by_cases e : j = N.toNat
      · have hlt : decide ((j : Int) < (N.toNat : Int)) = false := decide_eq_false (by omega)
        rw [hlt, br_false, e]
        rfl
      · have hjl : j < N.toNat := by omega
        have hlt : decide ((j : Int) < (N.toNat : Int)) = true := decide_eq_true (by omega)
        have hg : geti (l.drop N.toNat) (j : Int) = some (rwB h l j).q := by
          refine geti_nat ?_
          rw [List.getElem?_drop]
          exact rwG_q h ht (by omega)
        rw [hlt, br_true, hg, bO_some, pr_eq _ _ (by rw [vc_len]; omega), s_pj h (rwB h l j) (K := 2 * j) (M := 16) (by omega) (by omega) (prs_bd16 h _ i (by omega)), bO_some]
        simp only [Bool.not_true, br_false]
        rw [w64s (n := 5) (by omega) (by omega)]
        exact ih (j + 1) (by omega) (by omega)
  unfold i_projected
  have hs : slc l N ((l.length : Int)) = some (l.drop N.toNat) := by
    have := slc_end' (l := l) (k := N.toNat) (by omega)
    rwa [show ((N.toNat : Nat) : Int) = N by omega] at this
  rw [i_bs h hi, bO_some, hs, bO_some, hdl]
  exact key FU 0 (Nat.zero_le _) (by rw [FU_eq]; omega)
theorem i_none (v : List DQ) (hl : v.length ≤ 4000000) : i_isZero 0 [v] = some (v.all fun x => decide (x = d0)) := by
  unfold i_isZero
  obtain ⟨m, hm⟩ : ∃ m, FU = m + 2 := ⟨FU - 2, by rw [FU_eq]⟩
  have h0 : geti [v] (0 : Int) = some v := rfl
  show i_isZero_l1 [v] FU 1 0 = _
  rw [hm, i_isZero_l1, show decide ((0 : Int) < 1) = true from rfl, br_true, h0, bO_some, ← all_get]
  rw [loop_all0 (fun m' k => i_isZero_l4 1 0 (i_isZero_l1 [v] (m + 1)) v m' (v.length : Int) k) v.length (gBv (fun x => decide (x = d0)) v) hl (fun m' k hk => ?_) (some true) (fun m' => ?_)]
  · cases (List.range v.length).all (gBv (fun x => decide (x = d0)) v) <;> rfl
  · have hlt : decide ((k : Int) < (v.length : Int)) = true := decide_eq_true (by omega)
    show i_isZero_l4 1 0 (i_isZero_l1 [v] (m + 1)) v (m' + 1) (v.length : Int) (k : Int) = _
    rw [i_isZero_l4, hlt, br_true, geti_lt hk, bO_some, d0_eq, w64s hk (by omega), gBv_eq _ hk]
    cases decide (v[k] = d0) <;> rfl
  · have hlt : decide ((v.length : Int) < (v.length : Int)) = false := decide_eq_false (by omega)
    show i_isZero_l4 1 0 (i_isZero_l1 [v] (m + 1)) v (m' + 1) (v.length : Int) (v.length : Int) = _
    rw [i_isZero_l4, hlt, br_false]
    unfold i_isZero_j4
    rw [i_isZero_l1]
    rfl
theorem i_whole {n D e : Nat} {f : Amp} (hD : D ≤ 16) (hq : 0 < qcF D) (hn : n ≤ 4) (he : e ≤ n) (hf : bdv ((16 : Nat) : Int) f) (hN : ipz D f f = rtn (2 * (n + e)) (1, 0, 0, 0)) : i_normed (vc D (2 * n) f) = some (vc D (2 * n) (fun i => rtn (n - e) (f i)), true) := by
  have hb : ∀ k, k ≤ 4 → bdv ((256 : Nat) : Int) (fun i => rtn k (f i)) := fun k hk i => by
    have := bd_rtn k (hf i)
    have h2 : 2 ^ k ≤ 2 ^ 4 := Nat.pow_le_pow_right (by omega) hk
    exact bdz_mono (by omega) this
  have hb5 : ∀ k, k ≤ 4 → bdv 1073741824 (fun i => rt (rtn k (f i))) := fun k hk i => bdz_mono (M := 2 * ((256 : Nat) : Int)) (by omega) (bd_rt (hb k hk i))
  have key : ∀ (m k : Nat), k ≤ n - e → n - e - k < m → i_normed_l1 m (k : Int) (vc D (2 * n) (fun i => rtn k (f i))) = some (vc D (2 * n) (fun i => rtn (n - e) (f i)), true) := by
    intro m
    induction m with
    | zero => intro k _ h; omega
    | succ m ih =>
      intro k hk hm
      have hlt : decide ((k : Int) ≤ 4) = true := decide_eq_true (by omega)
      have h30 : bdv 1073741824 (fun i => rtn k (f i)) := fun i => bdz_mono (by omega) (hb k (by omega) i)
      rw [i_normed_l1, hlt, br_true, ip_eq _ _ (by rw [vc_len]; omega) (by rw [vc_len]; omega), s_ip (Bf := 256) (Bg := 256) hD hq (by omega) (by omega) (by omega) (by omega) (hb k (by omega)) (hb k (by omega)), bO_some, ip_rtn, hN, rtn_add]
      simp only [res, Bool.not_true, br_false]
      unfold i_OneDOmega
      rw [bO_some, one_eqD]
      have hone : (dq (2 * n + 2 * n) (rtn (2 * k + 2 * (n + e)) (1, 0, 0, 0)) = ((1, 0, 0, 0, 0) : DQ)) ↔ k = n - e := by
        rw [show ((1, 0, 0, 0, 0) : DQ) = dq 0 (1, 0, 0, 0) from by decide, dq_eq2]
        show rtn (2 * k + 2 * (n + e)) (1, 0, 0, 0) = rtn (2 * n + 2 * n) (1, 0, 0, 0) ↔ _
        rw [show 2 * k + 2 * (n + e) = 2 * (k + (n + e)) by omega, show 2 * n + 2 * n = 2 * (2 * n) by omega]
        constructor
        · intro h'; have := rtn_one_inj h'; omega
        · intro h'; rw [h']; congr 2; omega
      by_cases e1 : k = n - e
      · rw [decide_eq_true (hone.2 e1), br_true, e1]
      · rw [decide_eq_false (fun h' => e1 (hone.1 h')), br_false]
        have hsc := s_scale (K := 2 * n) (L := 2 * n) (f := fun i => rtn k (f i)) (g := fun i => rt (rtn k (f i))) (z := rtD) hD (vc_st hq (by omega) h30) rtD_vd (hb5 k (by omega)) (fun i _ => rt_mulD (by omega) (h30 i) (hb5 k (by omega) i))
        rw [s_scM _ rtD (by rw [vc_len]; omega), ← i_scM _ rtD (by rw [vc_len]; omega)] at hsc
        unfold i_root
        rw [bO_some]
        have hsc' : i_ScaleState (vc D (2 * n) fun i => rtn k (f i)) 0 1 0 (-1) 0 = some (vc D (2 * n) fun i => rt (rtn k (f i)), true) := hsc
        simp only
        rw [hsc', bO_some]
        simp only [Bool.not_true, br_false]
        rw [w64s (n := 5) (by omega) (by omega)]
        exact ih (k + 1) (by omega) (by omega)
  unfold i_normed
  exact key FU 0 (Nat.zero_le _) (by rw [FU_eq]; omega)
theorem i_stst_no {N : Int} {l : List Q4} (hl : l.length ≤ 1048576) (ht : tB N l = false) : i_StabilizerState N l = some ([], false) ∧ s_StabilizerState N l = some ([], false) := by
  constructor
  · unfold i_StabilizerState
    rw [i_tab N l hl, ht, bO_some, Bool.not_false, br_true]
  · unfold s_StabilizerState
    obtain ⟨m, hm⟩ : ∃ m, FU = m + 1 := ⟨FU - 1, by rw [FU_eq]⟩
    rw [hm, s_StabilizerState_l1, s_tab N l hl, ht, bO_some, br_false, bO_some]
    unfold s_StabilizerState_j4
    rw [br_false]
    unfold s_StabilizerState_j1
    rfl
/-- The stabilizer state of a tableau, both sides. -/
theorem i_stst {N : Int} (h : 1 ≤ N ∧ N ≤ 4) {l : List Q4} (ht : tB N l = true) : ∃ i e, i < 2 ^ N.toNat ∧ e ≤ N.toNat ∧ (∃ r, r < 2 ^ N.toNat ∧ prs (rwB h l) N.toNat (dl i) r ≠ (0, 0, 0, 0)) ∧ ipz (2 ^ N.toNat) (prs (rwB h l) N.toNat (dl i)) (prs (rwB h l) N.toNat (dl i)) = rtn (2 * (N.toNat + e)) (1, 0, 0, 0) ∧
    s_StabilizerState N l = some (vc (2 ^ N.toNat) (2 * N.toNat) (fun r => rtn (N.toNat - e) (prs (rwB h l) N.toNat (dl i) r)), true) ∧
    i_StabilizerState N l = some (vc (2 ^ N.toNat) (2 * N.toNat) (fun r => rtn (N.toNat - e) (prs (rwB h l) N.toNat (dl i) r)), true) := by
  obtain ⟨L, hL, he⟩ := tab_circ h ht
  have hLg := gok_of hL
  have hS := tab_cj h hL he
  have h16 := pw16' h
  have hq := qc_pw h
  have hl8 := (tB_len ht).2
  have hu : IntKind.wrap .u64 N = N := IntWalk.u64_in _ (by omega)
  have hs : IntKind.wrap .i64 (1 * 2 ^ min (Int.toNat N) (IntKind.bits .i64)) = ((2 ^ N.toNat : Nat) : Int) := by rcases four h with rfl | rfl | rfl | rfl <;> decide
  have hng : decide (¬ N < 0) = true := decide_eq_true (by omega)
  have key : ∀ (m k : Nat), k ≤ 2 ^ N.toNat → 2 ^ N.toNat - k < m → (∀ i, i < k → ∀ r, r < 2 ^ N.toNat → prs (rwB h l) N.toNat (dl i) r = (0, 0, 0, 0)) →
      ∃ i e, i < 2 ^ N.toNat ∧ e ≤ N.toNat ∧ (∃ r, r < 2 ^ N.toNat ∧ prs (rwB h l) N.toNat (dl i) r ≠ (0, 0, 0, 0)) ∧ ipz (2 ^ N.toNat) (prs (rwB h l) N.toNat (dl i)) (prs (rwB h l) N.toNat (dl i)) = rtn (2 * (N.toNat + e)) (1, 0, 0, 0) ∧
        s_StabilizerState_l1 N l m (k : Int) = some (vc (2 ^ N.toNat) (2 * N.toNat) (fun r => rtn (N.toNat - e) (prs (rwB h l) N.toNat (dl i) r)), true) ∧
        i_StabilizerState_l1 N l m (k : Int) = some (vc (2 ^ N.toNat) (2 * N.toNat) (fun r => rtn (N.toNat - e) (prs (rwB h l) N.toNat (dl i) r)), true) := by
    intro m
    induction m with
    | zero => intro k _ h; omega
    | succ m ih =>
      intro k hk hm hz
      by_cases ek : k = 2 ^ N.toNat
      · exact absurd (fun i hi => hz i (by omega)) (some_f h hLg hS)
      have hkl : k < 2 ^ N.toNat := by omega
      have hlt : decide ((k : Int) < ((2 ^ N.toNat : Nat) : Int)) = true := (fun x h => decide_eq_true (by omega) : ∀ x : Nat, k < x → decide ((k : Int) < (x : Int)) = true) _ hkl
      have step : s_StabilizerState_l1 N l (m + 1) (k : Int) = br ((vc (2 ^ N.toNat) (2 * N.toNat) (prs (rwB h l) N.toNat (dl k))).all fun x => decide (x = d0)) (s_StabilizerState_l1 N l m ((k + 1 : Nat) : Int)) (bO (s_l27Whole (vc (2 ^ N.toNat) (2 * N.toNat) (prs (rwB h l) N.toNat (dl k)))) fun x15 => some (x15.1, x15.2)) := by
        rw [s_StabilizerState_l1, s_tab N l (by omega), bO_some, ht, br_true, hu, hng, gd_true, hs, hlt, bO_some]
        unfold s_StabilizerState_j4
        rw [br_true, s_from h ht hkl, bO_some]
        simp only [Bool.not_true, br_false]
        rw [s_none _ (by rw [vc_len]; omega), bO_some, w64s (n := 17) (by omega) (by omega)]
        cases ((vc (2 ^ N.toNat) (2 * N.toNat) (prs (rwB h l) N.toNat (dl k))).all fun x => decide (x = d0)) <;> rfl
      have stepI : i_StabilizerState_l1 N l (m + 1) (k : Int) = br ((vc (2 ^ N.toNat) (2 * N.toNat) (prs (rwB h l) N.toNat (dl k))).all fun x => decide (x = d0)) (i_StabilizerState_l1 N l m ((k + 1 : Nat) : Int)) (bO (i_normed (vc (2 ^ N.toNat) (2 * N.toNat) (prs (rwB h l) N.toNat (dl k)))) fun x15 => some (x15.1, x15.2)) := by
        rw [i_StabilizerState_l1, hng, gd_true, hs, hlt, br_true, i_from h ht hkl, bO_some]
        simp only [Bool.not_true, br_false]
        rw [i_none _ (by rw [vc_len]; omega), bO_some, w64s (n := 17) (by omega) (by omega)]
        cases ((vc (2 ^ N.toNat) (2 * N.toNat) (prs (rwB h l) N.toNat (dl k))).all fun x => decide (x = d0)) <;> rfl
      rw [step, stepI]
      cases ha : ((vc (2 ^ N.toNat) (2 * N.toNat) (prs (rwB h l) N.toNat (dl k))).all fun x => decide (x = d0)) with
      | true =>
        rw [br_true, br_true]
        refine ih (k + 1) (by omega) (by omega) (fun i hi => ?_)
        by_cases ei : i = k
        · rw [ei]; exact vc_all.1 ha
        · exact hz i (by omega)
      | false =>
        rw [br_false, br_false]
        have hne : ¬ ∀ r, r < 2 ^ N.toNat → prs (rwB h l) N.toNat (dl k) r = (0, 0, 0, 0) := fun h' => by
          rw [vc_all.2 h'] at ha; cases ha
        have hF : ∀ j, j < N.toNat → ∀ r, r < 2 ^ N.toNat → paQ (rwB h l j).q (prs (rwB h l) N.toNat (dl k)) r = prs (rwB h l) N.toNat (dl k) r := fun j hj r hr => f_stab h hLg hS (dl k) hj hr
        rcases f_norm h (tab_hH h ht) (tab_hC h ht) hkl hF with h0 | ⟨e, he1, he2⟩
        · exact absurd (fun r hr => ip_zero h0 hr) hne
        · refine ⟨k, e, hkl, he1, ?_, he2, ?_, ?_⟩
          · exact Classical.byContradiction fun hc => hne fun r hr => Classical.byContradiction fun hc2 => hc ⟨r, hr, hc2⟩
          · rw [s_whole h16 hq (by omega) he1 (prs_bd16 h _ k (Nat.le_refl _)) he2, bO_some]
          · rw [i_whole h16 hq (by omega) he1 (prs_bd16 h _ k (Nat.le_refl _)) he2, bO_some]
  obtain ⟨i, e, a1, a2, a3, a4, a5, a6⟩ := key FU 0 (Nat.zero_le _) (by rw [FU_eq]; omega) (fun i hi => by omega)
  refine ⟨i, e, a1, a2, a3, a4, a5, ?_⟩
  unfold i_StabilizerState
  rw [i_tab N l (by omega), ht, bO_some, Bool.not_true, br_false]
  rw [show ((0 : Nat) : Int) = 0 from rfl] at a6
  exact a6
end Go.Proofs.Ytflfodcgoffjkaa
