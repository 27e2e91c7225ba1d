/- The draw of BranchPhases gives some lists of branches of valid numbers (which, is not said: the draw writes into slices inside slices). -/
import Derived.Test.YtfjopjalhllplaaKDb
namespace Go.Proofs.Ytfjopjalhllplaa
open Go.RowKit
set_option maxRecDepth 100000
set_option linter.unusedVariables false
set_option linter.unusedSimpArgs false
set_option linter.defProp false
set_option maxHeartbeats 4000000
theorem dbp_E {code : List Int} (hcl : code.length ≤ 1048576) (hE : ∃ r, s_DrawEqualBranches code = some r ∧ GL r.1 ∧ GL r.2) :
    SpecE Try.prog 5 [.sl (encL EB code) code.length] (fun rets => ∃ a b, (GL a ∧ GL b) ∧ rets = [.sl (encL EILLIIIIIEE a) a.length, .sl (encL EILLIIIIIEE b) b.length]) := by
  obtain ⟨x1, h1, hcu1⟩ := new_ok hcl
  obtain ⟨x2, h2, hg1, hg2⟩ := hE
  refine specE_of Try.func5 rfl (by kernel_rfl) (by rw [Try.ntmps5]; simp) (fun M i c v hc h => ?_) fun C hN hρ hD hM0 => ?_
  · have hi : i = 0 := by
      rcases Nat.eq_zero_or_pos i with h0 | h0
      · exact h0
      · rw [List.getElem?_eq_none (by simp; omega)] at hc; cases hc
    subst hi
    simp only [List.getElem?_cons_zero, Option.some.injEq] at hc
    subst hc
    exact pv_flsl (encB_fl _) (fun b o v h1 h2 => nsM_some h1 h2) h
  replace hN := hN.trans Try.ntmps5
  simp only [st0, tmps0, Nat.zero_add, Nat.reduceAdd]
  refine AN hN ?_
  refine AR hN fun K hK => ?_
  simp only [EV, seval]
  refine rC_p (s_l1New_ok h1) (by simp only [AL, EV, seval]) (le_d rfl) (site_1 (by simp only [EV, seval])) ?_
  simp only [EV, seval]
  refine hK _ _ _ ?_; clear hK K
  refine AR hN fun K hK => ?_
  simp only [EV, seval]
  refine rC_p (Spec.can (ret2 := .tup [.sl (encL EILLIIIIIEE x2.1) x2.1.length, .sl (encL EILLIIIIIEE x2.2) x2.2.length]) (mem2 := []) (s_DrawEqualBranches_ok h2) [] [0, 1] (by kernel_rfl) (by simp only [AL, EV, seval]) (by simp only [AL, EV, seval])) (by simp only [AL, EV, seval]) (le_d rfl) (no_j rfl) ?_
  simp only [EV, seval]
  refine hK _ _ _ ?_; clear hK K
  refine AW_cutK (fun S => ∃ a b : LB, S = ⟨mkT [(5, .sl (encL EILLIIIIIEE a) a.length), (6, .sl (encL EILLIIIIIEE b) b.length)], mkR [], 64⟩ ∧ GL a ∧ GL b) ?_ ?_
  · refine AN hN ?_
    refine AW_block ?_
    refine AW_loopF (fun n S => ∃ (a b : LB) (i : Nat) (v24 : List Int) (v25 v26 : Int), S = ⟨mkT [(4, .ptr 32 0), (5, .sl (encL EILLIIIIIEE a) a.length), (6, .sl (encL EILLIIIIIEE b) b.length), (7, .int .i64 (i : Int))], mkR [(32, .box 52 [.sl (encL EB v24) v24.length, .int .i64 v25, .int .i64 v26])], 64⟩ ∧ (GL a ∧ GL b) ∧ CurP (v24, v25, v26) ∧ i ≤ 1000 ∧ 1001 - i ≤ n) FU ?_ ?_ ?_
    · exact AC ⟨x2.1, x2.2, 0, x1.1, x1.2.1, x1.2.2, rfl, ⟨hg1, hg2⟩, hcu1, by omega, by rw [FU_eq]; omega⟩ [(32, some 1104)] [] hρ
    · rintro S ⟨_, _, i, _, _, _, _, _, _, h1, h2⟩; omega
    · rintro n3 S ⟨a, b, i, v24, v25, v26, rfl, ⟨ha, hb⟩, hcu, hi, hn⟩
      refine AW_seq ?_
      refine AJ (fun S => ∃ (v27 : Bool) (v28 : List Int) (v29 v30 : Int), S = ⟨mkT [(4, .ptr 32 0), (5, .sl (encL EILLIIIIIEE a) a.length), (6, .sl (encL EILLIIIIIEE b) b.length), (7, .int .i64 (i : Int)), (26, .bool v27)], mkR [(32, .box 52 [.sl (encL EB v28) v28.length, .int .i64 v29, .int .i64 v30])], 64⟩ ∧ CurP (v28, v29, v30) ∧ (v27 = true → i < b.length)) hN ?_ ?_
      · intro K hK
        by_cases hlt : i < b.length
        · have hc17 : decide ((i : Int) < (b.length : Int)) = true := decide_eq_true (by omega)
          obtain ⟨x23, h62, hcu2⟩ := once_ok (n := 2) hcu
          simp only [EV, seval, hc17]
          refine rR_p [32] (s_l1Once_ok h62) (by simp only [AL, EV, seval, hc17]) (by simp only [AL, EV, seval, hc17]) (by kernel_rfl) (by simp only [EV, solidO, List.mem_cons, List.not_mem_nil, or_false, forall_eq_or_imp, forall_eq, seval]) (le_d rfl) (le_d rfl) (no_j rfl) ?_
          simp only [EV, seval, hc17]
          exact hK _ _ _ (AC ⟨x23.1, x23.2.1, x23.2.2.1, x23.2.2.2, rfl, hcu2, fun _ => hlt⟩ [(32, some 32)] [] hρ)
        · have hc17 : decide ((i : Int) < (b.length : Int)) = false := decide_eq_false (by omega)
          simp only [EV, seval, hc17]
          exact hK _ _ _ (AC ⟨false, v24, v25, v26, rfl, hcu, fun h => by cases h⟩ [(32, some 32)] [] hρ)
      · rintro S ⟨v27, v28, v29, v30, rfl, hcu2, hlt⟩
        refine AW_cond (b := v27) (by simp only [EV, seval]) (fun h27 => ?_) (fun h27 => ?_)
        · have hlt := hlt h27
          refine AW_skip (AK ?_)
          refine AW_cutK (fun S => ∃ (a b : LB) (v33 : List Int) (v34 v35 : Int), S = ⟨mkT [(4, .ptr 32 0), (5, .sl (encL EILLIIIIIEE a) a.length), (6, .sl (encL EILLIIIIIEE b) b.length), (7, .int .i64 (i : Int))], mkR [(32, .box 52 [.sl (encL EB v33) v33.length, .int .i64 v34, .int .i64 v35])], 64⟩ ∧ (GL a ∧ GL b) ∧ CurP (v33, v34, v35)) ?_ ?_
          · refine AW_block ?_
            refine AR hN fun K hK => ?_
            obtain ⟨x24, h63, hx24, hcu3⟩ := below_ok (n := 8) hcu2
            have hk8 := hx24.2.1 (by omega)
            have hk0 := hx24.1
            simp only [EV, seval]
            refine rR_p [32] (s_l1Below_ok h63) (by simp only [AL, EV, seval]) (by simp only [AL, EV, seval]) (by kernel_rfl) (by simp only [EV, solidO, List.mem_cons, List.not_mem_nil, or_false, forall_eq_or_imp, forall_eq, seval]) (le_d rfl) (le_d rfl) (no_j rfl) ?_
            simp only [EV, seval]
            refine hK _ _ _ ?_; clear hK K
            refine AN hN ?_
            refine AW_block ?_
            refine AW_loopF (fun n S => ∃ (a b : LB) (j : Nat), S = ⟨mkT [(4, .ptr 32 0), (5, .sl (encL EILLIIIIIEE a) a.length), (6, .sl (encL EILLIIIIIEE b) b.length), (7, .int .i64 (i : Int)), (8, .int .i64 x24.1), (9, .int .i64 (j : Int))], mkR [(32, .box 52 [.sl (encL EB x24.2.1) x24.2.1.length, .int .i64 x24.2.2.1, .int .i64 x24.2.2.2])], 64⟩ ∧ (GL a ∧ GL b) ∧ i < b.length ∧ j ≤ 1000 ∧ 1001 - j ≤ n) FU ?_ ?_ ?_
            · exact AC ⟨a, b, 0, rfl, ⟨ha, hb⟩, hlt, by omega, by rw [FU_eq]; omega⟩ [(32, some 32)] [] hρ
            · rintro S ⟨_, _, j, _, _, _, h1, h2⟩; omega

            · rintro n4 S ⟨a, b, j, rfl, ⟨ha, hb⟩, hlt, hj, hn4⟩
              have h82 : geti b (i : Int) = some b[i] := geti_lt hlt
              obtain ⟨hbl, hbv⟩ := hb.2 _ (List.getElem_mem hlt)
              generalize b[i] = q17 at h82 hbl hbv
              obtain ⟨⟨h83a, h83b⟩, h83c⟩ := geti_E EILLIIIIIEEl h82
              (try simp only [EV, seval] at h83c)
              have h84 := geti_F EILLIIIIIEEl 1 h82
              (try simp only [EV, seval] at h84)
              refine AW_seq ?_
              refine AR hN fun K hK => ?_
              simp only [EV, seval, h83a, h83b, h83c, h84]
              refine hK _ _ _ ?_; clear hK K
              refine AW_cond (b := decide ((j : Int) < ((q17.2.length : Int)))) (by simp only [EV, seval, h83a, h83b, h83c, h84]) (fun hc23 => ?_) (fun hc23 => ?_)
              · have hjl : j < q17.2.length := by have := of_decide_eq_true hc23; omega
                refine AW_skip (AK ?_)
                refine AW_cutK (fun S => ∃ (a b : LB), S = ⟨mkT [(4, .ptr 32 0), (5, .sl (encL EILLIIIIIEE a) a.length), (6, .sl (encL EILLIIIIIEE b) b.length), (7, .int .i64 (i : Int)), (8, .int .i64 x24.1), (9, .int .i64 (j : Int))], mkR [(32, .box 52 [.sl (encL EB x24.2.1) x24.2.1.length, .int .i64 x24.2.2.1, .int .i64 x24.2.2.2])], 64⟩ ∧ (GL a ∧ GL b) ∧ i < b.length) ?_ ?_
                · refine AW_block ?_
                  refine AR hN fun K hK => ?_
                  have h85 := geti_F EILLIIIIIEEl 1 h82
                  (try simp only [EV, seval] at h85)
                  have h86 : geti q17.2 (j : Int) = some q17.2[j] := geti_lt hjl
                  have hv := hbv _ (List.getElem_mem hjl)
                  generalize q17.2[j] = q18 at h86 hv
                  obtain ⟨⟨h87a, h87b⟩, h87c⟩ := geti_E ELIIIIIEl h86
                  (try simp only [EV, seval] at h87c)
                  obtain ⟨kk, hkk⟩ : ∃ kk : Fin 8, x24.1 = ((kk.val : Nat) : Int) := ⟨⟨x24.1.toNat, by omega⟩, by simp only; omega⟩
                  have h88 : s_PhaseFactor x24.1 = some (om kk.val) := by rw [hkk]; exact pf_fin kk
                  generalize om kk.val = x29 at h88
                  obtain ⟨x30, h89, hgd⟩ := sc_good hv (z := x29)
                  simp only [EV, seval, h83a, h83b, h83c, h85, h87a, h87b, h87c]
                  refine rC_p (s_PhaseFactor_ok h88) (by simp only [AL, EV, seval, h83a, h83b, h83c, h85, h87a, h87b, h87c]) (le_d rfl) (no_j rfl) ?_
                  simp only [EV, seval, h83a, h83b, h83c, h85, h87a, h87b, h87c]
                  refine rC_p (Spec.can (ret2 := .tup [.sl (encL EIIIII x30.1) x30.1.length, .bool x30.2]) (mem2 := []) (s_ScaleState_ok h89) [] [0] (by kernel_rfl) (by simp only [AL, EV, seval]) (by simp only [AL, EV, seval])) (by simp only [AL, EV, seval, h83a, h83b, h83c, h85, h87a, h87b, h87c]) (le_d rfl) (no_j rfl) ?_
                  simp only [EV, seval, h83a, h83b, h83c, h85, h87a, h87b, h87c]
                  refine hK _ _ _ ?_; clear hK K
                  refine AN hN ?_
                  refine AW_cond (b := x30.2) (by simp only [EV, seval]) (fun hc24 => ?_) (fun hc24 => ?_)
                  · have hgx := hgd hc24
                    have h90 := geti_F EILLIIIIIEEl 1 h82
                    (try simp only [EV, seval] at h90)
                    refine AW_mid (BR := BR) [_, _, _, _, _, _, _, _] _ [] 9 rfl rfl rfl (by rw [hN]; kernel_rfl)
                      (fun st => ∃ rest, (st.tmps 63 = .eptr (.sl (encL EIIIII q18) q18.length :: rest) ∧ st.tmps 62 = .sl (encL EIIIII x30.1) x30.1.length) ∧ (st.tmps 4 = .ptr 32 0 ∧ st.tmps 5 = .sl (encL EILLIIIIIEE a) a.length ∧ st.tmps 6 = .sl (encL EILLIIIIIEE b) b.length) ∧ (st.tmps 7 = .int .i64 (i : Int) ∧ st.tmps 8 = .int .i64 x24.1 ∧ st.tmps 9 = .int .i64 (j : Int)) ∧ st.rows = mkR [(32, .box 52 [.sl (encL EB x24.2.1) x24.2.1.length, .int .i64 x24.2.2.1, .int .i64 x24.2.2.2])])
                      (fun st => ∃ (a b : LB), ((GL a ∧ GL b) ∧ i < b.length) ∧ st.tmps = mkT [(4, .ptr 32 0), (5, .sl (encL EILLIIIIIEE a) a.length), (6, .sl (encL EILLIIIIIEE b) b.length), (7, .int .i64 (i : Int)), (8, .int .i64 x24.1), (9, .int .i64 (j : Int))] ∧ st.rows = mkR [(32, .box 52 [.sl (encL EB x24.2.1) x24.2.1.length, .int .i64 x24.2.2.1, .int .i64 x24.2.2.2])]) ?_ ?_ ?_
                    · simp only [EV, seval, h83a, h83b, h83c, h90, h87a, h87b, h87c]
                      exact ⟨_, rfl⟩
                    · intro M ρ st act w hz hR next Q hK
                      obtain ⟨rest, ⟨e63, e62⟩, ⟨e4, e5, e6⟩, ⟨e7, e8, e9⟩, er⟩ := hz
                      refine storeI_wp (x := .tmp 63) (v := .tmp 62) (Z := fun T' => ∃ (a b : LB), ((GL a ∧ GL b) ∧ i < b.length) ∧ T' = mkT [(4, .ptr 32 0), (5, .sl (encL EILLIIIIIEE a) a.length), (6, .sl (encL EILLIIIIIEE b) b.length), (7, .int .i64 (i : Int)), (8, .int .i64 x24.1), (9, .int .i64 (j : Int))]) rfl ty_sz39 e63 e62 hR hD hM0 (fun s r hr => ?_) (fun g off u old ho hs hp hu => ?_) rfl (fun M' T' a' w' hz hRel => ?_)
                      · rw [er] at hr
                        simp only [mkR, upd] at hr
                        split at hr
                        · injection hr with hr
                          subst hr
                          refine .inr ⟨_, _, rfl, fun c hc => ?_⟩
                          simp only [List.mem_cons, List.not_mem_nil, or_false] at hc
                          rcases hc with rfl | rfl | rfl
                          · exact .inr ⟨_, _, rfl, encB_fl _⟩
                          · exact .inl rfl
                          · exact .inl rfl
                        · cases hr
                      · have t4 := hR.tm 4; rw [e4] at t4
                        have t5 := hR.tm 5; rw [e5] at t5
                        have t6 := hR.tm 6; rw [e6] at t6
                        have t7 := hR.tm 7; rw [e7] at t7
                        have t8 := hR.tm 8; rw [e8] at t8
                        have t9 := hR.tm 9; rw [e9] at t9
                        obtain ⟨a', la, ga, pa⟩ := gl_upd ho hs hp hv.1 hgx hu ha t5.sl_inv
                        obtain ⟨b', lb, gb, pb⟩ := gl_upd ho hs hp hv.1 hgx hu hb t6.sl_inv
                        refine ⟨_, ⟨a', b', ⟨⟨ga, gb⟩, by omega⟩, rfl⟩, fun k => ?_⟩
                        simp only [mkT, upd]
                        split
                        · rename_i e; subst e
                          obtain ⟨y, y1, y2, y3⟩ := t4.ptr_inv
                          rw [y3]; exact .ptr _ _ y y1 y2
                        split
                        · rename_i e; subst e; exact .plain pa
                        split
                        · rename_i e; subst e; exact .plain pb
                        split
                        · rename_i e; subst e; rw [t7.int_inv]; exact .plain (.int ..)
                        split
                        · rename_i e; subst e; rw [t8.int_inv]; exact .plain (.int ..)
                        split
                        · rename_i e; subst e; rw [t9.int_inv]; exact .plain (.int ..)
                        · exact .plain (.top _)
                      · obtain ⟨a', b', hab, rfl⟩ := hz
                        exact hK (St.mk _ st.rows st.bs) M' ρ _ w' ⟨a', b', hab, rfl, er⟩ hRel
                    · rintro ⟨T1, R1, b1⟩ ⟨a', b', ⟨hab, hl'⟩, e1, e2⟩
                      simp only at e1 e2
                      subst e1 e2
                      rw [aRun_nil]
                      exact AC ⟨a', b', rfl, hab, hl'⟩ [(32, some 32)] [] hρ
                  · exact AW_skip (AC ⟨a, b, rfl, ⟨ha, hb⟩, hlt⟩ [(32, some 32)] [] hρ)
                · rintro S ⟨a, b, rfl, hab, hlt⟩
                  refine AS hN fun K hK => ?_
                  simp only [EV, seval]
                  have ej : IntKind.wrap .i64 ((j : Int) + 1) = ((j + 1 : Nat) : Int) := by rw [w64 (by omega) (by omega)]; omega
                  simp only [ej]
                  exact hK _ _ _ (AC ⟨a, b, j + 1, rfl, hab, hlt, by omega, by omega⟩ [(32, some 32)] [] hρ)
              · refine AW_exit (cutL ⟨a, b, x24.2.1, x24.2.2.1, x24.2.2.2, rfl, ⟨ha, hb⟩, hcu3⟩ (Le_can [(32, some 32)] [] hρ (by kernel_rfl) ?_ ?_))
                · simp only [AL, EV, seval, h83a, h83b, h83c, h84]
                · simp only [AL, EV, seval, h83a, h83b, h83c, h84]
          · rintro S ⟨a, b, v33, v34, v35, rfl, hab, hcu4⟩
            refine AS hN fun K hK => ?_
            simp only [EV, seval]
            have ej : IntKind.wrap .i64 ((i : Int) + 1) = ((i + 1 : Nat) : Int) := by rw [w64 (by omega) (by omega)]; omega
            simp only [ej]
            have := hb.1
            exact hK _ _ _ (AC ⟨a, b, i + 1, v33, v34, v35, rfl, hab, hcu4, by omega, by omega⟩ [(32, some 32)] [] hρ)
        · exact AW_exit (AC ⟨a, b, rfl, ha, hb⟩ [] [] hρ)
  · rintro S ⟨a, b, rfl, ha, hb⟩
    refine AN hN ?_
    refine AX (b' := 64) [(2, .sl (encL EILLIIIIIEE a) a.length), (3, .sl (encL EILLIIIIIEE b) b.length)] [] [] [] hρ ⟨.inr rfl, _, ⟨a, b, ⟨ha, hb⟩, rfl⟩, Nat.le_refl 2, ?_, ?_⟩
    · rw [Try.results5]; rfl
    · intro c hc
      simp only [List.mem_cons, List.not_mem_nil, or_false] at hc
      rcases hc with rfl | rfl <;> rfl
end Go.Proofs.Ytfjopjalhllplaa
