/- Models of functions, and that the functions do what the models say; printed by a program. -/
import Derived.Test.YtcclapenpaediaaGn
import Derived.Test.YtcclapenpaediaaMk
import Derived.Test.YtcclapenpaediaaMi
namespace Go.Proofs.Ytcclapenpaediaa
open Go.RowKit
set_option maxRecDepth 100000
set_option linter.unusedVariables false
set_option linter.unusedSimpArgs false
set_option linter.defProp false
/- spec.l26Circ -/
def s_l26Circ_j1 (a4 : Int) (v11 : List Int) (v12 : Int) (v13 : Int) (v14 : LQ) : Option (Int × LQ × List Int × Int × Int) :=
  some (a4, v14, v11, v12, v13)
def s_l26Circ_l1 (a4 : Int) (x1 : Int × List Int × Int × Int) : Nat → (List Int) → Int → Int → Int → (LQ) → Option (Int × LQ × List Int × Int × Int)
  | 0, _, _, _, _, _ => none
  | n1 + 1, v6, v7, v8, v9, v10 =>
  br (decide (v9 < x1.1)) (bO (s_l25Cliff v6 v7 v8 a4) fun x4 => gd (decide (v10.length + ([(x4.1, x4.2.1, x4.2.2.1, x4.2.2.2.1)]).length ≤ 16777216)) ((s_l26Circ_l1 a4 x1 n1) x4.2.2.2.2.1 x4.2.2.2.2.2.1 x4.2.2.2.2.2.2 (IntKind.wrap .i64 (v9 + 1)) (v10 ++ ([(x4.1, x4.2.1, x4.2.2.1, x4.2.2.2.1)])))) (s_l26Circ_j1 a4 v6 v7 v8 v10)
def s_l26Circ (a1 : List Int) (a2 : Int) (a3 : Int) (a4 : Int) (a5 : Int) : Option (Int × LQ × List Int × Int × Int) :=
  bO (s_l1Below a1 a2 a3 (IntKind.wrap .i64 (a5 + 1))) fun x1 => s_l26Circ_l1 a4 x1 FU x1.2.1 x1.2.2.1 x1.2.2.2 0 ([] : LQ)
set_option maxHeartbeats 4000000 in
theorem s_l26Circ_ok {a1 : List Int} {a2 : Int} {a3 : Int} {a4 : Int} {a5 : Int} {r : Int × LQ × List Int × Int × Int} (h : s_l26Circ a1 a2 a3 a4 a5 = some r) :
    Spec Try.prog 138 [.ptr 0 0, .int .i64 a4, .int .i64 a5] [.box 139 [.sl (encL EB a1) a1.length, .int .i64 a2, .int .i64 a3]] (.agg [.int .i64 r.1, .own 1 r.2.1.length]) [.box 139 [.sl (encL EB r.2.2.1) r.2.2.1.length, .int .i64 r.2.2.2.1, .int .i64 r.2.2.2.2], .row 49 4 (encL EIIII r.2.1)] := by
  unfold s_l26Circ at h
  refine spec_of Try.func138 rfl (by kernel_rfl) (by simp only [Try.ntmps138, List.length_cons, List.length_nil, Nat.reduceAdd, Nat.reduceLeDiff]) ?_
  intro C hN hρ
  rw [Try.ntmps138] at hN
  unfold st0
  simp only [tmps0, Nat.zero_add, Nat.reduceAdd]
  refine AW_rs (BR := BR) FM (by rw [hN]; kernel_rfl) (by kernel_rfl) ?_
  intro K hK
  simp only [EV, seval]
  refine hK _ _ _ ?_
  clear hK K
  refine AW_rs (BR := BR) FM (by rw [hN]; kernel_rfl) (by kernel_rfl) ?_
  intro K hK
  simp only [EV, seval]
  refine hK _ _ _ ?_
  clear hK K
  refine AW_rs (BR := BR) FM (by rw [hN]; kernel_rfl) (by kernel_rfl) ?_
  intro K hK
  obtain ⟨x1, h1, h⟩ := bO_inv h
  simp only [EV, seval]
  refine rR_p [0] (s_l1Below_ok h1) (by simp only [AL, EV, seval]) (by simp only [AL, EV, seval]) (by kernel_rfl) (by simp only [EV, solidO, List.mem_cons, List.not_mem_nil, or_false, forall_eq_or_imp, forall_eq, seval]) (le_d rfl) (le_d rfl) (no_j rfl) ?_
  simp only [EV, seval]
  refine hK _ _ _ ?_
  clear hK K
  refine AW_cutK (fun S => ∃ (v11 : List Int) (v12 : Int) (v13 : Int) (v14 : LQ), S = ⟨mkT [(6, .ptr 32 0), (7, .ptr 33 0)], mkR [(0, .box 139 [.sl (encL EB v11) v11.length, .int .i64 v12, .int .i64 v13]), (32, .box 55 [.int .i64 0, .nil]), (33, .box 55 [.int .i64 a4, .own 34 v14.length]), (34, .row 49 4 (encL EIIII v14))], 64⟩ ∧ s_l26Circ_j1 a4 v11 v12 v13 v14 = some r) ?_ ?_
  · refine AW_rs (BR := BR) FM (by rw [hN]; kernel_rfl) (by kernel_rfl) ?_
    intro K hK
    simp only [EV, seval]
    refine hK _ _ _ ?_
    clear hK K
    refine AW_block ?_
    refine AW_loopF (fun n S => ∃ (v6 : List Int) (v7 : Int) (v8 : Int) (v9 : Int) (v10 : LQ), S = ⟨mkT [(0, .ptr 0 0), (1, .int .i64 a4), (6, .ptr 32 0), (7, .ptr 33 0), (8, .int .i64 x1.1), (9, .int .i64 v9)], mkR [(0, .box 139 [.sl (encL EB v6) v6.length, .int .i64 v7, .int .i64 v8]), (32, .box 55 [.int .i64 0, .nil]), (33, .box 55 [.int .i64 a4, .own 34 v10.length]), (34, .row 49 4 (encL EIIII v10))], 64⟩ ∧ s_l26Circ_l1 a4 x1 n v6 v7 v8 v9 v10 = some r) FU ?_ ?_ ?_
    · refine cutL ⟨_, _, _, _, _, rfl, h⟩ (Le_can [(0, some 0), (32, some 64), (33, some 1120), (34, none)] [] hρ (by kernel_rfl) ?_ ?_)
      · simp only [AL, EV, seval]
      · simp only [AL, EV, seval]
    · rintro S ⟨_, _, _, _, _, _, h⟩; rw [s_l26Circ_l1] at h; cases h
    · rintro n1 S ⟨v6, v7, v8, v9, v10, rfl, h⟩
      rw [s_l26Circ_l1] at h
      refine AW_seq ?_
      refine AW_rs (BR := BR) FM (by rw [hN]; kernel_rfl) (by kernel_rfl) ?_
      intro K hK
      simp only [EV, seval]
      refine hK _ _ _ ?_
      clear hK K
      refine AW_condK (a := .bool (decide (v9 < x1.1))) (by simp only [EV, seval]) (brK h (fun hc3 h => ?_) (fun hc3 h => ?_))
      · refine AW_skip (show AW _ _ _ _ _ from ?_)
        refine AW_seq ?_
        refine AW_block ?_
        refine AW_reT (BR := BR) [(1, [33]), (4, [0])] (by kernel_rfl) FM (by rw [hN]; kernel_rfl) (by kernel_rfl) ?_
        intro K hK
        obtain ⟨x4, h6, h⟩ := bO_inv h
        simp only [AE, AT, TY, EN, seval]
        refine rRT_p _ [0] (s_l25Cliff_ok h6) (by simp only [AL, EV, seval]) (by simp only [AL, EV, seval]) (by kernel_rfl) (by simp only [EV, solidO, List.mem_cons, List.not_mem_nil, or_false, forall_eq_or_imp, forall_eq, seval]) (le_d rfl) (le_d rfl) (no_j rfl) ?_
        obtain ⟨h7, h⟩ := gd_inv h
        replace h7 := of_decide_eq_true h7
        try simp only [EV, seval] at h7
        simp only [AE, AT, TY, EN, seval, h7]
        refine hK _ _ _ (show AW _ _ _ _ _ from ?_)
        refine AW_re (BR := BR) FM (by rw [hN]; kernel_rfl) (by kernel_rfl) ?_
        intro K hK
        simp only [EV, seval]
        refine hK _ _ _ (show cutK _ _ _ from cutL ⟨_, _, _, _, _, rfl, h⟩ (Le_can [(0, some 0), (32, some 32), (33, some 33), (34, some 1184)] [] hρ (by kernel_rfl) ?_ ?_))
        · simp only [AL, EV, seval]
        · simp only [AL, EV, seval]
      · refine AW_exit (show cutK _ _ _ from cutL ⟨_, _, _, _, rfl, h⟩ (Le_can [(0, some 0), (32, some 32), (33, some 33), (34, some 34)] [] hρ (by kernel_rfl) ?_ ?_))
        · simp only [AL, EV, seval]
        · simp only [AL, EV, seval]
  · rintro S ⟨v11, v12, v13, v14, rfl, h⟩
    unfold s_l26Circ_j1 at h
    refine AW_rs (BR := BR) FM (by rw [hN]; kernel_rfl) (by kernel_rfl) ?_
    intro K hK
    simp only [EV, seval]
    refine hK _ _ _ ?_
    clear hK K
    injection h with h
    subst h
    refine AW_le (Le_can (lt := [(6, .ptr 32 0)]) (lr := [(0, .box 139 [.sl (encL EB v11) v11.length, .int .i64 v12, .int .i64 v13]), (32, .box 55 [.int .i64 a4, .own 33 v14.length]), (33, .row 49 4 (encL EIIII v14))]) (b' := 64) [(0, some 0), (32, some 32), (33, some 34)] [] hρ (by kernel_rfl) ?_ ?_) (AW_ret (end_q [0, 33] (.inr rfl) (by kernel_rfl) (by kernel_rfl) ?_))
    · simp only [AL, EV, seval]
    · simp only [AL, EV, seval]
    · simp only [EV, Try.results138, seval]
/- spec.l26Tab -/
def s_l26Tab (a1 : List Int) (a2 : Int) (a3 : Int) : Option (Int × LQ × List Int × Int × Int) :=
  bO (s_l1Below a1 a2 a3 4) fun x1 => bO (s_l26Circ x1.2.1 x1.2.2.1 x1.2.2.2 (IntKind.wrap .i64 (1 + x1.1)) 14) fun x2 => bO (s_CircuitTableau x2.1 x2.2.1) fun x3 => some (x3.1, x3.2.1, x2.2.2.1, x2.2.2.2.1, x2.2.2.2.2)
set_option maxHeartbeats 4000000 in
theorem s_l26Tab_ok {a1 : List Int} {a2 : Int} {a3 : Int} {r : Int × LQ × List Int × Int × Int} (h : s_l26Tab a1 a2 a3 = some r) :
    Spec Try.prog 135 [.ptr 0 0] [.box 139 [.sl (encL EB a1) a1.length, .int .i64 a2, .int .i64 a3]] (.agg [.int .i64 r.1, .own 1 r.2.1.length]) [.box 139 [.sl (encL EB r.2.2.1) r.2.2.1.length, .int .i64 r.2.2.2.1, .int .i64 r.2.2.2.2], .row 113 4 (encL EIIII r.2.1)] := by
  unfold s_l26Tab at h
  refine spec_of Try.func135 rfl (by kernel_rfl) (by simp only [Try.ntmps135, List.length_cons, List.length_nil, Nat.reduceAdd, Nat.reduceLeDiff]) ?_
  intro C hN hρ
  rw [Try.ntmps135] at hN
  unfold st0
  simp only [tmps0, Nat.zero_add, Nat.reduceAdd]
  refine AW_rs (BR := BR) FM (by rw [hN]; kernel_rfl) (by kernel_rfl) ?_
  intro K hK
  simp only [EV, seval]
  refine hK _ _ _ ?_
  clear hK K
  refine AW_rs (BR := BR) FM (by rw [hN]; kernel_rfl) (by kernel_rfl) ?_
  intro K hK
  obtain ⟨x1, h1, h⟩ := bO_inv h
  simp only [EV, seval]
  refine rR_p [0] (s_l1Below_ok h1) (by simp only [AL, EV, seval]) (by simp only [AL, EV, seval]) (by kernel_rfl) (by simp only [EV, solidO, List.mem_cons, List.not_mem_nil, or_false, forall_eq_or_imp, forall_eq, seval]) (le_d rfl) (le_d rfl) (no_j rfl) ?_
  obtain ⟨x2, h2, h⟩ := bO_inv h
  simp only [EV, seval]
  refine rR_p [0] (s_l26Circ_ok h2) (by simp only [AL, EV, seval]) (by simp only [AL, EV, seval]) (by kernel_rfl) (by simp only [EV, solidO, List.mem_cons, List.not_mem_nil, or_false, forall_eq_or_imp, forall_eq, seval]) (le_d rfl) (le_d rfl) (site_1 (by simp only [EV, seval])) ?_
  obtain ⟨x3, h3, h⟩ := bO_inv h
  simp only [EV, seval]
  refine rC_l (s_CircuitTableau_ok h3) (by simp only [AL, EV, seval]) (by simp only [AL, EF, and_self]) (le_d rfl) (site_1 (by simp only [EV, seval])) ?_
  simp only [EV, seval]
  refine hK _ _ _ ?_
  clear hK K
  refine AW_rs (BR := BR) FM (by rw [hN]; kernel_rfl) (by kernel_rfl) ?_
  intro K hK
  simp only [EV, seval]
  refine hK _ _ _ ?_
  clear hK K
  injection h with h
  subst h
  refine AW_le (Le_can (lt := [(2, .ptr 32 0)]) (lr := [(0, .box 139 [.sl (encL EB x2.2.2.1) x2.2.2.1.length, .int .i64 x2.2.2.2.1, .int .i64 x2.2.2.2.2]), (32, .box 31 [.int .i64 x3.1, .own 33 x3.2.1.length]), (33, .row 113 4 (encL EIIII x3.2.1))]) (b' := 64) [(0, some 0), (32, some 64), (33, some 1168)] [] hρ (by kernel_rfl) ?_ ?_) (AW_ret (end_q [0, 33] (.inr rfl) (by kernel_rfl) (by kernel_rfl) ?_))
  · simp only [AL, EV, seval]
  · simp only [AL, EV, seval]
  · simp only [EV, Try.results135, seval]
/- spec.l26Bent -/
def s_l26Bent_j1 (v5 : List Int) (v6 : Int) (v7 : Int) (v8 : Int) (v9 : LQ) : Option (Int × LQ × List Int × Int × Int) :=
  some (v8, v9, v5, v6, v7)
def s_l26Bent (a1 : List Int) (a2 : Int) (a3 : Int) : Option (Int × LQ × List Int × Int × Int) :=
  bO (s_l26Tab a1 a2 a3) fun x1 => bO (s_l1Below x1.2.2.1 x1.2.2.2.1 x1.2.2.2.2 10) fun x2 => br (x2.1 == 0) (bO (s_l1PickInt x2.2.1 x2.2.2.1 x2.2.2.2 ([0, 1, 5])) fun x3 => s_l26Bent_j1 x3.2.1 x3.2.2.1 x3.2.2.2 x3.1 x1.2.1) (br (x2.1 == 1) (bO (s_l1Below x2.2.1 x2.2.2.1 x2.2.2.2 ((x1.2.1.length : Int))) fun x4 => bO (s_l25Bent x4.2.1 x4.2.2.1 x4.2.2.2) fun x5 => bO (geti x1.2.1 x4.1) fun q1 => s_l26Bent_j1 x5.2.2.2.2.1 x5.2.2.2.2.2.1 x5.2.2.2.2.2.2 x1.1 (x1.2.1.set (Int.toNat x4.1) ((x5.1, x5.2.1, x5.2.2.1, x5.2.2.2.1)))) (br (x2.1 == 2) (bO (s_l1Below x2.2.1 x2.2.2.1 x2.2.2.2 ((x1.2.1.length : Int))) fun x6 => bO (slc x1.2.1 0 x6.1) fun l1 => s_l26Bent_j1 x6.2.1 x6.2.2.1 x6.2.2.2 x1.1 l1) (br (x2.1 == 3) (bO (geti x1.2.1 0) fun q2 => s_l26Bent_j1 x2.2.1 x2.2.2.1 x2.2.2.2 x1.1 (x1.2.1.set (Int.toNat 0) ((q2.1, q2.2.1, q2.2.2.1, Int.tmod (IntKind.wrap .i64 (q2.2.2.2 + 2)) 4)))) (s_l26Bent_j1 x2.2.1 x2.2.2.1 x2.2.2.2 x1.1 x1.2.1))))
set_option maxHeartbeats 4000000 in
theorem s_l26Bent_ok {a1 : List Int} {a2 : Int} {a3 : Int} {r : Int × LQ × List Int × Int × Int} (h : s_l26Bent a1 a2 a3 = some r) :
    Spec Try.prog 83 [.ptr 0 0] [.box 139 [.sl (encL EB a1) a1.length, .int .i64 a2, .int .i64 a3]] (.agg [.int .i64 r.1, .sl (encL EIIII r.2.1) r.2.1.length]) [.box 139 [.sl (encL EB r.2.2.1) r.2.2.1.length, .int .i64 r.2.2.2.1, .int .i64 r.2.2.2.2]] := by
  unfold s_l26Bent at h
  refine spec_of Try.func83 rfl (by kernel_rfl) (by simp only [Try.ntmps83, List.length_cons, List.length_nil, Nat.reduceAdd, Nat.reduceLeDiff]) ?_
  intro C hN hρ
  rw [Try.ntmps83] at hN
  unfold st0
  simp only [tmps0, Nat.zero_add, Nat.reduceAdd]
  refine AW_rs (BR := BR) FM (by rw [hN]; kernel_rfl) (by kernel_rfl) ?_
  intro K hK
  simp only [EV, seval]
  refine hK _ _ _ ?_
  clear hK K
  refine AW_rs (BR := BR) FM (by rw [hN]; kernel_rfl) (by kernel_rfl) ?_
  intro K hK
  obtain ⟨x1, h1, h⟩ := bO_inv h
  simp only [EV, seval]
  refine rR_p [0] (s_l26Tab_ok h1) (by simp only [AL, EV, seval]) (by simp only [AL, EV, seval]) (by kernel_rfl) (by simp only [EV, solidO, List.mem_cons, List.not_mem_nil, or_false, forall_eq_or_imp, forall_eq, seval]) (le_d rfl) (le_d rfl) (site_1 (by simp only [EV, seval])) ?_
  simp only [EV, seval]
  refine hK _ _ _ ?_
  clear hK K
  refine AW_cutK (fun S => ∃ (v5 : List Int) (v6 : Int) (v7 : Int) (v8 : Int) (v9 : LQ), S = ⟨mkT [(2, .ptr 32 0), (3, .ptr 33 0)], mkR [(0, .box 139 [.sl (encL EB v5) v5.length, .int .i64 v6, .int .i64 v7]), (32, .box 31 [.int .i64 0, .nil]), (33, .box 31 [.int .i64 v8, .sl (encL EIIII v9) v9.length])], 64⟩ ∧ s_l26Bent_j1 v5 v6 v7 v8 v9 = some r) ?_ ?_
  · refine AW_rs (BR := BR) FM (by rw [hN]; kernel_rfl) (by kernel_rfl) ?_
    intro K hK
    obtain ⟨x2, h2, h⟩ := bO_inv h
    simp only [EV, seval]
    refine rR_p [0] (s_l1Below_ok h2) (by simp only [AL, EV, seval]) (by simp only [AL, EV, seval]) (by kernel_rfl) (by simp only [EV, solidO, List.mem_cons, List.not_mem_nil, or_false, forall_eq_or_imp, forall_eq, seval]) (le_d rfl) (le_d rfl) (no_j rfl) ?_
    simp only [EV, seval]
    refine hK _ _ _ ?_
    clear hK K
    refine AW_block ?_
    refine AW_rs (BR := BR) FM (by rw [hN]; kernel_rfl) (by kernel_rfl) ?_
    intro K hK
    simp only [EV, seval]
    refine hK _ _ _ ?_
    clear hK K
    refine AW_condK (a := .bool (x2.1 == 0)) (by simp only [EV, seval]) (brK h (fun hc1 h => ?_) (fun hc1 h => ?_))
    · refine AW_re (BR := BR) FM (by rw [hN]; kernel_rfl) (by kernel_rfl) ?_
      intro K hK
      obtain ⟨x3, h3, h⟩ := bO_inv h
      simp only [EV, seval]
      refine rR_p [0] (s_l1PickInt_ok h3) (by simp only [AL, EV, seval]) (by simp only [AL, EV, seval]) (by kernel_rfl) (by simp only [EV, solidO, List.mem_cons, List.not_mem_nil, or_false, forall_eq_or_imp, forall_eq, seval]) (le_d rfl) (le_d rfl) (no_j rfl) ?_
      simp only [EV, seval]
      refine hK _ _ _ (show cutK _ _ _ from cutL ⟨_, _, _, _, _, rfl, h⟩ (Le_can [(0, some 0), (32, some 64), (33, some 1120)] [1104] hρ (by kernel_rfl) ?_ ?_))
      · simp only [AL, EV, seval]
      · simp only [AL, EV, seval]
    · refine AW_rs (BR := BR) FM (by rw [hN]; kernel_rfl) (by kernel_rfl) ?_
      intro K hK
      simp only [EV, seval]
      refine hK _ _ _ ?_
      clear hK K
      refine AW_condK (a := .bool (x2.1 == 1)) (by simp only [EV, seval]) (brK h (fun hc2 h => ?_) (fun hc2 h => ?_))
      · refine AW_reT (BR := BR) [(1, [1120]), (6, [0]), (8, [0])] (by kernel_rfl) FM (by rw [hN]; kernel_rfl) (by kernel_rfl) ?_
        intro K hK
        obtain ⟨x4, h4, h⟩ := bO_inv h
        simp only [AE, AT, TY, EN, seval]
        refine rRT_p _ [0] (s_l1Below_ok h4) (by simp only [AL, EV, seval]) (by simp only [AL, EV, seval]) (by kernel_rfl) (by simp only [EV, solidO, List.mem_cons, List.not_mem_nil, or_false, forall_eq_or_imp, forall_eq, seval]) (le_d rfl) (le_d rfl) (no_j rfl) ?_
        obtain ⟨x5, h5, h⟩ := bO_inv h
        simp only [AE, AT, TY, EN, seval]
        refine rRT_p _ [0] (s_l25Bent_ok h5) (by simp only [AL, EV, seval]) (by simp only [AL, EV, seval]) (by kernel_rfl) (by simp only [EV, solidO, List.mem_cons, List.not_mem_nil, or_false, forall_eq_or_imp, forall_eq, seval]) (le_d rfl) (le_d rfl) (no_j rfl) ?_
        obtain ⟨q1, h6, h⟩ := bO_inv h
        obtain ⟨⟨h7a, h7b⟩, h7c⟩ := geti_E EIIIIl h6
        try simp only [EV, seval] at h7c
        have h8 := set_E EIIIIl ((x5.1, x5.2.1, x5.2.2.1, x5.2.2.2.1)) 0 [.int .i64 x5.1, .int .i64 x5.2.1, .int .i64 x5.2.2.1, .int .i64 x5.2.2.2.1] h6 (Nat.le_of_ble_eq_true rfl) rfl
        obtain ⟨h8a, h8b⟩ := h8
        try simp only [EV, seval] at h8a
        try simp only [EV, seval] at h8b
        simp only [AE, AT, TY, EN, seval, h7a, h7b, h7c, h8a, h8b]
        refine hK _ _ _ (show cutK _ _ _ from cutL ⟨_, _, _, _, _, rfl, h⟩ (Le_can [(0, some 0), (32, some 64), (33, some 1120)] [1104] hρ (by kernel_rfl) ?_ ?_))
        · simp only [AL, EV, seval, h7a, h7b, h7c, h8a, h8b]
        · simp only [AL, EV, seval, h7a, h7b, h7c, h8a, h8b]
      · refine AW_rs (BR := BR) FM (by rw [hN]; kernel_rfl) (by kernel_rfl) ?_
        intro K hK
        simp only [EV, seval]
        refine hK _ _ _ ?_
        clear hK K
        refine AW_condK (a := .bool (x2.1 == 2)) (by simp only [EV, seval]) (brK h (fun hc3 h => ?_) (fun hc3 h => ?_))
        · refine AW_le (Le_can (lt := [(0, .ptr 0 0), (2, .ptr 64 0), (3, .ptr 1120 0)]) (lr := [(0, .box 139 [.sl (encL EB x2.2.1) x2.2.1.length, .int .i64 x2.2.2.1, .int .i64 x2.2.2.2]), (64, .box 31 [.int .i64 0, .nil]), (1120, .box 31 [.int .i64 x1.1, .sl (encL EIIII x1.2.1) x1.2.1.length])]) (b' := 6224) [(0, some 0), (64, some 64), (1120, some 1120)] [1104] hρ (by kernel_rfl) ?_ ?_) ?_
          · simp only [AL, EV, seval]
          · simp only [AL, EV, seval]
          refine AW_reT (BR := BR) [(1, [1120]), (6, [0])] (by kernel_rfl) FM (by rw [hN]; kernel_rfl) (by kernel_rfl) ?_
          intro K hK
          obtain ⟨x6, h9, h⟩ := bO_inv h
          simp only [AE, AT, TY, EN, seval]
          refine rRT_p _ [0] (s_l1Below_ok h9) (by simp only [AL, EV, seval]) (by simp only [AL, EV, seval]) (by kernel_rfl) (by simp only [EV, solidO, List.mem_cons, List.not_mem_nil, or_false, forall_eq_or_imp, forall_eq, seval]) (le_d rfl) (le_d rfl) (no_j rfl) ?_
          obtain ⟨l1, h10, h⟩ := bO_inv h
          obtain ⟨⟨h11a, h11b, h11c⟩, h11d, h11e⟩ := slc_E EIIIIl h10
          try simp only [EV, seval] at h11d
          try simp only [EV, seval] at h11e
          try simp only [EV, seval] at h11a
          try simp only [EV, seval] at h11b
          try simp only [EV, seval] at h11c
          simp only [AE, AT, TY, EN, seval, h11a, h11b, h11c, h11d, h11e]
          refine hK _ _ _ (show cutK _ _ _ from cutL ⟨_, _, _, _, _, rfl, h⟩ (Le_can [(0, some 0), (32, some 64), (33, some 1120)] [] hρ (by kernel_rfl) ?_ ?_))
          · simp only [AL, EV, seval, h11a, h11b, h11c, h11d, h11e]
          · simp only [AL, EV, seval, h11a, h11b, h11c, h11d, h11e]
        · refine AW_rs (BR := BR) FM (by rw [hN]; kernel_rfl) (by kernel_rfl) ?_
          intro K hK
          simp only [EV, seval]
          refine hK _ _ _ ?_
          clear hK K
          refine AW_condK (a := .bool (x2.1 == 3)) (by simp only [EV, seval]) (brK h (fun hc4 h => ?_) (fun hc4 h => ?_))
          · refine AW_re (BR := BR) FM (by rw [hN]; kernel_rfl) (by kernel_rfl) ?_
            intro K hK
            obtain ⟨q2, h12, h⟩ := bO_inv h
            obtain ⟨⟨h13a, h13b⟩, h13c⟩ := geti_E EIIIIl h12
            try simp only [EV, seval] at h13c
            have h14 := geti_F EIIIIl 3 h12
            try simp only [EV, seval, h13c] at h14
            have h15 := set_E EIIIIl ((q2.1, q2.2.1, q2.2.2.1, Int.tmod (IntKind.wrap .i64 (q2.2.2.2 + 2)) 4)) 3 [.int .i64 (Int.tmod (IntKind.wrap .i64 (q2.2.2.2 + 2)) 4)] h12 (Nat.le_of_ble_eq_true rfl) rfl
            obtain ⟨h15a, h15b⟩ := h15
            try simp only [EV, seval, h13c] at h15a
            try simp only [EV, seval, h13c] at h15b
            simp only [EV, seval, h13a, h13b, h13c, h14, h15a, h15b]
            refine hK _ _ _ (show cutK _ _ _ from cutL ⟨_, _, _, _, _, rfl, h⟩ (Le_can [(0, some 0), (32, some 64), (33, some 1120)] [1104] hρ (by kernel_rfl) ?_ ?_))
            · simp only [AL, EV, seval, h13a, h13b, h13c, h14, h15a, h15b]
            · simp only [AL, EV, seval, h13a, h13b, h13c, h14, h15a, h15b]
          · refine AW_skip (show cutK _ _ _ from cutL ⟨_, _, _, _, _, rfl, h⟩ (Le_can [(0, some 0), (32, some 64), (33, some 1120)] [1104] hρ (by kernel_rfl) ?_ ?_))
            · simp only [AL, EV, seval]
            · simp only [AL, EV, seval]
  · rintro S ⟨v5, v6, v7, v8, v9, rfl, h⟩
    unfold s_l26Bent_j1 at h
    refine AW_rs (BR := BR) FM (by rw [hN]; kernel_rfl) (by kernel_rfl) ?_
    intro K hK
    simp only [EV, seval]
    refine hK _ _ _ ?_
    clear hK K
    injection h with h
    subst h
    refine AW_le (Le_can (lt := [(2, .ptr 32 0)]) (lr := [(0, .box 139 [.sl (encL EB v5) v5.length, .int .i64 v6, .int .i64 v7]), (32, .box 31 [.int .i64 v8, .sl (encL EIIII v9) v9.length])]) (b' := 64) [(0, some 0), (32, some 32)] [] hρ (by kernel_rfl) ?_ ?_) (AW_ret (end_q [0] (.inr rfl) (by kernel_rfl) (by kernel_rfl) ?_))
    · simp only [AL, EV, seval]
    · simp only [AL, EV, seval]
    · simp only [EV, Try.results83, seval]
end Go.Proofs.Ytcclapenpaediaa
