/- Models of functions, and that the functions do what the models say; printed by a program. -/
import Derived.Test.YtcclapenpaediaaGn
import Derived.Test.YtcclapenpaediaaMj
import Derived.Test.YtcclapenpaediaaMc
import Derived.Test.YtcclapenpaediaaMnw
import Derived.Test.YtcclapenpaediaaMv
import Derived.Test.YtcclapenpaediaaMu
import Derived.Test.YtcclapenpaediaaMh
import Derived.Test.YtcclapenpaediaaMcn
import Derived.Test.YtcclapenpaediaaIh
import Derived.Test.YtcclapenpaediaaMf
import Derived.Test.YtcclapenpaediaaMi
import Derived.Test.YtcclapenpaediaaGt
namespace Go.Proofs.Ytcclapenpaediaa
open Go.RowKit
set_option maxRecDepth 100000
set_option linter.unusedVariables false
set_option linter.unusedSimpArgs false
set_option linter.defProp false
/- impl.copyNormalForm -/
def i_copyNormalForm (a1 : List Int) (a2 : Int) (a3 : LQ) : Option (Int × List Int × LQ) :=
  gd (decide (([] : List Int).length + a1.length ≤ 16777216)) (gd (decide (([] : LQ).length + a3.length ≤ 16777216)) (some (a2, a1, a3)))
set_option maxHeartbeats 4000000 in
theorem i_copyNormalForm_ok {a1 : List Int} {a2 : Int} {a3 : LQ} {r : Int × List Int × LQ} (h : i_copyNormalForm a1 a2 a3 = some r) :
    Spec Try.prog 111 [.agg [.sl (encL EI a1) a1.length, .int .i64 a2, .sl (encL EIIII a3) a3.length]] [] (.agg [.own 0 r.2.1.length, .int .i64 r.1, .own 1 r.2.2.length]) [.row 3 1 (encL EI r.2.1), .row 113 4 (encL EIIII r.2.2)] := by
  unfold i_copyNormalForm at h
  refine spec_of Try.func111 rfl (by kernel_rfl) (by simp only [Try.ntmps111, List.length_cons, List.length_nil, Nat.reduceAdd, Nat.reduceLeDiff]) ?_
  intro C hN hρ
  rw [Try.ntmps111] at hN
  unfold st0
  simp only [tmps0, Nat.zero_add, Nat.reduceAdd]
  refine AW_rs (BR := BR) FM (by rw [hN]; kernel_rfl) (by kernel_rfl) ?_
  intro K hK
  simp only [EV, seval]
  refine hK _ _ _ ?_
  clear hK K
  refine AW_rsT (BR := BR) [(3, [8888888, 1088, 1136]), (6, [64]), (7, [8888888, 1200]), (10, [64]), (11, [1200, 1264])] (by kernel_rfl) FM (by rw [hN]; kernel_rfl) (by kernel_rfl) ?_
  intro K hK
  obtain ⟨h1, h⟩ := gd_inv h
  replace h1 := of_decide_eq_true h1
  try simp only [EV, seval] at h1
  have h2 := encL_len EIl a1
  obtain ⟨h3, h⟩ := gd_inv h
  replace h3 := of_decide_eq_true h3
  try simp only [EV, seval] at h3
  have h4 := encL_len EIIIIl a3
  simp only [AE, AT, TY, EN, seval, h1, h2, h3, h4]
  refine hK _ _ _ ?_
  clear hK K
  injection h with h
  subst h
  refine AW_le (Le_can (lt := [(2, .ptr 32 0)]) (lr := [(32, .box 72 [.own 33 a1.length, .int .i64 a2, .own 34 a3.length]), (33, .row 3 1 (encL EI a1)), (34, .row 113 4 (encL EIIII a3))]) (b' := 64) [(32, some 80), (33, some 1136), (34, some 1264)] [] hρ (by kernel_rfl) ?_ ?_) (AW_ret (end_q [33, 34] (.inr rfl) (by kernel_rfl) (by kernel_rfl) ?_))
  · simp only [AL, EV, seval, h1, h2, h3, h4]
  · simp only [AL, EV, seval, h1, h2, h3, h4]
  · simp only [EV, Try.results111, seval]
/- impl.wordOf -/
def i_wordOf_j1 (v9 : LQ) : Option (Int × LQ) :=
  bO (i_WordTableau v9) fun x1 => some (x1.1, x1.2.1)
def i_wordOf_l1 (a1 : List (LQ)) : Nat → Int → Int → (LQ) → Option (Int × LQ)
  | 0, _, _, _ => none
  | n1 + 1, v6, v7, v8 =>
  br (decide (v7 < v6)) (bO (geti a1 v7) fun q3 => gd (decide (v8.length + q3.length ≤ 16777216)) ((i_wordOf_l1 a1 n1) v6 (IntKind.wrap .i64 (v7 + 1)) (v8 ++ q3))) (i_wordOf_j1 v8)
def i_wordOf (a1 : List (LQ)) : Option (Int × LQ) :=
  i_wordOf_l1 a1 FU ((a1.length : Int)) 0 ([] : LQ)
set_option maxHeartbeats 4000000 in
theorem i_wordOf_ok {a1 : List (LQ)} {r : Int × LQ} (h : i_wordOf a1 = some r) :
    Spec Try.prog 152 [.sl (encL ELIIIIE a1) a1.length] [] (.agg [.int .i64 r.1, .own 0 r.2.length]) [.row 113 4 (encL EIIII r.2)] := by
  unfold i_wordOf at h
  refine spec_of Try.func152 rfl (by kernel_rfl) (by simp only [Try.ntmps152, List.length_cons, List.length_nil, Nat.reduceAdd, Nat.reduceLeDiff]) ?_
  intro C hN hρ
  rw [Try.ntmps152] at hN
  unfold st0
  simp only [tmps0, Nat.zero_add, Nat.reduceAdd]
  refine AW_rs (BR := BR) FM (by rw [hN]; kernel_rfl) (by kernel_rfl) ?_
  intro K hK
  simp only [EV, seval]
  refine hK _ _ _ ?_
  clear hK K
  refine AW_rs (BR := BR) FM (by rw [hN]; kernel_rfl) (by kernel_rfl) ?_
  intro K hK
  simp only [EV, seval]
  refine hK _ _ _ ?_
  clear hK K
  refine AW_cutK (fun S => ∃ (v9 : LQ), S = ⟨mkT [(2, .ptr 32 0), (3, .own 33 v9.length)], mkR [(32, .box 31 [.int .i64 0, .nil]), (33, .row 49 4 (encL EIIII v9))], 64⟩ ∧ i_wordOf_j1 v9 = some r) ?_ ?_
  · refine AW_rs (BR := BR) FM (by rw [hN]; kernel_rfl) (by kernel_rfl) ?_
    intro K hK
    simp only [EV, seval]
    refine hK _ _ _ ?_
    clear hK K
    refine AW_block ?_
    refine AW_loopF (fun n S => ∃ (v6 : Int) (v7 : Int) (v8 : LQ), S = ⟨mkT [(2, .ptr 32 0), (3, .own 33 v8.length), (9, .sl (encL ELIIIIE a1) a1.length), (10, .int .i64 v6), (11, .int .i64 v7)], mkR [(32, .box 31 [.int .i64 0, .nil]), (33, .row 49 4 (encL EIIII v8))], 64⟩ ∧ i_wordOf_l1 a1 n v6 v7 v8 = some r) FU ?_ ?_ ?_
    · refine cutL ⟨_, _, _, rfl, h⟩ (Le_can [(32, some 64), (33, some 1088)] [] hρ (by kernel_rfl) ?_ ?_)
      · simp only [AL, EV, seval]
      · simp only [AL, EV, seval]
    · rintro S ⟨_, _, _, _, h⟩; rw [i_wordOf_l1] at h; cases h
    · rintro n1 S ⟨v6, v7, v8, rfl, h⟩
      rw [i_wordOf_l1] at h
      refine AW_rs (BR := BR) FM (by rw [hN]; kernel_rfl) (by kernel_rfl) ?_
      intro K hK
      simp only [EV, seval]
      refine hK _ _ _ ?_
      clear hK K
      refine AW_seq ?_
      refine AW_condK (a := .bool (decide (v7 < v6))) (by simp only [EV, seval]) (brK h (fun hc3 h => ?_) (fun hc3 h => ?_))
      · refine AW_skip (show AW _ _ _ _ _ from ?_)
        refine AW_seq ?_
        refine AW_block ?_
        refine AW_rs (BR := BR) FM (by rw [hN]; kernel_rfl) (by kernel_rfl) ?_
        intro K hK
        obtain ⟨q3, h9, h⟩ := bO_inv h
        obtain ⟨⟨h10a, h10b⟩, h10c⟩ := geti_E ELIIIIEl h9
        try simp only [EV, seval] at h10c
        simp only [EV, seval, h10a, h10b, h10c]
        refine hK _ _ _ ?_
        clear hK K
        refine AW_re (BR := BR) FM (by rw [hN]; kernel_rfl) (by kernel_rfl) ?_
        intro K hK
        obtain ⟨h11, h⟩ := gd_inv h
        replace h11 := of_decide_eq_true h11
        try simp only [EV, seval] at h11
        have h12 := encL_len EIIIIl q3
        simp only [EV, seval, h11, h12]
        refine hK _ _ _ (show AW _ _ _ _ _ from ?_)
        refine AW_re (BR := BR) FM (by rw [hN]; kernel_rfl) (by kernel_rfl) ?_
        intro K hK
        simp only [EV, seval]
        refine hK _ _ _ (show cutK _ _ _ from cutL ⟨_, _, _, rfl, h⟩ (Le_can [(32, some 32), (33, some 2144)] [] hρ (by kernel_rfl) ?_ ?_))
        · simp only [AL, EV, seval]
        · simp only [AL, EV, seval]
      · refine AW_exit (show cutK _ _ _ from cutL ⟨_, rfl, h⟩ (Le_can [(32, some 32), (33, some 33)] [] hρ (by kernel_rfl) ?_ ?_))
        · simp only [AL, EV, seval]
        · simp only [AL, EV, seval]
  · rintro S ⟨v9, rfl, h⟩
    unfold i_wordOf_j1 at h
    refine AW_rs (BR := BR) FM (by rw [hN]; kernel_rfl) (by kernel_rfl) ?_
    intro K hK
    obtain ⟨x1, h13, h⟩ := bO_inv h
    simp only [EV, seval]
    refine rC_l (i_WordTableau_ok h13) (by simp only [AL, EV, seval]) (by simp only [AL, EF, and_self]) (le_d rfl) (site_1 (by simp only [EV, seval])) ?_
    simp only [EV, seval]
    refine hK _ _ _ ?_
    clear hK K
    refine AW_rs (BR := BR) FM (by rw [hN]; kernel_rfl) (by kernel_rfl) ?_
    intro K hK
    simp only [EV, seval]
    refine hK _ _ _ ?_
    clear hK K
    injection h with h
    subst h
    refine AW_le (Le_can (lt := [(2, .ptr 32 0)]) (lr := [(32, .box 31 [.int .i64 x1.1, .own 33 x1.2.1.length]), (33, .row 113 4 (encL EIIII x1.2.1))]) (b' := 64) [(32, some 32), (33, some 80)] [] hρ (by kernel_rfl) ?_ ?_) (AW_ret (end_q [33] (.inr rfl) (by kernel_rfl) (by kernel_rfl) ?_))
    · simp only [AL, EV, seval]
    · simp only [AL, EV, seval]
    · simp only [EV, Try.results152, seval]
/- impl.withT -/
def i_withT_j2 (x1 : Int × List Int × LQ) (x2 : Int) (v1 : Int) (v2 : LQ) (v3 : Int) (v4 : Bool) : Option (Int × List Int × LQ) :=
  br v4 (bO (geti x1.2.1 v3) fun q2 => bO (i_CliffordWord v1 v2) fun x10 => gd (decide (v3 < (x1.2.1.length : Int))) (bO (slc x1.2.1 0 v3) fun l1 => bO (i_CosetRepresentative q2) fun x11 => bO (i_one 5 0) fun x12 => bO (i_wordOf ([x11, [(x12.1, x12.2.1, x12.2.2.1, x12.2.2.2)], x10.1])) fun x13 => some (x13.1, l1, x13.2))) (gd (decide (x1.2.1.length + ([x2]).length ≤ 16777216)) (some (v1, x1.2.1 ++ ([x2]), v2)))
def i_withT_j1 (x1 : Int × List Int × LQ) (x2 : Int) (v1 : Int) (v2 : LQ) : Option (Int × List Int × LQ) :=
  bO (br (x2 == 0) (some (decide (0 ≤ (IntKind.wrap .i64 (((x1.2.1.length : Int)) - 1))))) (some false)) fun x9 => i_withT_j2 x1 x2 v1 v2 (IntKind.wrap .i64 (((x1.2.1.length : Int)) - 1)) x9
def i_withT (a1 : List Int) (a2 : Int) (a3 : LQ) : Option (Int × List Int × LQ) :=
  bO (i_copyNormalForm a1 a2 a3) fun x1 => bO (i_CosetIndex a2 a3) fun x2 => bO (i_CliffordWord a2 a3) fun x3 => bO (i_CosetRepresentative x2) fun x4 => bO (i_inverted x4) fun x5 => bO (i_wordOf ([x5, x3.1])) fun x6 => bO (geti x6.2 1) fun q1 => br (q1.2.2.2 == 2) (bO (i_one 5 0) fun x7 => bO (i_TableauApplyGate x6.1 x6.2 x7.1 x7.2.1 x7.2.2.1 x7.2.2.2) fun x8 => i_withT_j1 x1 x2 x8.1 x8.2.1) (i_withT_j1 x1 x2 x6.1 x6.2)
set_option maxHeartbeats 4000000 in
theorem i_withT_ok {a1 : List Int} {a2 : Int} {a3 : LQ} {r : Int × List Int × LQ} (h : i_withT a1 a2 a3 = some r) :
    Spec Try.prog 113 [.agg [.sl (encL EI a1) a1.length, .int .i64 a2, .sl (encL EIIII a3) a3.length]] [] (.agg [.own 0 r.2.1.length, .int .i64 r.1, .own 1 r.2.2.length]) [.row 3 1 (encL EI r.2.1), .row 113 4 (encL EIIII r.2.2)] := by
  unfold i_withT at h
  refine spec_of Try.func113 rfl (by kernel_rfl) (by simp only [Try.ntmps113, List.length_cons, List.length_nil, Nat.reduceAdd, Nat.reduceLeDiff]) ?_
  intro C hN hρ
  rw [Try.ntmps113] at hN
  unfold st0
  simp only [tmps0, Nat.zero_add, Nat.reduceAdd]
  refine AW_rs (BR := BR) FM (by rw [hN]; kernel_rfl) (by kernel_rfl) ?_
  intro K hK
  simp only [EV, seval]
  refine hK _ _ _ ?_
  clear hK K
  refine AW_rs (BR := BR) FM (by rw [hN]; kernel_rfl) (by kernel_rfl) ?_
  intro K hK
  obtain ⟨x1, h1, h⟩ := bO_inv h
  simp only [EV, seval]
  refine rC_p (i_copyNormalForm_ok h1) (by simp only [AL, EV, seval]) (le_d rfl) (site_2 (by simp only [EV, seval])) ?_
  simp only [EV, seval]
  refine hK _ _ _ ?_
  clear hK K
  refine AW_rs (BR := BR) FM (by rw [hN]; kernel_rfl) (by kernel_rfl) ?_
  intro K hK
  obtain ⟨x2, h2, h⟩ := bO_inv h
  simp only [EV, seval]
  refine rC_p (i_CosetIndex_ok h2) (by simp only [AL, EV, seval]) (le_d rfl) (no_j rfl) ?_
  simp only [EV, seval]
  refine hK _ _ _ ?_
  clear hK K
  refine AW_rs (BR := BR) FM (by rw [hN]; kernel_rfl) (by kernel_rfl) ?_
  intro K hK
  obtain ⟨x3, h3, h⟩ := bO_inv h
  simp only [EV, seval]
  refine rC_p (i_CliffordWord_ok h3) (by simp only [AL, EV, seval]) (le_d rfl) (no_j rfl) ?_
  simp only [EV, seval]
  refine hK _ _ _ ?_
  clear hK K
  refine AW_rs (BR := BR) FM (by rw [hN]; kernel_rfl) (by kernel_rfl) ?_
  intro K hK
  obtain ⟨x4, h4, h⟩ := bO_inv h
  simp only [EV, seval]
  refine rC_p (Spec.can (ret2 := .sl (encL EIIII x4) x4.length) (mem2 := []) (i_CosetRepresentative_ok h4) [] [0] (by kernel_rfl) (by simp only [AL, EV, seval]) (by simp only [AL, EV, seval])) (by simp only [AL, EV, seval]) (le_d rfl) (no_j rfl) ?_
  obtain ⟨x5, h5, h⟩ := bO_inv h
  simp only [EV, seval]
  refine rC_p (Spec.can (ret2 := .sl (encL EIIII x5) x5.length) (mem2 := []) (i_inverted_ok h5) [] [0] (by kernel_rfl) (by simp only [AL, EV, seval]) (by simp only [AL, EV, seval])) (by simp only [AL, EV, seval]) (le_d rfl) (no_j rfl) ?_
  obtain ⟨x6, h6, h⟩ := bO_inv h
  simp only [EV, seval]
  refine rC_l (i_wordOf_ok h6) (by simp only [AL, EV, seval]) (by simp only [AL, EF, and_self]) (le_d rfl) (site_1 (by simp only [EV, seval])) ?_
  simp only [EV, seval]
  refine hK _ _ _ ?_
  clear hK K
  refine AW_cutK (fun S => ∃ (v1 : Int) (v2 : LQ), S = ⟨mkT [(2, .ptr 32 0), (3, .ptr 33 0), (4, .int .i64 x2), (7, .ptr 34 0)], mkR [(32, .box 72 [.nil, .int .i64 0, .nil]), (33, .box 72 [.own 35 x1.2.1.length, .int .i64 x1.1, .own 36 x1.2.2.length]), (34, .box 31 [.int .i64 v1, .own 37 v2.length]), (35, .row 3 1 (encL EI x1.2.1)), (36, .row 113 4 (encL EIIII x1.2.2)), (37, .row 113 4 (encL EIIII v2))], 64⟩ ∧ i_withT_j1 x1 x2 v1 v2 = some r) ?_ ?_
  · refine AW_rs (BR := BR) FM (by rw [hN]; kernel_rfl) (by kernel_rfl) ?_
    intro K hK
    obtain ⟨q1, h7, h⟩ := bO_inv h
    obtain ⟨⟨h8a, h8b⟩, h8c⟩ := geti_E EIIIIl h7
    try simp only [EV, seval] at h8c
    have h9 := geti_F EIIIIl 3 h7
    try simp only [EV, seval] at h9
    simp only [EV, seval, h8a, h8b, h8c, h9]
    refine hK _ _ _ ?_
    clear hK K
    refine AW_condK (a := .bool (q1.2.2.2 == 2)) (by simp only [EV, seval, h8a, h8b, h8c, h9]) (brK h (fun hc1 h => ?_) (fun hc1 h => ?_))
    · refine AW_re (BR := BR) FM (by rw [hN]; kernel_rfl) (by kernel_rfl) ?_
      intro K hK
      obtain ⟨x7, h10, h⟩ := bO_inv h
      simp only [EV, seval]
      refine rC_p (i_one_ok h10) (by simp only [AL, EV, seval]) (le_d rfl) (no_j rfl) ?_
      obtain ⟨x8, h11, h⟩ := bO_inv h
      simp only [EV, seval]
      refine rC_l (i_TableauApplyGate_ok h11) (by simp only [AL, EV, seval]) (by simp only [AL, EF, and_self]) (le_d rfl) (site_1 (by simp only [EV, seval])) ?_
      simp only [EV, seval]
      refine hK _ _ _ (show cutK _ _ _ from cutL ⟨_, _, rfl, h⟩ (Le_can [(32, some 80), (33, some 1120), (34, some 4256), (35, some 1104), (36, some 1105), (37, some 6240)] [] hρ (by kernel_rfl) ?_ ?_))
      · simp only [AL, EV, seval]
      · simp only [AL, EV, seval]
    · refine AW_skip (show cutK _ _ _ from cutL ⟨_, _, rfl, h⟩ (Le_can [(32, some 80), (33, some 1120), (34, some 4256), (35, some 1104), (36, some 1105), (37, some 4240)] [] hρ (by kernel_rfl) ?_ ?_))
      · simp only [AL, EV, seval, h8a, h8b, h8c, h9]
      · simp only [AL, EV, seval, h8a, h8b, h8c, h9]
  · rintro S ⟨v1, v2, rfl, h⟩
    unfold i_withT_j1 at h
    refine AW_rs (BR := BR) FM (by rw [hN]; kernel_rfl) (by kernel_rfl) ?_
    intro K hK
    simp only [EV, seval]
    refine hK _ _ _ ?_
    clear hK K
    refine AW_seq ?_
    refine AW_rsJ (BR := BR) (fun S => ∃ (v3 : Int) (v4 : Bool), S = ⟨mkT [(2, .ptr 32 0), (3, .ptr 33 0), (4, .int .i64 x2), (7, .ptr 34 0), (8, .int .i64 v3), (50, .bool v4)], mkR [(32, .box 72 [.nil, .int .i64 0, .nil]), (33, .box 72 [.own 35 x1.2.1.length, .int .i64 x1.1, .own 36 x1.2.2.length]), (34, .box 31 [.int .i64 v1, .own 37 v2.length]), (35, .row 3 1 (encL EI x1.2.1)), (36, .row 113 4 (encL EIIII x1.2.2)), (37, .row 113 4 (encL EIIII v2))], 64⟩ ∧ i_withT_j2 x1 x2 v1 v2 v3 v4 = some r) FM (by rw [hN]; kernel_rfl) (by kernel_rfl) ?_ ?_
    · intro K hK
      obtain ⟨x9, hv1, h⟩ := bO_inv h
      rcases br_inv hv1 with ⟨hc2, hv1⟩ | ⟨hc2, hv1⟩
      · cases hv1
        simp only [EV, seval, hc2]
        refine hK _ _ _ (show cutK _ _ _ from cutL ⟨_, _, rfl, h⟩ (Le_can [(32, some 32), (33, some 33), (34, some 34), (35, some 35), (36, some 36), (37, some 37)] [] hρ (by kernel_rfl) ?_ ?_))
        · simp only [AL, EV, seval, hc2]
        · simp only [AL, EV, seval, hc2]
      · cases hv1
        simp only [EV, seval, hc2]
        refine hK _ _ _ (show cutK _ _ _ from cutL ⟨_, _, rfl, h⟩ (Le_can [(32, some 32), (33, some 33), (34, some 34), (35, some 35), (36, some 36), (37, some 37)] [] hρ (by kernel_rfl) ?_ ?_))
        · simp only [AL, EV, seval, hc2]
        · simp only [AL, EV, seval, hc2]
    · rintro S ⟨v3, v4, rfl, h⟩
      unfold i_withT_j2 at h
      refine AW_condK (a := .bool v4) (by simp only [EV, seval]) (brK h (fun hc3 h => ?_) (fun hc3 h => ?_))
      · refine AW_rs (BR := BR) FM (by rw [hN]; kernel_rfl) (by kernel_rfl) ?_
        intro K hK
        obtain ⟨q2, h12, h⟩ := bO_inv h
        obtain ⟨⟨h13a, h13b⟩, h13c⟩ := geti_E EIl h12
        try simp only [EV, seval] at h13c
        simp only [EV, seval, h13a, h13b, h13c]
        refine hK _ _ _ ?_
        clear hK K
        refine AW_le (Le_can (lt := [(2, .ptr 32 0), (3, .ptr 33 0), (7, .ptr 34 0), (8, .int .i64 v3), (9, .int .i64 q2)]) (lr := [(32, .box 72 [.nil, .int .i64 0, .nil]), (33, .box 72 [.own 35 x1.2.1.length, .int .i64 x1.1, .own 36 x1.2.2.length]), (34, .box 31 [.int .i64 v1, .sl (encL EIIII v2) v2.length]), (35, .row 3 1 (encL EI x1.2.1)), (36, .row 113 4 (encL EIIII x1.2.2))]) (b' := 1104) [(32, some 32), (33, some 33), (34, some 34), (35, some 35), (36, some 36)] [37] hρ (by kernel_rfl) ?_ ?_) ?_
        · simp only [AL, EV, seval]
        · simp only [AL, EV, seval]
        refine AW_rs (BR := BR) FM (by rw [hN]; kernel_rfl) (by kernel_rfl) ?_
        intro K hK
        obtain ⟨x10, h14, h⟩ := bO_inv h
        simp only [EV, seval]
        refine rC_p (i_CliffordWord_ok h14) (by simp only [AL, EV, seval]) (le_d rfl) (no_j rfl) ?_
        simp only [EV, seval]
        refine hK _ _ _ ?_
        clear hK K
        refine AW_trunc (BR := (BRx BR [1003200])) [_, _, _] _ [_, _] 2176 4 rfl rfl rfl rfl rfl (e := 3) (sz' := 1) (by kernel_rfl) (by rw [hN]; kernel_rfl) ?_
        intro K hK
        obtain ⟨h15, h⟩ := gd_inv h
        replace h15 := of_decide_eq_true h15
        obtain ⟨l1, h16, h⟩ := bO_inv h
        simp only [EV, seval]
        refine trK_mk (E := 3) (l := x1.2.1) (v := l1) (k := v3) (s := 35) EIl h16 h15 (by simp only [EV, seval]) (by simp only [EV, seval]) (by simp only [EV, seval]) (by simp only [EV, seval]) ?_
        simp only [EV, seval]
        refine hK _ _ _ ?_
        clear hK K
        refine AW_rs (BR := (BRx BR [1003200])) FM (by rw [hN]; kernel_rfl) (by kernel_rfl) ?_
        intro K hK
        obtain ⟨x11, h17, h⟩ := bO_inv h
        simp only [EV, seval]
        refine rC_p (Spec.can (ret2 := .sl (encL EIIII x11) x11.length) (mem2 := []) (i_CosetRepresentative_ok h17) [] [0] (by kernel_rfl) (by simp only [AL, EV, seval]) (by simp only [AL, EV, seval])) (by simp only [AL, EV, seval]) (le_d rfl) (no_j rfl) ?_
        obtain ⟨x12, h18, h⟩ := bO_inv h
        simp only [EV, seval]
        refine rC_p (i_one_ok h18) (by simp only [AL, EV, seval]) (le_d rfl) (no_j rfl) ?_
        obtain ⟨x13, h19, h⟩ := bO_inv h
        simp only [EV, seval]
        refine rC_l (i_wordOf_ok h19) (by simp only [AL, EV, seval]) (by simp only [AL, EF, and_self]) (le_d rfl) (site_1 (by simp only [EV, seval])) ?_
        simp only [EV, seval]
        refine hK _ _ _ ?_
        clear hK K
        refine AW_rs (BR := BR) FM (by rw [hN]; kernel_rfl) (by kernel_rfl) ?_
        intro K hK
        simp only [EV, seval]
        refine hK _ _ _ ?_
        clear hK K
        injection h with h
        subst h
        refine AW_le (Le_can (lt := [(2, .ptr 32 0)]) (lr := [(32, .box 72 [.own 33 l1.length, .int .i64 x13.1, .own 34 x13.2.length]), (33, .row 3 1 (encL EI l1)), (34, .row 113 4 (encL EIIII x13.2))]) (b' := 64) [(32, some 32), (33, some 2176), (34, some 3248)] [] hρ (by kernel_rfl) ?_ ?_) (AW_ret (end_q [33, 34] (.inr rfl) (by kernel_rfl) (by kernel_rfl) ?_))
        · simp only [AL, EV, seval]
        · simp only [AL, EV, seval]
        · simp only [EV, Try.results113, seval]
      · refine AW_skip (show AW _ _ _ _ _ from ?_)
        refine AW_rs (BR := BR) FM (by rw [hN]; kernel_rfl) (by kernel_rfl) ?_
        intro K hK
        obtain ⟨h20, h⟩ := gd_inv h
        replace h20 := of_decide_eq_true h20
        try simp only [EV, seval] at h20
        simp only [EV, seval, h20]
        refine hK _ _ _ ?_
        clear hK K
        refine AW_rs (BR := BR) FM (by rw [hN]; kernel_rfl) (by kernel_rfl) ?_
        intro K hK
        simp only [EV, seval]
        refine hK _ _ _ ?_
        clear hK K
        refine AW_rs (BR := BR) FM (by rw [hN]; kernel_rfl) (by kernel_rfl) ?_
        intro K hK
        simp only [EV, seval]
        refine hK _ _ _ ?_
        clear hK K
        injection h with h
        subst h
        refine AW_le (Le_can (lt := [(2, .ptr 32 0)]) (lr := [(32, .box 72 [.own 33 (x1.2.1 ++ ([x2])).length, .int .i64 v1, .own 34 v2.length]), (33, .row 3 1 (encL EI (x1.2.1 ++ ([x2])))), (34, .row 113 4 (encL EIIII v2))]) (b' := 64) [(32, some 32), (33, some 128), (34, some 37)] [] hρ (by kernel_rfl) ?_ ?_) (AW_ret (end_q [33, 34] (.inr rfl) (by kernel_rfl) (by kernel_rfl) ?_))
        · simp only [AL, EV, seval]
        · simp only [AL, EV, seval]
        · simp only [EV, Try.results113, seval]
/- impl.NormalFormApplyGate -/
def i_NormalFormApplyGate_j1 (a4 : Int) (a5 : Int) (a6 : Int) (a7 : Int) (x1 : Int × List Int × LQ) (v1 : Bool) : Option (Int × List Int × LQ × Bool) :=
  br v1 (some (x1.1, x1.2.1, x1.2.2, false)) (br (a4 == 7) (bO (i_withT x1.2.1 x1.1 x1.2.2) fun x6 => some (x6.1, x6.2.1, x6.2.2, true)) (br (a4 == 8) (bO (i_one 6 0) fun x7 => bO (i_TableauApplyGate x1.1 x1.2.2 x7.1 x7.2.1 x7.2.2.1 x7.2.2.2) fun x8 => bO (i_withT x1.2.1 x8.1 x8.2.1) fun x9 => some (x9.1, x9.2.1, x9.2.2, true)) (bO (i_TableauApplyGate x1.1 x1.2.2 a4 a5 a6 a7) fun x10 => some (x10.1, x1.2.1, x10.2.1, true))))
def i_NormalFormApplyGate (a1 : List Int) (a2 : Int) (a3 : LQ) (a4 : Int) (a5 : Int) (a6 : Int) (a7 : Int) : Option (Int × List Int × LQ × Bool) :=
  bO (i_copyNormalForm a1 a2 a3) fun x1 => bO (i_IsValidNormalForm a1 a2 a3) fun x2 => bO (br (!x2) (some true) (bO (i_IsValidGate a4 a5 a6 a7 1) fun x3 => some (!x3))) fun x4 => i_NormalFormApplyGate_j1 a4 a5 a6 a7 x1 x4
set_option maxHeartbeats 4000000 in
theorem i_NormalFormApplyGate_ok {a1 : List Int} {a2 : Int} {a3 : LQ} {a4 : Int} {a5 : Int} {a6 : Int} {a7 : Int} {r : Int × List Int × LQ × Bool} (h : i_NormalFormApplyGate a1 a2 a3 a4 a5 a6 a7 = some r) :
    Spec Try.prog 60 [.agg [.sl (encL EI a1) a1.length, .int .i64 a2, .sl (encL EIIII a3) a3.length], .agg [.int .i64 a4, .int .i64 a5, .int .i64 a6, .int .i64 a7]] [] (.tup [.agg [.own 0 r.2.1.length, .int .i64 r.1, .own 1 r.2.2.1.length], .bool r.2.2.2]) [.row 3 1 (encL EI r.2.1), .row 113 4 (encL EIIII r.2.2.1)] := by
  unfold i_NormalFormApplyGate at h
  refine spec_of Try.func60 rfl (by kernel_rfl) (by simp only [Try.ntmps60, List.length_cons, List.length_nil, Nat.reduceAdd, Nat.reduceLeDiff]) ?_
  intro C hN hρ
  rw [Try.ntmps60] at hN
  unfold st0
  simp only [tmps0, Nat.zero_add, Nat.reduceAdd]
  refine AW_rs (BR := BR) FM (by rw [hN]; kernel_rfl) (by kernel_rfl) ?_
  intro K hK
  simp only [EV, seval]
  refine hK _ _ _ ?_
  clear hK K
  refine AW_rs (BR := BR) FM (by rw [hN]; kernel_rfl) (by kernel_rfl) ?_
  intro K hK
  obtain ⟨x1, h1, h⟩ := bO_inv h
  simp only [EV, seval]
  refine rC_p (i_copyNormalForm_ok h1) (by simp only [AL, EV, seval]) (le_d rfl) (site_2 (by simp only [EV, seval])) ?_
  simp only [EV, seval]
  refine hK _ _ _ ?_
  clear hK K
  refine AW_seq ?_
  refine AW_rsJ (BR := BR) (fun S => ∃ (v1 : Bool), S = ⟨mkT [(3, .ptr 32 0), (4, .ptr 33 0), (6, .ptr 34 0), (16, .bool v1)], mkR [(32, .box 49 [.int .i64 a4, .int .i64 a5, .int .i64 a6, .int .i64 a7]), (33, .box 72 [.nil, .int .i64 0, .nil]), (34, .box 72 [.own 35 x1.2.1.length, .int .i64 x1.1, .own 36 x1.2.2.length]), (35, .row 3 1 (encL EI x1.2.1)), (36, .row 113 4 (encL EIIII x1.2.2))], 64⟩ ∧ i_NormalFormApplyGate_j1 a4 a5 a6 a7 x1 v1 = some r) FM (by rw [hN]; kernel_rfl) (by kernel_rfl) ?_ ?_
  · intro K hK
    obtain ⟨x2, h2, h⟩ := bO_inv h
    simp only [EV, seval]
    refine rC_p (i_IsValidNormalForm_ok h2) (by simp only [AL, EV, seval]) (le_d rfl) (no_j rfl) ?_
    obtain ⟨x4, hv1, h⟩ := bO_inv h
    rcases br_inv hv1 with ⟨hc1, hv1⟩ | ⟨hc1, hv1⟩
    · cases hv1
      simp only [EV, seval, hc1]
      refine hK _ _ _ (show cutK _ _ _ from cutL ⟨_, rfl, h⟩ (Le_can [(32, some 80), (33, some 96), (34, some 1120), (35, some 1104), (36, some 1105)] [] hρ (by kernel_rfl) ?_ ?_))
      · simp only [AL, EV, seval, hc1]
      · simp only [AL, EV, seval, hc1]
    · obtain ⟨x5, h4, hv1⟩ := bO_inv hv1
      simp only [EV, seval, hc1]
      refine rC_p (i_IsValidGate_ok h4) (by simp only [AL, EV, seval, hc1]) (le_d rfl) (no_j rfl) ?_
      cases hv1
      simp only [EV, seval, hc1]
      refine hK _ _ _ (show cutK _ _ _ from cutL ⟨_, rfl, h⟩ (Le_can [(32, some 80), (33, some 96), (34, some 1120), (35, some 1104), (36, some 1105)] [] hρ (by kernel_rfl) ?_ ?_))
      · simp only [AL, EV, seval, hc1]
      · simp only [AL, EV, seval, hc1]
  · rintro S ⟨v1, rfl, h⟩
    unfold i_NormalFormApplyGate_j1 at h
    refine AW_condK (a := .bool v1) (by simp only [EV, seval]) (brK h (fun hc2 h => ?_) (fun hc2 h => ?_))
    · refine AW_rs (BR := BR) FM (by rw [hN]; kernel_rfl) (by kernel_rfl) ?_
      intro K hK
      simp only [EV, seval]
      refine hK _ _ _ ?_
      clear hK K
      injection h with h
      subst h
      refine AW_le (Le_can (lt := [(4, .ptr 32 0), (5, .bool false)]) (lr := [(32, .box 72 [.own 33 x1.2.1.length, .int .i64 x1.1, .own 34 x1.2.2.length]), (33, .row 3 1 (encL EI x1.2.1)), (34, .row 113 4 (encL EIIII x1.2.2))]) (b' := 64) [(32, some 33), (33, some 35), (34, some 36)] [] hρ (by kernel_rfl) ?_ ?_) (AW_ret (end_q [33, 34] (.inr rfl) (by kernel_rfl) (by kernel_rfl) ?_))
      · simp only [AL, EV, seval]
      · simp only [AL, EV, seval]
      · simp only [EV, Try.results60, seval]
    · refine AW_skip (show AW _ _ _ _ _ from ?_)
      refine AW_seq ?_
      refine AW_rs (BR := BR) FM (by rw [hN]; kernel_rfl) (by kernel_rfl) ?_
      intro K hK
      simp only [EV, seval]
      refine hK _ _ _ ?_
      clear hK K
      refine AW_block ?_
      refine AW_rs (BR := BR) FM (by rw [hN]; kernel_rfl) (by kernel_rfl) ?_
      intro K hK
      simp only [EV, seval]
      refine hK _ _ _ ?_
      clear hK K
      refine AW_condK (a := .bool (a4 == 7)) (by simp only [EV, seval]) (brK h (fun hc3 h => ?_) (fun hc3 h => ?_))
      · refine AW_rs (BR := BR) FM (by rw [hN]; kernel_rfl) (by kernel_rfl) ?_
        intro K hK
        obtain ⟨x6, h5, h⟩ := bO_inv h
        simp only [EV, seval]
        refine rC_l (i_withT_ok h5) (by simp only [AL, EV, seval]) (by simp only [AL, EF, and_self]) (le_d rfl) (site_2 (by simp only [EV, seval])) ?_
        simp only [EV, seval]
        refine hK _ _ _ ?_
        clear hK K
        injection h with h
        subst h
        refine AW_le (Le_can (lt := [(4, .ptr 32 0), (5, .bool true)]) (lr := [(32, .box 72 [.own 33 x6.2.1.length, .int .i64 x6.1, .own 34 x6.2.2.length]), (33, .row 3 1 (encL EI x6.2.1)), (34, .row 113 4 (encL EIIII x6.2.2))]) (b' := 64) [(32, some 33), (33, some 2128), (34, some 2129)] [] hρ (by kernel_rfl) ?_ ?_) (AW_ret (end_q [33, 34] (.inr rfl) (by kernel_rfl) (by kernel_rfl) ?_))
        · simp only [AL, EV, seval]
        · simp only [AL, EV, seval]
        · simp only [EV, Try.results60, seval]
      · refine AW_rs (BR := BR) FM (by rw [hN]; kernel_rfl) (by kernel_rfl) ?_
        intro K hK
        simp only [EV, seval]
        refine hK _ _ _ ?_
        clear hK K
        refine AW_condK (a := .bool (a4 == 8)) (by simp only [EV, seval]) (brK h (fun hc4 h => ?_) (fun hc4 h => ?_))
        · refine AW_rs (BR := BR) FM (by rw [hN]; kernel_rfl) (by kernel_rfl) ?_
          intro K hK
          obtain ⟨x7, h6, h⟩ := bO_inv h
          simp only [EV, seval]
          refine rC_p (i_one_ok h6) (by simp only [AL, EV, seval]) (le_d rfl) (no_j rfl) ?_
          obtain ⟨x8, h7, h⟩ := bO_inv h
          simp only [EV, seval]
          refine rC_l (i_TableauApplyGate_ok h7) (by simp only [AL, EV, seval]) (by simp only [AL, EF, and_self]) (le_d rfl) (site_1 (by simp only [EV, seval])) ?_
          simp only [EV, seval]
          refine hK _ _ _ ?_
          clear hK K
          refine AW_rs (BR := BR) FM (by rw [hN]; kernel_rfl) (by kernel_rfl) ?_
          intro K hK
          obtain ⟨x9, h8, h⟩ := bO_inv h
          simp only [EV, seval]
          refine rC_l (i_withT_ok h8) (by simp only [AL, EV, seval]) (by simp only [AL, EF, and_self]) (le_d rfl) (site_2 (by simp only [EV, seval])) ?_
          simp only [EV, seval]
          refine hK _ _ _ ?_
          clear hK K
          injection h with h
          subst h
          refine AW_le (Le_can (lt := [(4, .ptr 32 0), (5, .bool true)]) (lr := [(32, .box 72 [.own 33 x9.2.1.length, .int .i64 x9.1, .own 34 x9.2.2.length]), (33, .row 3 1 (encL EI x9.2.1)), (34, .row 113 4 (encL EIIII x9.2.2))]) (b' := 64) [(32, some 33), (33, some 4176), (34, some 4177)] [] hρ (by kernel_rfl) ?_ ?_) (AW_ret (end_q [33, 34] (.inr rfl) (by kernel_rfl) (by kernel_rfl) ?_))
          · simp only [AL, EV, seval]
          · simp only [AL, EV, seval]
          · simp only [EV, Try.results60, seval]
        · refine AW_skip (show AW _ _ _ _ _ from ?_)
          refine AW_rs (BR := BR) FM (by rw [hN]; kernel_rfl) (by kernel_rfl) ?_
          intro K hK
          obtain ⟨x10, h9, h⟩ := bO_inv h
          simp only [EV, seval]
          refine rC_l (i_TableauApplyGate_ok h9) (by simp only [AL, EV, seval]) (by simp only [AL, EF, and_self]) (le_d rfl) (site_1 (by simp only [EV, seval])) ?_
          simp only [EV, seval]
          refine hK _ _ _ ?_
          clear hK K
          refine AW_rs (BR := BR) FM (by rw [hN]; kernel_rfl) (by kernel_rfl) ?_
          intro K hK
          simp only [EV, seval]
          refine hK _ _ _ ?_
          clear hK K
          injection h with h
          subst h
          refine AW_le (Le_can (lt := [(4, .ptr 32 0), (5, .bool true)]) (lr := [(32, .box 72 [.own 33 x1.2.1.length, .int .i64 x10.1, .own 34 x10.2.1.length]), (33, .row 3 1 (encL EI x1.2.1)), (34, .row 113 4 (encL EIIII x10.2.1))]) (b' := 64) [(32, some 33), (33, some 35), (34, some 3184)] [] hρ (by kernel_rfl) ?_ ?_) (AW_ret (end_q [33, 34] (.inr rfl) (by kernel_rfl) (by kernel_rfl) ?_))
          · simp only [AL, EV, seval]
          · simp only [AL, EV, seval]
          · simp only [EV, Try.results60, seval]
/- spec.l30Copy -/
def s_l30Copy (a1 : List Int) (a2 : Int) (a3 : LQ) : Option (Int × List Int × LQ) :=
  gd (decide (([] : List Int).length + a1.length ≤ 16777216)) (bO (s_l26Copy a2 a3) fun x1 => some (x1.1, a1, x1.2))
set_option maxHeartbeats 4000000 in
theorem s_l30Copy_ok {a1 : List Int} {a2 : Int} {a3 : LQ} {r : Int × List Int × LQ} (h : s_l30Copy a1 a2 a3 = some r) :
    Spec Try.prog 108 [.agg [.sl (encL EI a1) a1.length, .int .i64 a2, .sl (encL EIIII a3) a3.length]] [] (.agg [.own 0 r.2.1.length, .int .i64 r.1, .own 1 r.2.2.length]) [.row 3 1 (encL EI r.2.1), .row 113 4 (encL EIIII r.2.2)] := by
  unfold s_l30Copy at h
  refine spec_of Try.func108 rfl (by kernel_rfl) (by simp only [Try.ntmps108, List.length_cons, List.length_nil, Nat.reduceAdd, Nat.reduceLeDiff]) ?_
  intro C hN hρ
  rw [Try.ntmps108] at hN
  unfold st0
  simp only [tmps0, Nat.zero_add, Nat.reduceAdd]
  refine AW_rs (BR := BR) FM (by rw [hN]; kernel_rfl) (by kernel_rfl) ?_
  intro K hK
  simp only [EV, seval]
  refine hK _ _ _ ?_
  clear hK K
  refine AW_rsT (BR := BR) [(3, [1088, 1136]), (5, [64])] (by kernel_rfl) FM (by rw [hN]; kernel_rfl) (by kernel_rfl) ?_
  intro K hK
  obtain ⟨h1, h⟩ := gd_inv h
  replace h1 := of_decide_eq_true h1
  try simp only [EV, seval] at h1
  have h2 := encL_len EIl a1
  obtain ⟨x1, h3, h⟩ := bO_inv h
  simp only [AE, AT, TY, EN, seval, h1, h2]
  refine rCT_p _ (s_l26Copy_ok h3) (by simp only [AL, EV, seval, h1, h2]) (le_d rfl) (site_1 (by simp only [EV, seval])) ?_
  simp only [AE, AT, TY, EN, seval, h1, h2]
  refine hK _ _ _ ?_
  clear hK K
  injection h with h
  subst h
  refine AW_le (Le_can (lt := [(2, .ptr 32 0)]) (lr := [(32, .box 72 [.own 33 a1.length, .int .i64 x1.1, .own 34 x1.2.length]), (33, .row 3 1 (encL EI a1)), (34, .row 113 4 (encL EIIII x1.2))]) (b' := 64) [(32, some 80), (33, some 1136), (34, some 1184)] [] hρ (by kernel_rfl) ?_ ?_) (AW_ret (end_q [33, 34] (.inr rfl) (by kernel_rfl) (by kernel_rfl) ?_))
  · simp only [AL, EV, seval, h1, h2]
  · simp only [AL, EV, seval, h1, h2]
  · simp only [EV, Try.results108, seval]
/- spec.l30Behind -/
def s_l30Behind_j1 (v5 : LQ) : Option (Int × LQ) :=
  some (1, v5)
def s_l30Behind_l1 (a2 : LQ) (a3 : Int) (a4 : LQ) : Nat → Int → (LQ) → Option (Int × LQ)
  | 0, _, _ => none
  | n1 + 1, v3, v4 =>
  br (decide (v3 < 2)) (bO (geti a2 v3) fun q3 => bO (s_ConjugateByTableau a3 a4 q3.1 q3.2.1 q3.2.2.1 q3.2.2.2) fun x3 => gd (decide (v4.length + ([(x3.1, x3.2.1, x3.2.2.1, x3.2.2.2.1)]).length ≤ 16777216)) ((s_l30Behind_l1 a2 a3 a4 n1) (IntKind.wrap .i64 (v3 + 1)) (v4 ++ ([(x3.1, x3.2.1, x3.2.2.1, x3.2.2.2.1)])))) (s_l30Behind_j1 v4)
def s_l30Behind (a1 : Int) (a2 : LQ) (a3 : Int) (a4 : LQ) : Option (Int × LQ) :=
  s_l30Behind_l1 a2 a3 a4 FU 0 ([] : LQ)
set_option maxHeartbeats 4000000 in
theorem s_l30Behind_ok {a1 : Int} {a2 : LQ} {a3 : Int} {a4 : LQ} {r : Int × LQ} (h : s_l30Behind a1 a2 a3 a4 = some r) :
    Spec Try.prog 150 [.agg [.int .i64 a1, .sl (encL EIIII a2) a2.length], .agg [.int .i64 a3, .sl (encL EIIII a4) a4.length]] [] (.agg [.int .i64 r.1, .own 0 r.2.length]) [.row 113 4 (encL EIIII r.2)] := by
  unfold s_l30Behind at h
  refine spec_of Try.func150 rfl (by kernel_rfl) (by simp only [Try.ntmps150, List.length_cons, List.length_nil, Nat.reduceAdd, Nat.reduceLeDiff]) ?_
  intro C hN hρ
  rw [Try.ntmps150] at hN
  unfold st0
  simp only [tmps0, Nat.zero_add, Nat.reduceAdd]
  refine AW_rs (BR := BR) FM (by rw [hN]; kernel_rfl) (by kernel_rfl) ?_
  intro K hK
  simp only [EV, seval]
  refine hK _ _ _ ?_
  clear hK K
  refine AW_rs (BR := BR) FM (by rw [hN]; kernel_rfl) (by kernel_rfl) ?_
  intro K hK
  simp only [EV, seval]
  refine hK _ _ _ ?_
  clear hK K
  refine AW_cutK (fun S => ∃ (v5 : LQ), S = ⟨mkT [(4, .ptr 32 0), (5, .ptr 33 0)], mkR [(32, .box 31 [.int .i64 0, .nil]), (33, .box 31 [.int .i64 1, .own 34 v5.length]), (34, .row 113 4 (encL EIIII v5))], 64⟩ ∧ s_l30Behind_j1 v5 = some r) ?_ ?_
  · refine AW_rs (BR := BR) FM (by rw [hN]; kernel_rfl) (by kernel_rfl) ?_
    intro K hK
    simp only [EV, seval]
    refine hK _ _ _ ?_
    clear hK K
    refine AW_block ?_
    refine AW_loopF (fun n S => ∃ (v3 : Int) (v4 : LQ), S = ⟨mkT [(2, .ptr 32 0), (3, .ptr 33 0), (4, .ptr 34 0), (5, .ptr 35 0), (6, .int .i64 v3)], mkR [(32, .box 31 [.int .i64 a1, .sl (encL EIIII a2) a2.length]), (33, .box 31 [.int .i64 a3, .sl (encL EIIII a4) a4.length]), (34, .box 31 [.int .i64 0, .nil]), (35, .box 31 [.int .i64 1, .own 36 v4.length]), (36, .row 113 4 (encL EIIII v4))], 64⟩ ∧ s_l30Behind_l1 a2 a3 a4 n v3 v4 = some r) FU ?_ ?_ ?_
    · refine cutL ⟨_, _, rfl, h⟩ (Le_can [(32, some 64), (33, some 80), (34, some 96), (35, some 1104), (36, none)] [] hρ (by kernel_rfl) ?_ ?_)
      · simp only [AL, EV, seval]
      · simp only [AL, EV, seval]
    · rintro S ⟨_, _, _, h⟩; rw [s_l30Behind_l1] at h; cases h
    · rintro n1 S ⟨v3, v4, rfl, h⟩
      rw [s_l30Behind_l1] at h
      refine AW_seq ?_
      refine AW_rs (BR := BR) FM (by rw [hN]; kernel_rfl) (by kernel_rfl) ?_
      intro K hK
      simp only [EV, seval]
      refine hK _ _ _ ?_
      clear hK K
      refine AW_condK (a := .bool (decide (v3 < 2))) (by simp only [EV, seval]) (brK h (fun hc3 h => ?_) (fun hc3 h => ?_))
      · refine AW_skip (show AW _ _ _ _ _ from ?_)
        refine AW_seq ?_
        refine AW_block ?_
        refine AW_rs (BR := BR) FM (by rw [hN]; kernel_rfl) (by kernel_rfl) ?_
        intro K hK
        obtain ⟨q3, h9, h⟩ := bO_inv h
        obtain ⟨⟨h10a, h10b⟩, h10c⟩ := geti_E EIIIIl h9
        try simp only [EV, seval] at h10c
        obtain ⟨x3, h11, h⟩ := bO_inv h
        simp only [EV, seval, h10a, h10b, h10c]
        refine rC_p (s_ConjugateByTableau_ok h11) (by simp only [AL, EV, seval, h10a, h10b, h10c]) (le_d rfl) (no_j rfl) ?_
        simp only [EV, seval, h10a, h10b, h10c]
        refine hK _ _ _ ?_
        clear hK K
        refine AW_re (BR := BR) FM (by rw [hN]; kernel_rfl) (by kernel_rfl) ?_
        intro K hK
        obtain ⟨h12, h⟩ := gd_inv h
        replace h12 := of_decide_eq_true h12
        try simp only [EV, seval] at h12
        simp only [EV, seval, h12]
        refine hK _ _ _ (show AW _ _ _ _ _ from ?_)
        refine AW_re (BR := BR) FM (by rw [hN]; kernel_rfl) (by kernel_rfl) ?_
        intro K hK
        simp only [EV, seval]
        refine hK _ _ _ (show cutK _ _ _ from cutL ⟨_, _, rfl, h⟩ (Le_can [(32, some 32), (33, some 33), (34, some 34), (35, some 35), (36, some 2176)] [] hρ (by kernel_rfl) ?_ ?_))
        · simp only [AL, EV, seval]
        · simp only [AL, EV, seval]
      · refine AW_exit (show cutK _ _ _ from cutL ⟨_, rfl, h⟩ (Le_can [(32, some 34), (33, some 35), (34, some 36)] [] hρ (by kernel_rfl) ?_ ?_))
        · simp only [AL, EV, seval]
        · simp only [AL, EV, seval]
  · rintro S ⟨v5, rfl, h⟩
    unfold s_l30Behind_j1 at h
    refine AW_rs (BR := BR) FM (by rw [hN]; kernel_rfl) (by kernel_rfl) ?_
    intro K hK
    simp only [EV, seval]
    refine hK _ _ _ ?_
    clear hK K
    injection h with h
    subst h
    refine AW_le (Le_can (lt := [(4, .ptr 32 0)]) (lr := [(32, .box 31 [.int .i64 1, .own 33 v5.length]), (33, .row 113 4 (encL EIIII v5))]) (b' := 64) [(32, some 32), (33, some 34)] [] hρ (by kernel_rfl) ?_ ?_) (AW_ret (end_q [33] (.inr rfl) (by kernel_rfl) (by kernel_rfl) ?_))
    · simp only [AL, EV, seval]
    · simp only [AL, EV, seval]
    · simp only [EV, Try.results150, seval]
/- spec.l30T -/
def s_l30T_j2 (a1 : List Int) (x1 : Int) (v1 : Int) (v2 : LQ) (v3 : Int) (v4 : Bool) : Option (Int × List Int × LQ) :=
  br v4 (bO (geti a1 v3) fun q2 => bO (s_CosetRepresentative q2) fun x9 => bO (s_l14One 5 0) fun x10 => gd (decide (x9.length + ([(x10.1, x10.2.1, x10.2.2.1, x10.2.2.2)]).length ≤ 16777216)) (bO (s_WordTableau (x9 ++ ([(x10.1, x10.2.1, x10.2.2.1, x10.2.2.2)]))) fun x11 => bO (slc a1 0 v3) fun l1 => gd (decide (([] : List Int).length + l1.length ≤ 16777216)) (bO (s_l30Behind x11.1 x11.2.1 v1 v2) fun x12 => some (x12.1, l1, x12.2)))) (gd (decide (([] : List Int).length + a1.length ≤ 16777216)) (gd (decide (a1.length + ([x1]).length ≤ 16777216)) (some (v1, a1 ++ ([x1]), v2))))
def s_l30T_j1 (a1 : List Int) (x1 : Int) (v1 : Int) (v2 : LQ) : Option (Int × List Int × LQ) :=
  bO (br (x1 == 0) (some (decide (0 ≤ (IntKind.wrap .i64 (((a1.length : Int)) - 1))))) (some false)) fun x8 => s_l30T_j2 a1 x1 v1 v2 (IntKind.wrap .i64 (((a1.length : Int)) - 1)) x8
def s_l30T (a1 : List Int) (a2 : Int) (a3 : LQ) : Option (Int × List Int × LQ) :=
  bO (s_CosetIndex a2 a3) fun x1 => bO (s_CosetRepresentative x1) fun x2 => bO (s_l11Inverse x2) fun x3 => bO (s_WordTableau x3) fun x4 => bO (s_l30Behind x4.1 x4.2.1 a2 a3) fun x5 => bO (geti x5.2 1) fun q1 => br (q1.2.2.2 == 2) (bO (s_l14One 5 0) fun x6 => bO (s_TableauApplyGate x5.1 x5.2 x6.1 x6.2.1 x6.2.2.1 x6.2.2.2) fun x7 => s_l30T_j1 a1 x1 x7.1 x7.2.1) (s_l30T_j1 a1 x1 x5.1 x5.2)
set_option maxHeartbeats 4000000 in
theorem s_l30T_ok {a1 : List Int} {a2 : Int} {a3 : LQ} {r : Int × List Int × LQ} (h : s_l30T a1 a2 a3 = some r) :
    Spec Try.prog 110 [.agg [.sl (encL EI a1) a1.length, .int .i64 a2, .sl (encL EIIII a3) a3.length]] [] (.agg [.own 0 r.2.1.length, .int .i64 r.1, .own 1 r.2.2.length]) [.row 3 1 (encL EI r.2.1), .row 113 4 (encL EIIII r.2.2)] := by
  unfold s_l30T at h
  refine spec_of Try.func110 rfl (by kernel_rfl) (by simp only [Try.ntmps110, List.length_cons, List.length_nil, Nat.reduceAdd, Nat.reduceLeDiff]) ?_
  intro C hN hρ
  rw [Try.ntmps110] at hN
  unfold st0
  simp only [tmps0, Nat.zero_add, Nat.reduceAdd]
  refine AW_rs (BR := BR) FM (by rw [hN]; kernel_rfl) (by kernel_rfl) ?_
  intro K hK
  simp only [EV, seval]
  refine hK _ _ _ ?_
  clear hK K
  refine AW_rs (BR := BR) FM (by rw [hN]; kernel_rfl) (by kernel_rfl) ?_
  intro K hK
  obtain ⟨x1, h1, h⟩ := bO_inv h
  simp only [EV, seval]
  refine rC_p (s_CosetIndex_ok h1) (by simp only [AL, EV, seval]) (le_d rfl) (no_j rfl) ?_
  simp only [EV, seval]
  refine hK _ _ _ ?_
  clear hK K
  refine AW_rs (BR := BR) FM (by rw [hN]; kernel_rfl) (by kernel_rfl) ?_
  intro K hK
  obtain ⟨x2, h2, h⟩ := bO_inv h
  simp only [EV, seval]
  refine rC_p (s_CosetRepresentative_ok h2) (by simp only [AL, EV, seval]) (le_d rfl) (site_1 (by simp only [EV, seval])) ?_
  obtain ⟨x3, h3, h⟩ := bO_inv h
  simp only [EV, seval]
  refine rC_l (s_l11Inverse_ok h3) (by simp only [AL, EV, seval]) (by simp only [AL, EF, and_self]) (le_d rfl) (site_1 (by simp only [EV, seval])) ?_
  obtain ⟨x4, h4, h⟩ := bO_inv h
  simp only [EV, seval]
  refine rC_l (s_WordTableau_ok h4) (by simp only [AL, EV, seval]) (by simp only [AL, EF, and_self]) (le_d rfl) (site_1 (by simp only [EV, seval])) ?_
  simp only [EV, seval]
  refine hK _ _ _ ?_
  clear hK K
  refine AW_rs (BR := BR) FM (by rw [hN]; kernel_rfl) (by kernel_rfl) ?_
  intro K hK
  obtain ⟨x5, h5, h⟩ := bO_inv h
  simp only [EV, seval]
  refine rC_l (s_l30Behind_ok h5) (by simp only [AL, EV, seval]) (by simp only [AL, EF, and_self]) (le_d rfl) (site_1 (by simp only [EV, seval])) ?_
  simp only [EV, seval]
  refine hK _ _ _ ?_
  clear hK K
  refine AW_cutK (fun S => ∃ (v1 : Int) (v2 : LQ), S = ⟨mkT [(1, .ptr 32 0), (2, .ptr 33 0), (3, .int .i64 x1), (6, .ptr 34 0)], mkR [(32, .box 72 [.sl (encL EI a1) a1.length, .int .i64 a2, .sl (encL EIIII a3) a3.length]), (33, .box 72 [.nil, .int .i64 0, .nil]), (34, .box 31 [.int .i64 v1, .own 35 v2.length]), (35, .row 113 4 (encL EIIII v2))], 64⟩ ∧ s_l30T_j1 a1 x1 v1 v2 = some r) ?_ ?_
  · refine AW_rs (BR := BR) FM (by rw [hN]; kernel_rfl) (by kernel_rfl) ?_
    intro K hK
    obtain ⟨q1, h6, h⟩ := bO_inv h
    obtain ⟨⟨h7a, h7b⟩, h7c⟩ := geti_E EIIIIl h6
    try simp only [EV, seval] at h7c
    have h8 := geti_F EIIIIl 3 h6
    try simp only [EV, seval] at h8
    simp only [EV, seval, h7a, h7b, h7c, h8]
    refine hK _ _ _ ?_
    clear hK K
    refine AW_condK (a := .bool (q1.2.2.2 == 2)) (by simp only [EV, seval, h7a, h7b, h7c, h8]) (brK h (fun hc1 h => ?_) (fun hc1 h => ?_))
    · refine AW_re (BR := BR) FM (by rw [hN]; kernel_rfl) (by kernel_rfl) ?_
      intro K hK
      obtain ⟨x6, h9, h⟩ := bO_inv h
      simp only [EV, seval]
      refine rC_p (s_l14One_ok h9) (by simp only [AL, EV, seval]) (le_d rfl) (no_j rfl) ?_
      obtain ⟨x7, h10, h⟩ := bO_inv h
      simp only [EV, seval]
      refine rC_l (s_TableauApplyGate_ok h10) (by simp only [AL, EV, seval]) (by simp only [AL, EF, and_self]) (le_d rfl) (site_1 (by simp only [EV, seval])) ?_
      simp only [EV, seval]
      refine hK _ _ _ (show cutK _ _ _ from cutL ⟨_, _, rfl, h⟩ (Le_can [(32, some 64), (33, some 80), (34, some 3200), (35, some 5216)] [] hρ (by kernel_rfl) ?_ ?_))
      · simp only [AL, EV, seval]
      · simp only [AL, EV, seval]
    · refine AW_skip (show cutK _ _ _ from cutL ⟨_, _, rfl, h⟩ (Le_can [(32, some 64), (33, some 80), (34, some 3200), (35, some 3184)] [] hρ (by kernel_rfl) ?_ ?_))
      · simp only [AL, EV, seval, h7a, h7b, h7c, h8]
      · simp only [AL, EV, seval, h7a, h7b, h7c, h8]
  · rintro S ⟨v1, v2, rfl, h⟩
    unfold s_l30T_j1 at h
    refine AW_rs (BR := BR) FM (by rw [hN]; kernel_rfl) (by kernel_rfl) ?_
    intro K hK
    simp only [EV, seval]
    refine hK _ _ _ ?_
    clear hK K
    refine AW_seq ?_
    refine AW_rsJ (BR := BR) (fun S => ∃ (v3 : Int) (v4 : Bool), S = ⟨mkT [(1, .ptr 32 0), (2, .ptr 33 0), (3, .int .i64 x1), (6, .ptr 34 0), (7, .int .i64 v3), (45, .bool v4)], mkR [(32, .box 72 [.sl (encL EI a1) a1.length, .int .i64 a2, .sl (encL EIIII a3) a3.length]), (33, .box 72 [.nil, .int .i64 0, .nil]), (34, .box 31 [.int .i64 v1, .own 35 v2.length]), (35, .row 113 4 (encL EIIII v2))], 64⟩ ∧ s_l30T_j2 a1 x1 v1 v2 v3 v4 = some r) FM (by rw [hN]; kernel_rfl) (by kernel_rfl) ?_ ?_
    · intro K hK
      obtain ⟨x8, hv1, h⟩ := bO_inv h
      rcases br_inv hv1 with ⟨hc2, hv1⟩ | ⟨hc2, hv1⟩
      · cases hv1
        simp only [EV, seval, hc2]
        refine hK _ _ _ (show cutK _ _ _ from cutL ⟨_, _, rfl, h⟩ (Le_can [(32, some 32), (33, some 33), (34, some 34), (35, some 35)] [] hρ (by kernel_rfl) ?_ ?_))
        · simp only [AL, EV, seval, hc2]
        · simp only [AL, EV, seval, hc2]
      · cases hv1
        simp only [EV, seval, hc2]
        refine hK _ _ _ (show cutK _ _ _ from cutL ⟨_, _, rfl, h⟩ (Le_can [(32, some 32), (33, some 33), (34, some 34), (35, some 35)] [] hρ (by kernel_rfl) ?_ ?_))
        · simp only [AL, EV, seval, hc2]
        · simp only [AL, EV, seval, hc2]
    · rintro S ⟨v3, v4, rfl, h⟩
      unfold s_l30T_j2 at h
      refine AW_condK (a := .bool v4) (by simp only [EV, seval]) (brK h (fun hc3 h => ?_) (fun hc3 h => ?_))
      · refine AW_rs (BR := BR) FM (by rw [hN]; kernel_rfl) (by kernel_rfl) ?_
        intro K hK
        obtain ⟨q2, h11, h⟩ := bO_inv h
        obtain ⟨⟨h12a, h12b⟩, h12c⟩ := geti_E EIl h11
        try simp only [EV, seval] at h12c
        obtain ⟨x9, h13, h⟩ := bO_inv h
        simp only [EV, seval, h12a, h12b, h12c]
        refine rC_p (s_CosetRepresentative_ok h13) (by simp only [AL, EV, seval, h12a, h12b, h12c]) (le_d rfl) (site_1 (by simp only [EV, seval])) ?_
        obtain ⟨x10, h14, h⟩ := bO_inv h
        simp only [EV, seval, h12a, h12b, h12c]
        refine rC_p (s_l14One_ok h14) (by simp only [AL, EV, seval, h12a, h12b, h12c]) (le_d rfl) (no_j rfl) ?_
        obtain ⟨h15, h⟩ := gd_inv h
        replace h15 := of_decide_eq_true h15
        try simp only [EV, seval] at h15
        obtain ⟨x11, h16, h⟩ := bO_inv h
        simp only [EV, seval, h12a, h12b, h12c, h15]
        refine rC_l (s_WordTableau_ok h16) (by simp only [AL, EV, seval, h12a, h12b, h12c, h15]) (by simp only [AL, EF, and_self]) (le_d rfl) (site_1 (by simp only [EV, seval])) ?_
        simp only [EV, seval, h12a, h12b, h12c, h15]
        refine hK _ _ _ ?_
        clear hK K
        refine AW_rsT (BR := BR) [(5, [1088, 1168]), (6, [272]), (7, [34])] (by kernel_rfl) FM (by rw [hN]; kernel_rfl) (by kernel_rfl) ?_
        intro K hK
        obtain ⟨l1, h17, h⟩ := bO_inv h
        obtain ⟨⟨h18a, h18b, h18c⟩, h18d, h18e⟩ := slc_E EIl h17
        try simp only [EV, seval] at h18d
        try simp only [EV, seval] at h18e
        try simp only [EV, seval] at h18a
        try simp only [EV, seval] at h18b
        try simp only [EV, seval] at h18c
        obtain ⟨h19, h⟩ := gd_inv h
        replace h19 := of_decide_eq_true h19
        try simp only [EV, seval] at h19
        have h20 := encL_len EIl l1
        obtain ⟨x12, h21, h⟩ := bO_inv h
        simp only [AE, AT, TY, EN, seval, h18a, h18b, h18c, h18d, h18e, h19, h20]
        refine rCT_l _ (s_l30Behind_ok h21) (by simp only [AL, EV, seval, h18a, h18b, h18c, h18d, h18e, h19, h20]) (by simp only [AL, EF, and_self]) (le_d rfl) (site_1 (by simp only [EV, seval])) ?_
        simp only [AE, AT, TY, EN, seval, h18a, h18b, h18c, h18d, h18e, h19, h20]
        refine hK _ _ _ ?_
        clear hK K
        injection h with h
        subst h
        refine AW_le (Le_can (lt := [(2, .ptr 32 0)]) (lr := [(32, .box 72 [.own 33 l1.length, .int .i64 x12.1, .own 34 x12.2.length]), (33, .row 3 1 (encL EI l1)), (34, .row 113 4 (encL EIIII x12.2))]) (b' := 64) [(32, some 33), (33, some 1168), (34, some 1216)] [] hρ (by kernel_rfl) ?_ ?_) (AW_ret (end_q [33, 34] (.inr rfl) (by kernel_rfl) (by kernel_rfl) ?_))
        · simp only [AL, EV, seval, h18a, h18b, h18c, h18d, h18e, h19, h20]
        · simp only [AL, EV, seval, h18a, h18b, h18c, h18d, h18e, h19, h20]
        · simp only [EV, Try.results110, seval]
      · refine AW_skip (show AW _ _ _ _ _ from ?_)
        refine AW_rsT (BR := BR) [(3, [8888888, 64, 112]), (5, [8888888, 144]), (6, [112, 160]), (7, [34])] (by kernel_rfl) FM (by rw [hN]; kernel_rfl) (by kernel_rfl) ?_
        intro K hK
        obtain ⟨h22, h⟩ := gd_inv h
        replace h22 := of_decide_eq_true h22
        try simp only [EV, seval] at h22
        have h23 := encL_len EIl a1
        obtain ⟨h24, h⟩ := gd_inv h
        replace h24 := of_decide_eq_true h24
        try simp only [EV, seval] at h24
        simp only [AE, AT, TY, EN, seval, h22, h23, h24]
        refine hK _ _ _ ?_
        clear hK K
        injection h with h
        subst h
        refine AW_le (Le_can (lt := [(2, .ptr 32 0)]) (lr := [(32, .box 72 [.own 33 (a1 ++ ([x1])).length, .int .i64 v1, .own 34 v2.length]), (33, .row 3 1 (encL EI (a1 ++ ([x1])))), (34, .row 113 4 (encL EIIII v2))]) (b' := 64) [(32, some 33), (33, some 160), (34, some 35)] [] hρ (by kernel_rfl) ?_ ?_) (AW_ret (end_q [33, 34] (.inr rfl) (by kernel_rfl) (by kernel_rfl) ?_))
        · simp only [AL, EV, seval, h22, h23, h24]
        · simp only [AL, EV, seval, h22, h23, h24]
        · simp only [EV, Try.results110, seval]
/- spec.NormalFormApplyGate -/
def s_NormalFormApplyGate_j1 (a1 : List Int) (a2 : Int) (a3 : LQ) (a4 : Int) (a5 : Int) (a6 : Int) (a7 : Int) (x1 : Int × List Int × LQ) (v1 : Bool) : Option (Int × List Int × LQ × Bool) :=
  br v1 (some (x1.1, x1.2.1, x1.2.2, false)) (br (a4 == 7) (bO (s_l30T a1 a2 a3) fun x6 => some (x6.1, x6.2.1, x6.2.2, true)) (br (a4 == 8) (bO (s_l14One 6 0) fun x7 => bO (s_TableauApplyGate a2 a3 x7.1 x7.2.1 x7.2.2.1 x7.2.2.2) fun x8 => bO (s_l30T x1.2.1 x8.1 x8.2.1) fun x9 => some (x9.1, x9.2.1, x9.2.2, true)) (bO (s_TableauApplyGate a2 a3 a4 a5 a6 a7) fun x10 => some (x10.1, x1.2.1, x10.2.1, true))))
def s_NormalFormApplyGate (a1 : List Int) (a2 : Int) (a3 : LQ) (a4 : Int) (a5 : Int) (a6 : Int) (a7 : Int) : Option (Int × List Int × LQ × Bool) :=
  bO (s_l30Copy a1 a2 a3) fun x1 => bO (s_IsValidNormalForm a1 a2 a3) fun x2 => bO (br (!x2) (some true) (bO (s_IsValidGate a4 a5 a6 a7 1) fun x3 => some (!x3))) fun x4 => s_NormalFormApplyGate_j1 a1 a2 a3 a4 a5 a6 a7 x1 x4
set_option maxHeartbeats 4000000 in
theorem s_NormalFormApplyGate_ok {a1 : List Int} {a2 : Int} {a3 : LQ} {a4 : Int} {a5 : Int} {a6 : Int} {a7 : Int} {r : Int × List Int × LQ × Bool} (h : s_NormalFormApplyGate a1 a2 a3 a4 a5 a6 a7 = some r) :
    Spec Try.prog 58 [.agg [.sl (encL EI a1) a1.length, .int .i64 a2, .sl (encL EIIII a3) a3.length], .agg [.int .i64 a4, .int .i64 a5, .int .i64 a6, .int .i64 a7]] [] (.tup [.agg [.own 0 r.2.1.length, .int .i64 r.1, .own 1 r.2.2.1.length], .bool r.2.2.2]) [.row 3 1 (encL EI r.2.1), .row 113 4 (encL EIIII r.2.2.1)] := by
  unfold s_NormalFormApplyGate at h
  refine spec_of Try.func58 rfl (by kernel_rfl) (by simp only [Try.ntmps58, List.length_cons, List.length_nil, Nat.reduceAdd, Nat.reduceLeDiff]) ?_
  intro C hN hρ
  rw [Try.ntmps58] at hN
  unfold st0
  simp only [tmps0, Nat.zero_add, Nat.reduceAdd]
  refine AW_rs (BR := BR) FM (by rw [hN]; kernel_rfl) (by kernel_rfl) ?_
  intro K hK
  simp only [EV, seval]
  refine hK _ _ _ ?_
  clear hK K
  refine AW_rs (BR := BR) FM (by rw [hN]; kernel_rfl) (by kernel_rfl) ?_
  intro K hK
  obtain ⟨x1, h1, h⟩ := bO_inv h
  simp only [EV, seval]
  refine rC_p (s_l30Copy_ok h1) (by simp only [AL, EV, seval]) (le_d rfl) (site_2 (by simp only [EV, seval])) ?_
  simp only [EV, seval]
  refine hK _ _ _ ?_
  clear hK K
  refine AW_seq ?_
  refine AW_rsJ (BR := BR) (fun S => ∃ (v1 : Bool), S = ⟨mkT [(2, .ptr 32 0), (3, .ptr 33 0), (4, .ptr 34 0), (6, .ptr 35 0), (16, .bool v1)], mkR [(32, .box 72 [.sl (encL EI a1) a1.length, .int .i64 a2, .sl (encL EIIII a3) a3.length]), (33, .box 49 [.int .i64 a4, .int .i64 a5, .int .i64 a6, .int .i64 a7]), (34, .box 72 [.nil, .int .i64 0, .nil]), (35, .box 72 [.own 36 x1.2.1.length, .int .i64 x1.1, .own 37 x1.2.2.length]), (36, .row 3 1 (encL EI x1.2.1)), (37, .row 113 4 (encL EIIII x1.2.2))], 64⟩ ∧ s_NormalFormApplyGate_j1 a1 a2 a3 a4 a5 a6 a7 x1 v1 = some r) FM (by rw [hN]; kernel_rfl) (by kernel_rfl) ?_ ?_
  · intro K hK
    obtain ⟨x2, h2, h⟩ := bO_inv h
    simp only [EV, seval]
    refine rC_p (s_IsValidNormalForm_ok h2) (by simp only [AL, EV, seval]) (le_d rfl) (no_j rfl) ?_
    obtain ⟨x4, hv1, h⟩ := bO_inv h
    rcases br_inv hv1 with ⟨hc1, hv1⟩ | ⟨hc1, hv1⟩
    · cases hv1
      simp only [EV, seval, hc1]
      refine hK _ _ _ (show cutK _ _ _ from cutL ⟨_, rfl, h⟩ (Le_can [(32, some 64), (33, some 80), (34, some 96), (35, some 1120), (36, some 1104), (37, some 1105)] [] hρ (by kernel_rfl) ?_ ?_))
      · simp only [AL, EV, seval, hc1]
      · simp only [AL, EV, seval, hc1]
    · obtain ⟨x5, h4, hv1⟩ := bO_inv hv1
      simp only [EV, seval, hc1]
      refine rC_p (s_IsValidGate_ok h4) (by simp only [AL, EV, seval, hc1]) (le_d rfl) (no_j rfl) ?_
      cases hv1
      simp only [EV, seval, hc1]
      refine hK _ _ _ (show cutK _ _ _ from cutL ⟨_, rfl, h⟩ (Le_can [(32, some 64), (33, some 80), (34, some 96), (35, some 1120), (36, some 1104), (37, some 1105)] [] hρ (by kernel_rfl) ?_ ?_))
      · simp only [AL, EV, seval, hc1]
      · simp only [AL, EV, seval, hc1]
  · rintro S ⟨v1, rfl, h⟩
    unfold s_NormalFormApplyGate_j1 at h
    refine AW_condK (a := .bool v1) (by simp only [EV, seval]) (brK h (fun hc2 h => ?_) (fun hc2 h => ?_))
    · refine AW_rs (BR := BR) FM (by rw [hN]; kernel_rfl) (by kernel_rfl) ?_
      intro K hK
      simp only [EV, seval]
      refine hK _ _ _ ?_
      clear hK K
      injection h with h
      subst h
      refine AW_le (Le_can (lt := [(4, .ptr 32 0), (5, .bool false)]) (lr := [(32, .box 72 [.own 33 x1.2.1.length, .int .i64 x1.1, .own 34 x1.2.2.length]), (33, .row 3 1 (encL EI x1.2.1)), (34, .row 113 4 (encL EIIII x1.2.2))]) (b' := 64) [(32, some 34), (33, some 36), (34, some 37)] [] hρ (by kernel_rfl) ?_ ?_) (AW_ret (end_q [33, 34] (.inr rfl) (by kernel_rfl) (by kernel_rfl) ?_))
      · simp only [AL, EV, seval]
      · simp only [AL, EV, seval]
      · simp only [EV, Try.results58, seval]
    · refine AW_skip (show AW _ _ _ _ _ from ?_)
      refine AW_seq ?_
      refine AW_rs (BR := BR) FM (by rw [hN]; kernel_rfl) (by kernel_rfl) ?_
      intro K hK
      simp only [EV, seval]
      refine hK _ _ _ ?_
      clear hK K
      refine AW_block ?_
      refine AW_rs (BR := BR) FM (by rw [hN]; kernel_rfl) (by kernel_rfl) ?_
      intro K hK
      simp only [EV, seval]
      refine hK _ _ _ ?_
      clear hK K
      refine AW_condK (a := .bool (a4 == 7)) (by simp only [EV, seval]) (brK h (fun hc3 h => ?_) (fun hc3 h => ?_))
      · refine AW_rs (BR := BR) FM (by rw [hN]; kernel_rfl) (by kernel_rfl) ?_
        intro K hK
        obtain ⟨x6, h5, h⟩ := bO_inv h
        simp only [EV, seval]
        refine rC_p (s_l30T_ok h5) (by simp only [AL, EV, seval]) (le_d rfl) (site_2 (by simp only [EV, seval])) ?_
        simp only [EV, seval]
        refine hK _ _ _ ?_
        clear hK K
        injection h with h
        subst h
        refine AW_le (Le_can (lt := [(4, .ptr 32 0), (5, .bool true)]) (lr := [(32, .box 72 [.own 33 x6.2.1.length, .int .i64 x6.1, .own 34 x6.2.2.length]), (33, .row 3 1 (encL EI x6.2.1)), (34, .row 113 4 (encL EIIII x6.2.2))]) (b' := 64) [(32, some 34), (33, some 2128), (34, some 2129)] [] hρ (by kernel_rfl) ?_ ?_) (AW_ret (end_q [33, 34] (.inr rfl) (by kernel_rfl) (by kernel_rfl) ?_))
        · simp only [AL, EV, seval]
        · simp only [AL, EV, seval]
        · simp only [EV, Try.results58, seval]
      · refine AW_rs (BR := BR) FM (by rw [hN]; kernel_rfl) (by kernel_rfl) ?_
        intro K hK
        simp only [EV, seval]
        refine hK _ _ _ ?_
        clear hK K
        refine AW_condK (a := .bool (a4 == 8)) (by simp only [EV, seval]) (brK h (fun hc4 h => ?_) (fun hc4 h => ?_))
        · refine AW_rs (BR := BR) FM (by rw [hN]; kernel_rfl) (by kernel_rfl) ?_
          intro K hK
          obtain ⟨x7, h6, h⟩ := bO_inv h
          simp only [EV, seval]
          refine rC_p (s_l14One_ok h6) (by simp only [AL, EV, seval]) (le_d rfl) (no_j rfl) ?_
          obtain ⟨x8, h7, h⟩ := bO_inv h
          simp only [EV, seval]
          refine rC_p (s_TableauApplyGate_ok h7) (by simp only [AL, EV, seval]) (le_d rfl) (site_1 (by simp only [EV, seval])) ?_
          simp only [EV, seval]
          refine hK _ _ _ ?_
          clear hK K
          refine AW_rs (BR := BR) FM (by rw [hN]; kernel_rfl) (by kernel_rfl) ?_
          intro K hK
          obtain ⟨x9, h8, h⟩ := bO_inv h
          simp only [EV, seval]
          refine rC_l (s_l30T_ok h8) (by simp only [AL, EV, seval]) (by simp only [AL, EF, and_self]) (le_d rfl) (site_2 (by simp only [EV, seval])) ?_
          simp only [EV, seval]
          refine hK _ _ _ ?_
          clear hK K
          injection h with h
          subst h
          refine AW_le (Le_can (lt := [(4, .ptr 32 0), (5, .bool true)]) (lr := [(32, .box 72 [.own 33 x9.2.1.length, .int .i64 x9.1, .own 34 x9.2.2.length]), (33, .row 3 1 (encL EI x9.2.1)), (34, .row 113 4 (encL EIIII x9.2.2))]) (b' := 64) [(32, some 34), (33, some 4176), (34, some 4177)] [] hρ (by kernel_rfl) ?_ ?_) (AW_ret (end_q [33, 34] (.inr rfl) (by kernel_rfl) (by kernel_rfl) ?_))
          · simp only [AL, EV, seval]
          · simp only [AL, EV, seval]
          · simp only [EV, Try.results58, seval]
        · refine AW_skip (show AW _ _ _ _ _ from ?_)
          refine AW_rs (BR := BR) FM (by rw [hN]; kernel_rfl) (by kernel_rfl) ?_
          intro K hK
          obtain ⟨x10, h9, h⟩ := bO_inv h
          simp only [EV, seval]
          refine rC_p (s_TableauApplyGate_ok h9) (by simp only [AL, EV, seval]) (le_d rfl) (site_1 (by simp only [EV, seval])) ?_
          simp only [EV, seval]
          refine hK _ _ _ ?_
          clear hK K
          refine AW_rs (BR := BR) FM (by rw [hN]; kernel_rfl) (by kernel_rfl) ?_
          intro K hK
          simp only [EV, seval]
          refine hK _ _ _ ?_
          clear hK K
          injection h with h
          subst h
          refine AW_le (Le_can (lt := [(4, .ptr 32 0), (5, .bool true)]) (lr := [(32, .box 72 [.own 33 x1.2.1.length, .int .i64 x10.1, .own 34 x10.2.1.length]), (33, .row 3 1 (encL EI x1.2.1)), (34, .row 113 4 (encL EIIII x10.2.1))]) (b' := 64) [(32, some 34), (33, some 36), (34, some 3184)] [] hρ (by kernel_rfl) ?_ ?_) (AW_ret (end_q [33, 34] (.inr rfl) (by kernel_rfl) (by kernel_rfl) ?_))
          · simp only [AL, EV, seval]
          · simp only [AL, EV, seval]
          · simp only [EV, Try.results58, seval]
/- impl.IdentityNormalForm -/
def i_IdentityNormalForm : Option (Int × LQ) :=
  bO (i_IdentityTableau 1) fun x1 => some (x1.1, x1.2)
set_option maxHeartbeats 4000000 in
theorem i_IdentityNormalForm_ok {r : Int × LQ} (h : i_IdentityNormalForm = some r) :
    Spec Try.prog 117 [] [] (.agg [.nil, .int .i64 r.1, .own 0 r.2.length]) [.row 113 4 (encL EIIII r.2)] := by
  unfold i_IdentityNormalForm at h
  refine spec_of Try.func117 rfl (by kernel_rfl) (by simp only [Try.ntmps117, List.length_cons, List.length_nil, Nat.reduceAdd, Nat.reduceLeDiff]) ?_
  intro C hN hρ
  rw [Try.ntmps117] at hN
  unfold st0
  simp only [tmps0, Nat.zero_add, Nat.reduceAdd]
  refine AW_rs (BR := BR) FM (by rw [hN]; kernel_rfl) (by kernel_rfl) ?_
  intro K hK
  simp only [EV, seval]
  refine hK _ _ _ ?_
  clear hK K
  refine AW_rs (BR := BR) FM (by rw [hN]; kernel_rfl) (by kernel_rfl) ?_
  intro K hK
  obtain ⟨x1, h1, h⟩ := bO_inv h
  simp only [EV, seval]
  refine rC_p (i_IdentityTableau_ok h1) (by simp only [AL, EV, seval]) (le_d rfl) (site_1 (by simp only [EV, seval])) ?_
  simp only [EV, seval]
  refine hK _ _ _ ?_
  clear hK K
  injection h with h
  subst h
  refine AW_le (Le_can (lt := [(0, .ptr 32 0)]) (lr := [(32, .box 72 [.nil, .int .i64 x1.1, .own 33 x1.2.length]), (33, .row 113 4 (encL EIIII x1.2))]) (b' := 64) [(32, some 64), (33, some 1088)] [] hρ (by kernel_rfl) ?_ ?_) (AW_ret (end_q [33] (.inr rfl) (by kernel_rfl) (by kernel_rfl) ?_))
  · simp only [AL, EV, seval]
  · simp only [AL, EV, seval]
  · simp only [EV, Try.results117, seval]
/- impl.ComputeNormalForm -/
def i_ComputeNormalForm_j1 (v12 : Int) (v13 : List Int) (v14 : LQ) : Option (Int × List Int × LQ × Bool) :=
  some (v12, v13, v14, true)
def i_ComputeNormalForm_l1 (a1 : LQ) : Nat → Int → Int → Int → (List Int) → (LQ) → Option (Int × List Int × LQ × Bool)
  | 0, _, _, _, _, _ => none
  | n1 + 1, v7, v8, v9, v10, v11 =>
  br (decide (v8 < v7)) (bO (geti a1 v8) fun q3 => bO (i_NormalFormApplyGate v10 v9 v11 q3.1 q3.2.1 q3.2.2.1 q3.2.2.2) fun x4 => br (!x4.2.2.2) (some (0, [], [], false)) ((i_ComputeNormalForm_l1 a1 n1) v7 (IntKind.wrap .i64 (v8 + 1)) x4.1 x4.2.1 x4.2.2.1)) (i_ComputeNormalForm_j1 v9 v10 v11)
def i_ComputeNormalForm (a1 : LQ) : Option (Int × List Int × LQ × Bool) :=
  bO (i_IdentityNormalForm) fun x1 => i_ComputeNormalForm_l1 a1 FU ((a1.length : Int)) 0 x1.1 ([] : List Int) x1.2
set_option maxHeartbeats 4000000 in
theorem i_ComputeNormalForm_ok {a1 : LQ} {r : Int × List Int × LQ × Bool} (h : i_ComputeNormalForm a1 = some r) :
    Spec Try.prog 65 [.sl (encL EIIII a1) a1.length] [] (.tup [.agg [.own 0 r.2.1.length, .int .i64 r.1, .own 1 r.2.2.1.length], .bool r.2.2.2]) [.row 3 1 (encL EI r.2.1), .row 113 4 (encL EIIII r.2.2.1)] := by
  unfold i_ComputeNormalForm at h
  refine spec_of Try.func65 rfl (by kernel_rfl) (by simp only [Try.ntmps65, List.length_cons, List.length_nil, Nat.reduceAdd, Nat.reduceLeDiff]) ?_
  intro C hN hρ
  rw [Try.ntmps65] at hN
  unfold st0
  simp only [tmps0, Nat.zero_add, Nat.reduceAdd]
  refine AW_rs (BR := BR) FM (by rw [hN]; kernel_rfl) (by kernel_rfl) ?_
  intro K hK
  simp only [EV, seval]
  refine hK _ _ _ ?_
  clear hK K
  refine AW_rs (BR := BR) FM (by rw [hN]; kernel_rfl) (by kernel_rfl) ?_
  intro K hK
  obtain ⟨x1, h1, h⟩ := bO_inv h
  simp only [EV, seval]
  refine rC_p (i_IdentityNormalForm_ok h1) (by simp only [AL, EV, seval]) (le_d rfl) (site_1 (by simp only [EV, seval])) ?_
  simp only [EV, seval]
  refine hK _ _ _ ?_
  clear hK K
  refine AW_cutK (fun S => ∃ (v12 : Int) (v13 : List Int) (v14 : LQ), S = ⟨mkT [(2, .ptr 32 0), (4, .ptr 33 0)], mkR [(32, .box 72 [.nil, .int .i64 0, .nil]), (33, .box 72 [.own 34 v13.length, .int .i64 v12, .own 35 v14.length]), (34, .row 3 1 (encL EI v13)), (35, .row 113 4 (encL EIIII v14))], 64⟩ ∧ i_ComputeNormalForm_j1 v12 v13 v14 = some r) ?_ ?_
  · refine AW_rs (BR := BR) FM (by rw [hN]; kernel_rfl) (by kernel_rfl) ?_
    intro K hK
    simp only [EV, seval]
    refine hK _ _ _ ?_
    clear hK K
    refine AW_block ?_
    refine AW_loopF (fun n S => ∃ (v7 : Int) (v8 : Int) (v9 : Int) (v10 : List Int) (v11 : LQ), S = ⟨mkT [(2, .ptr 32 0), (4, .ptr 33 0), (10, .sl (encL EIIII a1) a1.length), (11, .int .i64 v7), (12, .int .i64 v8)], mkR [(32, .box 72 [.nil, .int .i64 0, .nil]), (33, .box 72 [.own 34 v10.length, .int .i64 v9, .own 35 v11.length]), (34, .row 3 1 (encL EI v10)), (35, .row 113 4 (encL EIIII v11))], 64⟩ ∧ i_ComputeNormalForm_l1 a1 n v7 v8 v9 v10 v11 = some r) FU ?_ ?_ ?_
    · refine cutL ⟨_, _, _, _, _, rfl, h⟩ (Le_can [(32, some 64), (33, some 1104), (34, none), (35, some 1088)] [] hρ (by kernel_rfl) ?_ ?_)
      · simp only [AL, EV, seval]
      · simp only [AL, EV, seval]
    · rintro S ⟨_, _, _, _, _, _, h⟩; rw [i_ComputeNormalForm_l1] at h; cases h
    · rintro n1 S ⟨v7, v8, v9, v10, v11, rfl, h⟩
      rw [i_ComputeNormalForm_l1] at h
      refine AW_rs (BR := BR) FM (by rw [hN]; kernel_rfl) (by kernel_rfl) ?_
      intro K hK
      simp only [EV, seval]
      refine hK _ _ _ ?_
      clear hK K
      refine AW_seq ?_
      refine AW_condK (a := .bool (decide (v8 < v7))) (by simp only [EV, seval]) (brK h (fun hc5 h => ?_) (fun hc5 h => ?_))
      · refine AW_skip (show AW _ _ _ _ _ from ?_)
        refine AW_seq ?_
        refine AW_block ?_
        refine AW_rs (BR := BR) FM (by rw [hN]; kernel_rfl) (by kernel_rfl) ?_
        intro K hK
        obtain ⟨q3, h8, h⟩ := bO_inv h
        obtain ⟨⟨h9a, h9b⟩, h9c⟩ := geti_E EIIIIl h8
        try simp only [EV, seval] at h9c
        simp only [EV, seval, h9a, h9b, h9c]
        refine hK _ _ _ ?_
        clear hK K
        refine AW_rs (BR := BR) FM (by rw [hN]; kernel_rfl) (by kernel_rfl) ?_
        intro K hK
        obtain ⟨x4, h10, h⟩ := bO_inv h
        simp only [EV, seval]
        refine rC_l (i_NormalFormApplyGate_ok h10) (by simp only [AL, EV, seval]) (by simp only [AL, EF, and_self]) (le_d rfl) (site_2 (by simp only [EV, seval])) ?_
        simp only [EV, seval]
        refine hK _ _ _ ?_
        clear hK K
        refine AW_seq ?_
        refine AW_rs (BR := BR) FM (by rw [hN]; kernel_rfl) (by kernel_rfl) ?_
        intro K hK
        simp only [EV, seval]
        refine hK _ _ _ ?_
        clear hK K
        refine AW_condK (a := .bool (!x4.2.2.2)) (by simp only [EV, seval]) (brK h (fun hc6 h => ?_) (fun hc6 h => ?_))
        · refine AW_rs (BR := BR) FM (by rw [hN]; kernel_rfl) (by kernel_rfl) ?_
          intro K hK
          simp only [EV, seval]
          refine hK _ _ _ ?_
          clear hK K
          injection h with h
          subst h
          refine AW_le (Le_can (lt := [(2, .ptr 32 0), (3, .bool false)]) (lr := [(32, .box 72 [.own 33 0, .int .i64 0, .own 34 0]), (33, .row 3 1 (encL EI ([]))), (34, .row 113 4 (encL EIIII ([])))]) (b' := 64) [(32, some 32), (33, none), (34, none)] [] hρ (by kernel_rfl) ?_ ?_) (AW_ret (end_q [33, 34] (.inr rfl) (by kernel_rfl) (by kernel_rfl) ?_))
          · simp only [AL, EV, seval]
          · simp only [AL, EV, seval]
          · simp only [EV, Try.results65, seval]
        · refine AW_skip (show AW _ _ _ _ _ from ?_)
          refine AW_re (BR := BR) FM (by rw [hN]; kernel_rfl) (by kernel_rfl) ?_
          intro K hK
          simp only [EV, seval]
          refine hK _ _ _ (show AW _ _ _ _ _ from ?_)
          refine AW_re (BR := BR) FM (by rw [hN]; kernel_rfl) (by kernel_rfl) ?_
          intro K hK
          simp only [EV, seval]
          refine hK _ _ _ (show cutK _ _ _ from cutL ⟨_, _, _, _, _, rfl, h⟩ (Le_can [(32, some 32), (33, some 33), (34, some 2144), (35, some 2145)] [] hρ (by kernel_rfl) ?_ ?_))
          · simp only [AL, EV, seval]
          · simp only [AL, EV, seval]
      · refine AW_exit (show cutK _ _ _ from cutL ⟨_, _, _, rfl, h⟩ (Le_can [(32, some 32), (33, some 33), (34, some 34), (35, some 35)] [] hρ (by kernel_rfl) ?_ ?_))
        · simp only [AL, EV, seval]
        · simp only [AL, EV, seval]
  · rintro S ⟨v12, v13, v14, rfl, h⟩
    unfold i_ComputeNormalForm_j1 at h
    refine AW_rs (BR := BR) FM (by rw [hN]; kernel_rfl) (by kernel_rfl) ?_
    intro K hK
    simp only [EV, seval]
    refine hK _ _ _ ?_
    clear hK K
    injection h with h
    subst h
    refine AW_le (Le_can (lt := [(2, .ptr 32 0), (3, .bool true)]) (lr := [(32, .box 72 [.own 33 v13.length, .int .i64 v12, .own 34 v14.length]), (33, .row 3 1 (encL EI v13)), (34, .row 113 4 (encL EIIII v14))]) (b' := 64) [(32, some 32), (33, some 34), (34, some 35)] [] hρ (by kernel_rfl) ?_ ?_) (AW_ret (end_q [33, 34] (.inr rfl) (by kernel_rfl) (by kernel_rfl) ?_))
    · simp only [AL, EV, seval]
    · simp only [AL, EV, seval]
    · simp only [EV, Try.results65, seval]
/- spec.IdentityNormalForm -/
def s_IdentityNormalForm : Option (Int × LQ) :=
  bO (s_IdentityTableau 1) fun x1 => some (x1.1, x1.2)
set_option maxHeartbeats 4000000 in
theorem s_IdentityNormalForm_ok {r : Int × LQ} (h : s_IdentityNormalForm = some r) :
    Spec Try.prog 116 [] [] (.agg [.nil, .int .i64 r.1, .own 0 r.2.length]) [.row 113 4 (encL EIIII r.2)] := by
  unfold s_IdentityNormalForm at h
  refine spec_of Try.func116 rfl (by kernel_rfl) (by simp only [Try.ntmps116, List.length_cons, List.length_nil, Nat.reduceAdd, Nat.reduceLeDiff]) ?_
  intro C hN hρ
  rw [Try.ntmps116] at hN
  unfold st0
  simp only [tmps0, Nat.zero_add, Nat.reduceAdd]
  refine AW_rs (BR := BR) FM (by rw [hN]; kernel_rfl) (by kernel_rfl) ?_
  intro K hK
  simp only [EV, seval]
  refine hK _ _ _ ?_
  clear hK K
  refine AW_rs (BR := BR) FM (by rw [hN]; kernel_rfl) (by kernel_rfl) ?_
  intro K hK
  obtain ⟨x1, h1, h⟩ := bO_inv h
  simp only [EV, seval]
  refine rC_p (s_IdentityTableau_ok h1) (by simp only [AL, EV, seval]) (le_d rfl) (site_1 (by simp only [EV, seval])) ?_
  simp only [EV, seval]
  refine hK _ _ _ ?_
  clear hK K
  injection h with h
  subst h
  refine AW_le (Le_can (lt := [(0, .ptr 32 0)]) (lr := [(32, .box 72 [.nil, .int .i64 x1.1, .own 33 x1.2.length]), (33, .row 113 4 (encL EIIII x1.2))]) (b' := 64) [(32, some 64), (33, some 1088)] [] hρ (by kernel_rfl) ?_ ?_) (AW_ret (end_q [33] (.inr rfl) (by kernel_rfl) (by kernel_rfl) ?_))
  · simp only [AL, EV, seval]
  · simp only [AL, EV, seval]
  · simp only [EV, Try.results116, seval]
/- spec.ComputeNormalForm -/
def s_ComputeNormalForm_j1 (v9 : Int) (v10 : List Int) (v11 : LQ) : Option (Int × List Int × LQ × Bool) :=
  some (v9, v10, v11, true)
def s_ComputeNormalForm_l1 (a1 : LQ) : Nat → Int → Int → (List Int) → (LQ) → Option (Int × List Int × LQ × Bool)
  | 0, _, _, _, _ => none
  | n1 + 1, v5, v6, v7, v8 =>
  br (decide (v5 < ((a1.length : Int)))) (bO (geti a1 v5) fun q3 => bO (s_NormalFormApplyGate v7 v6 v8 q3.1 q3.2.1 q3.2.2.1 q3.2.2.2) fun x4 => br (!x4.2.2.2) (some (0, [], [], false)) ((s_ComputeNormalForm_l1 a1 n1) (IntKind.wrap .i64 (v5 + 1)) x4.1 x4.2.1 x4.2.2.1)) (s_ComputeNormalForm_j1 v6 v7 v8)
def s_ComputeNormalForm (a1 : LQ) : Option (Int × List Int × LQ × Bool) :=
  bO (s_IdentityNormalForm) fun x1 => s_ComputeNormalForm_l1 a1 FU 0 x1.1 ([] : List Int) x1.2
set_option maxHeartbeats 4000000 in
theorem s_ComputeNormalForm_ok {a1 : LQ} {r : Int × List Int × LQ × Bool} (h : s_ComputeNormalForm a1 = some r) :
    Spec Try.prog 63 [.sl (encL EIIII a1) a1.length] [] (.tup [.agg [.own 0 r.2.1.length, .int .i64 r.1, .own 1 r.2.2.1.length], .bool r.2.2.2]) [.row 3 1 (encL EI r.2.1), .row 113 4 (encL EIIII r.2.2.1)] := by
  unfold s_ComputeNormalForm at h
  refine spec_of Try.func63 rfl (by kernel_rfl) (by simp only [Try.ntmps63, List.length_cons, List.length_nil, Nat.reduceAdd, Nat.reduceLeDiff]) ?_
  intro C hN hρ
  rw [Try.ntmps63] at hN
  unfold st0
  simp only [tmps0, Nat.zero_add, Nat.reduceAdd]
  refine AW_rs (BR := BR) FM (by rw [hN]; kernel_rfl) (by kernel_rfl) ?_
  intro K hK
  simp only [EV, seval]
  refine hK _ _ _ ?_
  clear hK K
  refine AW_rs (BR := BR) FM (by rw [hN]; kernel_rfl) (by kernel_rfl) ?_
  intro K hK
  obtain ⟨x1, h1, h⟩ := bO_inv h
  simp only [EV, seval]
  refine rC_p (s_IdentityNormalForm_ok h1) (by simp only [AL, EV, seval]) (le_d rfl) (site_1 (by simp only [EV, seval])) ?_
  simp only [EV, seval]
  refine hK _ _ _ ?_
  clear hK K
  refine AW_cutK (fun S => ∃ (v9 : Int) (v10 : List Int) (v11 : LQ), S = ⟨mkT [(2, .ptr 32 0), (4, .ptr 33 0)], mkR [(32, .box 72 [.nil, .int .i64 0, .nil]), (33, .box 72 [.own 34 v10.length, .int .i64 v9, .own 35 v11.length]), (34, .row 3 1 (encL EI v10)), (35, .row 113 4 (encL EIIII v11))], 64⟩ ∧ s_ComputeNormalForm_j1 v9 v10 v11 = some r) ?_ ?_
  · refine AW_rs (BR := BR) FM (by rw [hN]; kernel_rfl) (by kernel_rfl) ?_
    intro K hK
    simp only [EV, seval]
    refine hK _ _ _ ?_
    clear hK K
    refine AW_block ?_
    refine AW_loopF (fun n S => ∃ (v5 : Int) (v6 : Int) (v7 : List Int) (v8 : LQ), S = ⟨mkT [(0, .sl (encL EIIII a1) a1.length), (2, .ptr 32 0), (4, .ptr 33 0), (5, .int .i64 v5)], mkR [(32, .box 72 [.nil, .int .i64 0, .nil]), (33, .box 72 [.own 34 v7.length, .int .i64 v6, .own 35 v8.length]), (34, .row 3 1 (encL EI v7)), (35, .row 113 4 (encL EIIII v8))], 64⟩ ∧ s_ComputeNormalForm_l1 a1 n v5 v6 v7 v8 = some r) FU ?_ ?_ ?_
    · refine cutL ⟨_, _, _, _, rfl, h⟩ (Le_can [(32, some 64), (33, some 1104), (34, none), (35, some 1088)] [] hρ (by kernel_rfl) ?_ ?_)
      · simp only [AL, EV, seval]
      · simp only [AL, EV, seval]
    · rintro S ⟨_, _, _, _, _, h⟩; rw [s_ComputeNormalForm_l1] at h; cases h
    · rintro n1 S ⟨v5, v6, v7, v8, rfl, h⟩
      rw [s_ComputeNormalForm_l1] at h
      refine AW_seq ?_
      refine AW_rs (BR := BR) FM (by rw [hN]; kernel_rfl) (by kernel_rfl) ?_
      intro K hK
      simp only [EV, seval]
      refine hK _ _ _ ?_
      clear hK K
      refine AW_condK (a := .bool (decide (v5 < ((a1.length : Int))))) (by simp only [EV, seval]) (brK h (fun hc5 h => ?_) (fun hc5 h => ?_))
      · refine AW_skip (show AW _ _ _ _ _ from ?_)
        refine AW_seq ?_
        refine AW_block ?_
        refine AW_rs (BR := BR) FM (by rw [hN]; kernel_rfl) (by kernel_rfl) ?_
        intro K hK
        obtain ⟨q3, h8, h⟩ := bO_inv h
        obtain ⟨⟨h9a, h9b⟩, h9c⟩ := geti_E EIIIIl h8
        try simp only [EV, seval] at h9c
        obtain ⟨x4, h10, h⟩ := bO_inv h
        simp only [EV, seval, h9a, h9b, h9c]
        refine rC_l (s_NormalFormApplyGate_ok h10) (by simp only [AL, EV, seval, h9a, h9b, h9c]) (by simp only [AL, EF, and_self]) (le_d rfl) (site_2 (by simp only [EV, seval])) ?_
        simp only [EV, seval, h9a, h9b, h9c]
        refine hK _ _ _ ?_
        clear hK K
        refine AW_seq ?_
        refine AW_rs (BR := BR) FM (by rw [hN]; kernel_rfl) (by kernel_rfl) ?_
        intro K hK
        simp only [EV, seval]
        refine hK _ _ _ ?_
        clear hK K
        refine AW_condK (a := .bool (!x4.2.2.2)) (by simp only [EV, seval]) (brK h (fun hc6 h => ?_) (fun hc6 h => ?_))
        · refine AW_rs (BR := BR) FM (by rw [hN]; kernel_rfl) (by kernel_rfl) ?_
          intro K hK
          simp only [EV, seval]
          refine hK _ _ _ ?_
          clear hK K
          injection h with h
          subst h
          refine AW_le (Le_can (lt := [(2, .ptr 32 0), (3, .bool false)]) (lr := [(32, .box 72 [.own 33 0, .int .i64 0, .own 34 0]), (33, .row 3 1 (encL EI ([]))), (34, .row 113 4 (encL EIIII ([])))]) (b' := 64) [(32, some 32), (33, none), (34, none)] [] hρ (by kernel_rfl) ?_ ?_) (AW_ret (end_q [33, 34] (.inr rfl) (by kernel_rfl) (by kernel_rfl) ?_))
          · simp only [AL, EV, seval]
          · simp only [AL, EV, seval]
          · simp only [EV, Try.results63, seval]
        · refine AW_skip (show AW _ _ _ _ _ from ?_)
          refine AW_re (BR := BR) FM (by rw [hN]; kernel_rfl) (by kernel_rfl) ?_
          intro K hK
          simp only [EV, seval]
          refine hK _ _ _ (show AW _ _ _ _ _ from ?_)
          refine AW_re (BR := BR) FM (by rw [hN]; kernel_rfl) (by kernel_rfl) ?_
          intro K hK
          simp only [EV, seval]
          refine hK _ _ _ (show cutK _ _ _ from cutL ⟨_, _, _, _, rfl, h⟩ (Le_can [(32, some 32), (33, some 33), (34, some 1168), (35, some 1169)] [] hρ (by kernel_rfl) ?_ ?_))
          · simp only [AL, EV, seval]
          · simp only [AL, EV, seval]
      · refine AW_exit (show cutK _ _ _ from cutL ⟨_, _, _, rfl, h⟩ (Le_can [(32, some 32), (33, some 33), (34, some 34), (35, some 35)] [] hρ (by kernel_rfl) ?_ ?_))
        · simp only [AL, EV, seval]
        · simp only [AL, EV, seval]
  · rintro S ⟨v9, v10, v11, rfl, h⟩
    unfold s_ComputeNormalForm_j1 at h
    refine AW_rs (BR := BR) FM (by rw [hN]; kernel_rfl) (by kernel_rfl) ?_
    intro K hK
    simp only [EV, seval]
    refine hK _ _ _ ?_
    clear hK K
    injection h with h
    subst h
    refine AW_le (Le_can (lt := [(2, .ptr 32 0), (3, .bool true)]) (lr := [(32, .box 72 [.own 33 v10.length, .int .i64 v9, .own 34 v11.length]), (33, .row 3 1 (encL EI v10)), (34, .row 113 4 (encL EIIII v11))]) (b' := 64) [(32, some 32), (33, some 34), (34, some 35)] [] hρ (by kernel_rfl) ?_ ?_) (AW_ret (end_q [33, 34] (.inr rfl) (by kernel_rfl) (by kernel_rfl) ?_))
    · simp only [AL, EV, seval]
    · simp only [AL, EV, seval]
    · simp only [EV, Try.results63, seval]
end Go.Proofs.Ytcclapenpaediaa
