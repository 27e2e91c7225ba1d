/- Models of functions, and that the functions do what the models say; printed by a program. -/
import Derived.Test.YtfpfalknddfejaaGn
import Derived.Test.YtfpfalknddfejaaMb
import Derived.Test.YtfpfalknddfejaaMf
import Derived.Test.YtfpfalknddfejaaMd
import Derived.Test.YtfpfalknddfejaaMg
namespace Go.Proofs.Ytfpfalknddfejaa
open Go.RowKit
set_option maxRecDepth 100000
set_option linter.unusedVariables false
set_option linter.unusedSimpArgs false
set_option linter.defProp false
/- spec.TableauApplyGate -/
def s_TableauApplyGate_j1 (a1 : Int) (v5 : List (Int × Int × Int × Int)) : Option (Int × List (Int × Int × Int × Int) × Bool) :=
  some (a1, v5, true)
def s_TableauApplyGate_l1 (a1 : Int) (a2 : List (Int × Int × Int × Int)) (a3 : Int) (a4 : Int) (a5 : Int) (a6 : Int) : Nat → Int → (List (Int × Int × Int × Int)) → Option (Int × List (Int × Int × Int × Int) × Bool)
  | 0, _, _ => none
  | n1 + 1, v3, v4 =>
  br (decide (v3 < ((a2.length : Int)))) (bO (geti a2 v3) fun q3 => bO (s_ConjugatePauli q3.1 q3.2.1 q3.2.2.1 q3.2.2.2 a3 a4 a5 a6) fun x4 => br (!x4.2.2.2.2) (some (0, [], false)) (gd (decide (v4.length + ([(x4.1, x4.2.1, x4.2.2.1, x4.2.2.2.1)]).length ≤ 16777216)) ((s_TableauApplyGate_l1 a1 a2 a3 a4 a5 a6 n1) (IntKind.wrap .i64 (v3 + 1)) (v4 ++ ([(x4.1, x4.2.1, x4.2.2.1, x4.2.2.2.1)]))))) (s_TableauApplyGate_j1 a1 v4)
def s_TableauApplyGate (a1 : Int) (a2 : List (Int × Int × Int × Int)) (a3 : Int) (a4 : Int) (a5 : Int) (a6 : Int) : Option (Int × List (Int × Int × Int × Int) × Bool) :=
  bO (s_IsValidTableau a1 a2) fun x1 => br (!x1) (some (0, [], false)) (s_TableauApplyGate_l1 a1 a2 a3 a4 a5 a6 FU 0 ([] : List (Int × Int × Int × Int)))
set_option maxHeartbeats 4000000 in
theorem s_TableauApplyGate_ok {a1 : Int} {a2 : List (Int × Int × Int × Int)} {a3 : Int} {a4 : Int} {a5 : Int} {a6 : Int} {r : Int × List (Int × Int × Int × Int) × Bool} (h : s_TableauApplyGate a1 a2 a3 a4 a5 a6 = some r) :
    Spec Try.prog 34 [.agg [.int .i64 a1, .sl (encL EIIII a2) a2.length], .agg [.int .i64 a3, .int .i64 a4, .int .i64 a5, .int .i64 a6]] [] (.tup [.agg [.int .i64 r.1, .own 0 r.2.1.length], .bool r.2.2]) [.row 28 4 (encL EIIII r.2.1)] := by
  unfold s_TableauApplyGate at h
  refine spec_of Try.func34 rfl (by kernel_rfl) (by simp only [Try.ntmps34, List.length_cons, List.length_nil, Nat.reduceAdd, Nat.reduceLeDiff]) ?_
  intro C hN hρ
  rw [Try.ntmps34] at hN
  unfold st0
  simp only [tmps0, Nat.zero_add, Nat.reduceAdd]
  refine AW_rs (BR := BR) FM (by rw [hN]; kernel_rfl) (by kernel_rfl) ?_
  intro K hK
  simp only [AE, TY, EN, seval]
  refine hK _ _ _ ?_
  clear hK K
  refine AW_seq ?_
  refine AW_rs (BR := BR) FM (by rw [hN]; kernel_rfl) (by kernel_rfl) ?_
  intro K hK
  obtain ⟨x1, h1, h⟩ := bO_inv h
  simp only [AE, TY, EN, seval]
  refine rC_p (s_IsValidTableau_ok h1) (by simp only [AL, AE, TY, EN, seval]) (by simp only [List.length_cons, List.length_nil, Nat.zero_add, Nat.reduceAdd, Nat.reduceLeDiff, Nat.zero_le]) (by intro j hj; exact absurd hj (Nat.not_lt_zero _)) ?_
  simp only [AE, TY, EN, seval]
  refine hK _ _ _ ?_
  clear hK K
  refine AW_condK (a := .bool (!x1)) (by simp only [AE, TY, EN, seval]) (brK h (fun hc1 h => ?_) (fun hc1 h => ?_))
  · refine AW_rs (BR := BR) FM (by rw [hN]; kernel_rfl) (by kernel_rfl) ?_
    intro K hK
    simp only [AE, TY, EN, seval]
    refine hK _ _ _ ?_
    clear hK K
    injection h with h
    subst h
    refine AW_le (Le_can (lt := [(4, .ptr 32 0), (5, .bool false)]) (lr := [(32, .box 33 [.int .i64 0, .own 33 0]), (33, .row 28 4 (encL EIIII ([])))]) (b' := 64) [(32, some 96), (33, none)] [] hρ (by kernel_rfl) ?_ ?_) (AW_ret (end_q [33] (.inr rfl) (by kernel_rfl) (by kernel_rfl) ?_))
    · simp only [AL, AE, TY, EN, seval]
    · simp only [AL, AE, TY, EN, seval]
    · simp only [AE, TY, EN, Try.results34, seval]
  · refine AW_skip (show AW _ _ _ _ _ from ?_)
    refine AW_rs (BR := BR) FM (by rw [hN]; kernel_rfl) (by kernel_rfl) ?_
    intro K hK
    simp only [AE, TY, EN, seval]
    refine hK _ _ _ ?_
    clear hK K
    refine AW_cutK (fun S => ∃ (v5 : List (Int × Int × Int × Int)), S = ⟨mkT [(4, .ptr 32 0), (6, .ptr 33 0)], mkR [(32, .box 33 [.int .i64 0, .nil]), (33, .box 33 [.int .i64 a1, .own 34 v5.length]), (34, .row 28 4 (encL EIIII v5))], 64⟩ ∧ s_TableauApplyGate_j1 a1 v5 = some r) ?_ ?_
    · refine AW_rs (BR := BR) FM (by rw [hN]; kernel_rfl) (by kernel_rfl) ?_
      intro K hK
      simp only [AE, TY, EN, seval]
      refine hK _ _ _ ?_
      clear hK K
      refine AW_block ?_
      refine AW_loopF (fun n S => ∃ (v3 : Int) (v4 : List (Int × Int × Int × Int)), S = ⟨mkT [(2, .ptr 32 0), (3, .ptr 33 0), (4, .ptr 34 0), (6, .ptr 35 0), (7, .int .i64 v3)], mkR [(32, .box 33 [.int .i64 a1, .sl (encL EIIII a2) a2.length]), (33, .box 57 [.int .i64 a3, .int .i64 a4, .int .i64 a5, .int .i64 a6]), (34, .box 33 [.int .i64 0, .nil]), (35, .box 33 [.int .i64 a1, .own 36 v4.length]), (36, .row 28 4 (encL EIIII v4))], 64⟩ ∧ s_TableauApplyGate_l1 a1 a2 a3 a4 a5 a6 n v3 v4 = some r) FU ?_ ?_ ?_
      · refine cutL ⟨_, _, rfl, h⟩ (Le_can [(32, some 64), (33, some 80), (34, some 96), (35, some 2160), (36, none)] [] hρ (by kernel_rfl) ?_ ?_)
        · simp only [AL, AE, TY, EN, seval]
        · simp only [AL, AE, TY, EN, seval]
      · rintro S ⟨_, _, _, h⟩; rw [s_TableauApplyGate_l1] at h; cases h
      · rintro n1 S ⟨v3, v4, rfl, h⟩
        rw [s_TableauApplyGate_l1] at h
        refine AW_seq ?_
        refine AW_rs (BR := BR) FM (by rw [hN]; kernel_rfl) (by kernel_rfl) ?_
        intro K hK
        simp only [AE, TY, EN, seval]
        refine hK _ _ _ ?_
        clear hK K
        refine AW_condK (a := .bool (decide (v3 < ((a2.length : Int))))) (by simp only [AE, TY, EN, seval]) (brK h (fun hc6 h => ?_) (fun hc6 h => ?_))
        · refine AW_skip (show AW _ _ _ _ _ from ?_)
          refine AW_seq ?_
          refine AW_block ?_
          refine AW_rs (BR := BR) FM (by rw [hN]; kernel_rfl) (by kernel_rfl) ?_
          intro K hK
          obtain ⟨q3, h10, h⟩ := bO_inv h
          obtain ⟨⟨h11a, h11b⟩, h11c⟩ := geti_E EIIIIl h10
          try simp only [AE, TY, EN, seval] at h11c
          obtain ⟨x4, h12, h⟩ := bO_inv h
          simp only [AE, TY, EN, seval, h11a, h11b, h11c]
          refine rC_p (s_ConjugatePauli_ok h12) (by simp only [AL, AE, TY, EN, seval, h11a, h11b, h11c]) (by simp only [List.length_cons, List.length_nil, Nat.zero_add, Nat.reduceAdd, Nat.reduceLeDiff, Nat.zero_le]) (by intro j hj; exact absurd hj (Nat.not_lt_zero _)) ?_
          simp only [AE, TY, EN, seval, h11a, h11b, h11c]
          refine hK _ _ _ ?_
          clear hK K
          refine AW_seq ?_
          refine AW_rs (BR := BR) FM (by rw [hN]; kernel_rfl) (by kernel_rfl) ?_
          intro K hK
          simp only [AE, TY, EN, seval]
          refine hK _ _ _ ?_
          clear hK K
          refine AW_condK (a := .bool (!x4.2.2.2.2)) (by simp only [AE, TY, EN, seval]) (brK h (fun hc7 h => ?_) (fun hc7 h => ?_))
          · refine AW_rs (BR := BR) FM (by rw [hN]; kernel_rfl) (by kernel_rfl) ?_
            intro K hK
            simp only [AE, TY, EN, seval]
            refine hK _ _ _ ?_
            clear hK K
            injection h with h
            subst h
            refine AW_le (Le_can (lt := [(4, .ptr 32 0), (5, .bool false)]) (lr := [(32, .box 33 [.int .i64 0, .own 33 0]), (33, .row 28 4 (encL EIIII ([])))]) (b' := 64) [(32, some 34), (33, none)] [] hρ (by kernel_rfl) ?_ ?_) (AW_ret (end_q [33] (.inr rfl) (by kernel_rfl) (by kernel_rfl) ?_))
            · simp only [AL, AE, TY, EN, seval]
            · simp only [AL, AE, TY, EN, seval]
            · simp only [AE, TY, EN, Try.results34, seval]
          · refine AW_skip (show AW _ _ _ _ _ from ?_)
            refine AW_re (BR := BR) FM (by rw [hN]; kernel_rfl) (by kernel_rfl) ?_
            intro K hK
            obtain ⟨h13, h⟩ := gd_inv h
            replace h13 := of_decide_eq_true h13
            try simp only [AE, TY, EN, seval] at h13
            simp only [AE, TY, EN, seval, h13]
            refine hK _ _ _ (show AW _ _ _ _ _ from ?_)
            refine AW_re (BR := BR) FM (by rw [hN]; kernel_rfl) (by kernel_rfl) ?_
            intro K hK
            simp only [AE, TY, EN, seval]
            refine hK _ _ _ (show cutK _ _ _ from cutL ⟨_, _, rfl, h⟩ (Le_can [(32, some 32), (33, some 33), (34, some 34), (35, some 35), (36, some 3200)] [] hρ (by kernel_rfl) ?_ ?_))
            · simp only [AL, AE, TY, EN, seval]
            · simp only [AL, AE, TY, EN, seval]
        · refine AW_exit (show cutK _ _ _ from cutL ⟨_, rfl, h⟩ (Le_can [(32, some 34), (33, some 35), (34, some 36)] [] hρ (by kernel_rfl) ?_ ?_))
          · simp only [AL, AE, TY, EN, seval]
          · simp only [AL, AE, TY, EN, seval]
    · rintro S ⟨v5, rfl, h⟩
      unfold s_TableauApplyGate_j1 at h
      refine AW_rs (BR := BR) FM (by rw [hN]; kernel_rfl) (by kernel_rfl) ?_
      intro K hK
      simp only [AE, TY, EN, seval]
      refine hK _ _ _ ?_
      clear hK K
      injection h with h
      subst h
      refine AW_le (Le_can (lt := [(4, .ptr 32 0), (5, .bool true)]) (lr := [(32, .box 33 [.int .i64 a1, .own 33 v5.length]), (33, .row 28 4 (encL EIIII v5))]) (b' := 64) [(32, some 32), (33, some 34)] [] hρ (by kernel_rfl) ?_ ?_) (AW_ret (end_q [33] (.inr rfl) (by kernel_rfl) (by kernel_rfl) ?_))
      · simp only [AL, AE, TY, EN, seval]
      · simp only [AL, AE, TY, EN, seval]
      · simp only [AE, TY, EN, Try.results34, seval]
/- impl.TableauApplyGate -/
def i_TableauApplyGate_j1 (a1 : Int) (v8 : List (Int × Int × Int × Int)) : Option (Int × List (Int × Int × Int × Int) × Bool) :=
  some (a1, v8, true)
def i_TableauApplyGate_l1 (a1 : Int) (a2 : List (Int × Int × Int × Int)) (a3 : Int) (a4 : Int) (a5 : Int) (a6 : Int) : Nat → Int → Int → (List (Int × Int × Int × Int)) → Option (Int × List (Int × Int × Int × Int) × Bool)
  | 0, _, _, _ => none
  | n1 + 1, v5, v6, v7 =>
  br (decide (v6 < v5)) (bO (geti a2 v6) fun q3 => bO (i_ConjugatePauli q3.1 q3.2.1 q3.2.2.1 q3.2.2.2 a3 a4 a5 a6) fun x4 => br (!x4.2.2.2.2) (some (0, [], false)) (gd (decide (v7.length + ([(x4.1, x4.2.1, x4.2.2.1, x4.2.2.2.1)]).length ≤ 16777216)) ((i_TableauApplyGate_l1 a1 a2 a3 a4 a5 a6 n1) v5 (IntKind.wrap .i64 (v6 + 1)) (v7 ++ ([(x4.1, x4.2.1, x4.2.2.1, x4.2.2.2.1)]))))) (i_TableauApplyGate_j1 a1 v7)
def i_TableauApplyGate (a1 : Int) (a2 : List (Int × Int × Int × Int)) (a3 : Int) (a4 : Int) (a5 : Int) (a6 : Int) : Option (Int × List (Int × Int × Int × Int) × Bool) :=
  bO (i_IsValidTableau a1 a2) fun x1 => br (!x1) (some (0, [], false)) (i_TableauApplyGate_l1 a1 a2 a3 a4 a5 a6 FU ((a2.length : Int)) 0 ([] : List (Int × Int × Int × Int)))
set_option maxHeartbeats 4000000 in
theorem i_TableauApplyGate_ok {a1 : Int} {a2 : List (Int × Int × Int × Int)} {a3 : Int} {a4 : Int} {a5 : Int} {a6 : Int} {r : Int × List (Int × Int × Int × Int) × Bool} (h : i_TableauApplyGate a1 a2 a3 a4 a5 a6 = some r) :
    Spec Try.prog 35 [.agg [.int .i64 a1, .sl (encL EIIII a2) a2.length], .agg [.int .i64 a3, .int .i64 a4, .int .i64 a5, .int .i64 a6]] [] (.tup [.agg [.int .i64 r.1, .own 0 r.2.1.length], .bool r.2.2]) [.row 28 4 (encL EIIII r.2.1)] := by
  unfold i_TableauApplyGate at h
  refine spec_of Try.func35 rfl (by kernel_rfl) (by simp only [Try.ntmps35, List.length_cons, List.length_nil, Nat.reduceAdd, Nat.reduceLeDiff]) ?_
  intro C hN hρ
  rw [Try.ntmps35] at hN
  unfold st0
  simp only [tmps0, Nat.zero_add, Nat.reduceAdd]
  refine AW_rs (BR := BR) FM (by rw [hN]; kernel_rfl) (by kernel_rfl) ?_
  intro K hK
  simp only [AE, TY, EN, seval]
  refine hK _ _ _ ?_
  clear hK K
  refine AW_seq ?_
  refine AW_rs (BR := BR) FM (by rw [hN]; kernel_rfl) (by kernel_rfl) ?_
  intro K hK
  obtain ⟨x1, h1, h⟩ := bO_inv h
  simp only [AE, TY, EN, seval]
  refine rC_p (i_IsValidTableau_ok h1) (by simp only [AL, AE, TY, EN, seval]) (by simp only [List.length_cons, List.length_nil, Nat.zero_add, Nat.reduceAdd, Nat.reduceLeDiff, Nat.zero_le]) (by intro j hj; exact absurd hj (Nat.not_lt_zero _)) ?_
  simp only [AE, TY, EN, seval]
  refine hK _ _ _ ?_
  clear hK K
  refine AW_condK (a := .bool (!x1)) (by simp only [AE, TY, EN, seval]) (brK h (fun hc1 h => ?_) (fun hc1 h => ?_))
  · refine AW_rs (BR := BR) FM (by rw [hN]; kernel_rfl) (by kernel_rfl) ?_
    intro K hK
    simp only [AE, TY, EN, seval]
    refine hK _ _ _ ?_
    clear hK K
    injection h with h
    subst h
    refine AW_le (Le_can (lt := [(4, .ptr 32 0), (5, .bool false)]) (lr := [(32, .box 33 [.int .i64 0, .own 33 0]), (33, .row 28 4 (encL EIIII ([])))]) (b' := 64) [(32, some 96), (33, none)] [] hρ (by kernel_rfl) ?_ ?_) (AW_ret (end_q [33] (.inr rfl) (by kernel_rfl) (by kernel_rfl) ?_))
    · simp only [AL, AE, TY, EN, seval]
    · simp only [AL, AE, TY, EN, seval]
    · simp only [AE, TY, EN, Try.results35, seval]
  · refine AW_skip (show AW _ _ _ _ _ from ?_)
    refine AW_rs (BR := BR) FM (by rw [hN]; kernel_rfl) (by kernel_rfl) ?_
    intro K hK
    simp only [AE, TY, EN, seval]
    refine hK _ _ _ ?_
    clear hK K
    refine AW_cutK (fun S => ∃ (v8 : List (Int × Int × Int × Int)), S = ⟨mkT [(4, .ptr 32 0), (6, .ptr 33 0)], mkR [(32, .box 33 [.int .i64 0, .nil]), (33, .box 33 [.int .i64 a1, .own 34 v8.length]), (34, .row 28 4 (encL EIIII v8))], 64⟩ ∧ i_TableauApplyGate_j1 a1 v8 = some r) ?_ ?_
    · refine AW_rs (BR := BR) FM (by rw [hN]; kernel_rfl) (by kernel_rfl) ?_
      intro K hK
      simp only [AE, TY, EN, seval]
      refine hK _ _ _ ?_
      clear hK K
      refine AW_block ?_
      refine AW_loopF (fun n S => ∃ (v5 : Int) (v6 : Int) (v7 : List (Int × Int × Int × Int)), S = ⟨mkT [(3, .ptr 32 0), (4, .ptr 33 0), (6, .ptr 34 0), (19, .sl (encL EIIII a2) a2.length), (20, .int .i64 v5), (21, .int .i64 v6)], mkR [(32, .box 57 [.int .i64 a3, .int .i64 a4, .int .i64 a5, .int .i64 a6]), (33, .box 33 [.int .i64 0, .nil]), (34, .box 33 [.int .i64 a1, .own 35 v7.length]), (35, .row 28 4 (encL EIIII v7))], 64⟩ ∧ i_TableauApplyGate_l1 a1 a2 a3 a4 a5 a6 n v5 v6 v7 = some r) FU ?_ ?_ ?_
      · refine cutL ⟨_, _, _, rfl, h⟩ (Le_can [(32, some 80), (33, some 96), (34, some 2160), (35, none)] [] hρ (by kernel_rfl) ?_ ?_)
        · simp only [AL, AE, TY, EN, seval]
        · simp only [AL, AE, TY, EN, seval]
      · rintro S ⟨_, _, _, _, h⟩; rw [i_TableauApplyGate_l1] at h; cases h
      · rintro n1 S ⟨v5, v6, v7, rfl, h⟩
        rw [i_TableauApplyGate_l1] at h
        refine AW_rs (BR := BR) FM (by rw [hN]; kernel_rfl) (by kernel_rfl) ?_
        intro K hK
        simp only [AE, TY, EN, seval]
        refine hK _ _ _ ?_
        clear hK K
        refine AW_seq ?_
        refine AW_condK (a := .bool (decide (v6 < v5))) (by simp only [AE, TY, EN, seval]) (brK h (fun hc6 h => ?_) (fun hc6 h => ?_))
        · refine AW_skip (show AW _ _ _ _ _ from ?_)
          refine AW_seq ?_
          refine AW_block ?_
          refine AW_rs (BR := BR) FM (by rw [hN]; kernel_rfl) (by kernel_rfl) ?_
          intro K hK
          obtain ⟨q3, h10, h⟩ := bO_inv h
          obtain ⟨⟨h11a, h11b⟩, h11c⟩ := geti_E EIIIIl h10
          try simp only [AE, TY, EN, seval] at h11c
          simp only [AE, TY, EN, seval, h11a, h11b, h11c]
          refine hK _ _ _ ?_
          clear hK K
          refine AW_rs (BR := BR) FM (by rw [hN]; kernel_rfl) (by kernel_rfl) ?_
          intro K hK
          obtain ⟨x4, h12, h⟩ := bO_inv h
          simp only [AE, TY, EN, seval]
          refine rC_p (i_ConjugatePauli_ok h12) (by simp only [AL, AE, TY, EN, seval]) (by simp only [List.length_cons, List.length_nil, Nat.zero_add, Nat.reduceAdd, Nat.reduceLeDiff, Nat.zero_le]) (by intro j hj; exact absurd hj (Nat.not_lt_zero _)) ?_
          simp only [AE, TY, EN, seval]
          refine hK _ _ _ ?_
          clear hK K
          refine AW_seq ?_
          refine AW_rs (BR := BR) FM (by rw [hN]; kernel_rfl) (by kernel_rfl) ?_
          intro K hK
          simp only [AE, TY, EN, seval]
          refine hK _ _ _ ?_
          clear hK K
          refine AW_condK (a := .bool (!x4.2.2.2.2)) (by simp only [AE, TY, EN, seval]) (brK h (fun hc7 h => ?_) (fun hc7 h => ?_))
          · refine AW_rs (BR := BR) FM (by rw [hN]; kernel_rfl) (by kernel_rfl) ?_
            intro K hK
            simp only [AE, TY, EN, seval]
            refine hK _ _ _ ?_
            clear hK K
            injection h with h
            subst h
            refine AW_le (Le_can (lt := [(4, .ptr 32 0), (5, .bool false)]) (lr := [(32, .box 33 [.int .i64 0, .own 33 0]), (33, .row 28 4 (encL EIIII ([])))]) (b' := 64) [(32, some 33), (33, none)] [] hρ (by kernel_rfl) ?_ ?_) (AW_ret (end_q [33] (.inr rfl) (by kernel_rfl) (by kernel_rfl) ?_))
            · simp only [AL, AE, TY, EN, seval]
            · simp only [AL, AE, TY, EN, seval]
            · simp only [AE, TY, EN, Try.results35, seval]
          · refine AW_skip (show AW _ _ _ _ _ from ?_)
            refine AW_re (BR := BR) FM (by rw [hN]; kernel_rfl) (by kernel_rfl) ?_
            intro K hK
            obtain ⟨h13, h⟩ := gd_inv h
            replace h13 := of_decide_eq_true h13
            try simp only [AE, TY, EN, seval] at h13
            simp only [AE, TY, EN, seval, h13]
            refine hK _ _ _ (show AW _ _ _ _ _ from ?_)
            refine AW_re (BR := BR) FM (by rw [hN]; kernel_rfl) (by kernel_rfl) ?_
            intro K hK
            simp only [AE, TY, EN, seval]
            refine hK _ _ _ (show cutK _ _ _ from cutL ⟨_, _, _, rfl, h⟩ (Le_can [(32, some 32), (33, some 33), (34, some 34), (35, some 4224)] [] hρ (by kernel_rfl) ?_ ?_))
            · simp only [AL, AE, TY, EN, seval]
            · simp only [AL, AE, TY, EN, seval]
        · refine AW_exit (show cutK _ _ _ from cutL ⟨_, rfl, h⟩ (Le_can [(32, some 33), (33, some 34), (34, some 35)] [] hρ (by kernel_rfl) ?_ ?_))
          · simp only [AL, AE, TY, EN, seval]
          · simp only [AL, AE, TY, EN, seval]
    · rintro S ⟨v8, rfl, h⟩
      unfold i_TableauApplyGate_j1 at h
      refine AW_rs (BR := BR) FM (by rw [hN]; kernel_rfl) (by kernel_rfl) ?_
      intro K hK
      simp only [AE, TY, EN, seval]
      refine hK _ _ _ ?_
      clear hK K
      injection h with h
      subst h
      refine AW_le (Le_can (lt := [(4, .ptr 32 0), (5, .bool true)]) (lr := [(32, .box 33 [.int .i64 a1, .own 33 v8.length]), (33, .row 28 4 (encL EIIII v8))]) (b' := 64) [(32, some 32), (33, some 34)] [] hρ (by kernel_rfl) ?_ ?_) (AW_ret (end_q [33] (.inr rfl) (by kernel_rfl) (by kernel_rfl) ?_))
      · simp only [AL, AE, TY, EN, seval]
      · simp only [AL, AE, TY, EN, seval]
      · simp only [AE, TY, EN, Try.results35, seval]
/- laws.markPauliS -/
def l_markPauliS_j1 (v7 : List (Int × Int × Int × Int)) (v8 : Int) : Option (Int × List (Int × Int × Int × Int)) :=
  some (v8, v7)
def l_markPauliS_l1 : Nat → (List (Int × Int × Int × Int)) → Int → Int → Option (Int × List (Int × Int × Int × Int))
  | 0, _, _, _ => none
  | n1 + 1, v4, v5, v6 =>
  br (decide (v6 < ((v4.length : Int)))) (bO (geti v4 v6) fun q9 => bO (geti (v4.set (Int.toNat v6) ((v5, q9.2.1, q9.2.2.1, q9.2.2.2))) v6) fun q10 => bO (geti ((v4.set (Int.toNat v6) ((v5, q9.2.1, q9.2.2.1, q9.2.2.2))).set (Int.toNat v6) ((q10.1, IntKind.wrap .i64 (v5 + 1), q10.2.2.1, q10.2.2.2))) v6) fun q11 => bO (geti (((v4.set (Int.toNat v6) ((v5, q9.2.1, q9.2.2.1, q9.2.2.2))).set (Int.toNat v6) ((q10.1, IntKind.wrap .i64 (v5 + 1), q10.2.2.1, q10.2.2.2))).set (Int.toNat v6) ((q11.1, q11.2.1, IntKind.wrap .i64 ((IntKind.wrap .i64 (v5 + 1)) + 1), q11.2.2.2))) v6) fun q12 => (l_markPauliS_l1 n1) ((((v4.set (Int.toNat v6) ((v5, q9.2.1, q9.2.2.1, q9.2.2.2))).set (Int.toNat v6) ((q10.1, IntKind.wrap .i64 (v5 + 1), q10.2.2.1, q10.2.2.2))).set (Int.toNat v6) ((q11.1, q11.2.1, IntKind.wrap .i64 ((IntKind.wrap .i64 (v5 + 1)) + 1), q11.2.2.2))).set (Int.toNat v6) ((q12.1, q12.2.1, q12.2.2.1, IntKind.wrap .i64 ((IntKind.wrap .i64 ((IntKind.wrap .i64 (v5 + 1)) + 1)) + 1)))) (IntKind.wrap .i64 ((IntKind.wrap .i64 ((IntKind.wrap .i64 ((IntKind.wrap .i64 (v5 + 1)) + 1)) + 1)) + 1)) (IntKind.wrap .i64 (v6 + 1))) (l_markPauliS_j1 v4 v5)
def l_markPauliS (a1 : List (Int × Int × Int × Int)) (a2 : Int) : Option (Int × List (Int × Int × Int × Int)) :=
  l_markPauliS_l1 FU a1 a2 0
set_option maxHeartbeats 4000000 in
theorem l_markPauliS_ok {a1 : List (Int × Int × Int × Int)} {a2 : Int} {r : Int × List (Int × Int × Int × Int)} (h : l_markPauliS a1 a2 = some r) :
    Spec Try.prog 85 [.own 0 a1.length, .int .i64 a2] [.row 28 4 (encL EIIII a1)] (.int .i64 r.1) [.row 28 4 (encL EIIII r.2)] := by
  unfold l_markPauliS at h
  refine spec_of Try.func85 rfl (by kernel_rfl) (by simp only [Try.ntmps85, List.length_cons, List.length_nil, Nat.reduceAdd, Nat.reduceLeDiff]) ?_
  intro C hN hρ
  rw [Try.ntmps85] at hN
  unfold st0
  simp only [tmps0, Nat.zero_add, Nat.reduceAdd]
  refine AW_rs (BR := BR) FM (by rw [hN]; kernel_rfl) (by kernel_rfl) ?_
  intro K hK
  simp only [AE, TY, EN, seval]
  refine hK _ _ _ ?_
  clear hK K
  refine AW_cutK (fun S => ∃ (v7 : List (Int × Int × Int × Int)) (v8 : Int), S = ⟨mkT [(1, .int .i64 v8)], mkR [(0, .row 28 4 (encL EIIII v7))], 64⟩ ∧ l_markPauliS_j1 v7 v8 = some r) ?_ ?_
  · refine AW_rs (BR := BR) FM (by rw [hN]; kernel_rfl) (by kernel_rfl) ?_
    intro K hK
    simp only [AE, TY, EN, seval]
    refine hK _ _ _ ?_
    clear hK K
    refine AW_block ?_
    refine AW_loopF (fun n S => ∃ (v4 : List (Int × Int × Int × Int)) (v5 : Int) (v6 : Int), S = ⟨mkT [(0, .own 0 v4.length), (1, .int .i64 v5), (5, .int .i64 v6)], mkR [(0, .row 28 4 (encL EIIII v4))], 64⟩ ∧ l_markPauliS_l1 n v4 v5 v6 = some r) FU ?_ ?_ ?_
    · refine cutL ⟨_, _, _, rfl, h⟩ (Le_can [(0, some 0)] [] hρ (by kernel_rfl) ?_ ?_)
      · simp only [AL, AE, TY, EN, seval]
      · simp only [AL, AE, TY, EN, seval]
    · rintro S ⟨_, _, _, _, h⟩; rw [l_markPauliS_l1] at h; cases h
    · rintro n1 S ⟨v4, v5, v6, rfl, h⟩
      rw [l_markPauliS_l1] at h
      refine AW_seq ?_
      refine AW_rs (BR := BR) FM (by rw [hN]; kernel_rfl) (by kernel_rfl) ?_
      intro K hK
      simp only [AE, TY, EN, seval]
      refine hK _ _ _ ?_
      clear hK K
      refine AW_condK (a := .bool (decide (v6 < ((v4.length : Int))))) (by simp only [AE, TY, EN, seval]) (brK h (fun hc3 h => ?_) (fun hc3 h => ?_))
      · refine AW_skip (show AW _ _ _ _ _ from ?_)
        refine AW_seq ?_
        refine AW_block ?_
        refine AW_rs (BR := BR) FM (by rw [hN]; kernel_rfl) (by kernel_rfl) ?_
        intro K hK
        obtain ⟨q9, h25, h⟩ := bO_inv h
        obtain ⟨⟨h26a, h26b⟩, h26c⟩ := geti_E EIIIIl h25
        try simp only [AE, TY, EN, seval] at h26c
        have h27 := set_E EIIIIl ((v5, q9.2.1, q9.2.2.1, q9.2.2.2)) 0 [.int .i64 v5] h25 (Nat.le_of_ble_eq_true rfl) rfl
        obtain ⟨h27a, h27b⟩ := h27
        try simp only [AE, TY, EN, seval] at h27a
        try simp only [AE, TY, EN, seval] at h27b
        simp only [AE, TY, EN, seval, h26a, h26b, h26c, h27a, h27b]
        refine hK _ _ _ ?_
        clear hK K
        refine AW_rs (BR := BR) FM (by rw [hN]; kernel_rfl) (by kernel_rfl) ?_
        intro K hK
        simp only [AE, TY, EN, seval]
        refine hK _ _ _ ?_
        clear hK K
        refine AW_rs (BR := BR) FM (by rw [hN]; kernel_rfl) (by kernel_rfl) ?_
        intro K hK
        obtain ⟨q10, h28, h⟩ := bO_inv h
        obtain ⟨⟨h29a, h29b⟩, h29c⟩ := geti_E EIIIIl h28
        try simp only [AE, TY, EN, seval] at h29c
        try simp only [AE, TY, EN, seval] at h29b
        have h30 := set_E EIIIIl ((q10.1, IntKind.wrap .i64 (v5 + 1), q10.2.2.1, q10.2.2.2)) 1 [.int .i64 (IntKind.wrap .i64 (v5 + 1))] h28 (Nat.le_of_ble_eq_true rfl) rfl
        obtain ⟨h30a, h30b⟩ := h30
        try simp only [AE, TY, EN, seval] at h30a
        try simp only [AE, TY, EN, seval] at h30b
        simp only [AE, TY, EN, seval, h29a, h29b, h29c, h30a, h30b]
        refine hK _ _ _ ?_
        clear hK K
        refine AW_rs (BR := BR) FM (by rw [hN]; kernel_rfl) (by kernel_rfl) ?_
        intro K hK
        simp only [AE, TY, EN, seval]
        refine hK _ _ _ ?_
        clear hK K
        refine AW_rs (BR := BR) FM (by rw [hN]; kernel_rfl) (by kernel_rfl) ?_
        intro K hK
        obtain ⟨q11, h31, h⟩ := bO_inv h
        obtain ⟨⟨h32a, h32b⟩, h32c⟩ := geti_E EIIIIl h31
        try simp only [AE, TY, EN, seval] at h32c
        try simp only [AE, TY, EN, seval] at h32b
        have h33 := set_E EIIIIl ((q11.1, q11.2.1, IntKind.wrap .i64 ((IntKind.wrap .i64 (v5 + 1)) + 1), q11.2.2.2)) 2 [.int .i64 (IntKind.wrap .i64 ((IntKind.wrap .i64 (v5 + 1)) + 1))] h31 (Nat.le_of_ble_eq_true rfl) rfl
        obtain ⟨h33a, h33b⟩ := h33
        try simp only [AE, TY, EN, seval] at h33a
        try simp only [AE, TY, EN, seval] at h33b
        simp only [AE, TY, EN, seval, h32a, h32b, h32c, h33a, h33b]
        refine hK _ _ _ ?_
        clear hK K
        refine AW_rs (BR := BR) FM (by rw [hN]; kernel_rfl) (by kernel_rfl) ?_
        intro K hK
        simp only [AE, TY, EN, seval]
        refine hK _ _ _ ?_
        clear hK K
        refine AW_rs (BR := BR) FM (by rw [hN]; kernel_rfl) (by kernel_rfl) ?_
        intro K hK
        obtain ⟨q12, h34, h⟩ := bO_inv h
        obtain ⟨⟨h35a, h35b⟩, h35c⟩ := geti_E EIIIIl h34
        try simp only [AE, TY, EN, seval] at h35c
        try simp only [AE, TY, EN, seval] at h35b
        have h36 := set_E EIIIIl ((q12.1, q12.2.1, q12.2.2.1, IntKind.wrap .i64 ((IntKind.wrap .i64 ((IntKind.wrap .i64 (v5 + 1)) + 1)) + 1))) 3 [.int .i64 (IntKind.wrap .i64 ((IntKind.wrap .i64 ((IntKind.wrap .i64 (v5 + 1)) + 1)) + 1))] h34 (Nat.le_of_ble_eq_true rfl) rfl
        obtain ⟨h36a, h36b⟩ := h36
        try simp only [AE, TY, EN, seval] at h36a
        try simp only [AE, TY, EN, seval] at h36b
        simp only [AE, TY, EN, seval, h35a, h35b, h35c, h36a, h36b]
        refine hK _ _ _ ?_
        clear hK K
        refine AW_re (BR := BR) FM (by rw [hN]; kernel_rfl) (by kernel_rfl) ?_
        intro K hK
        simp only [AE, TY, EN, seval]
        refine hK _ _ _ (show AW _ _ _ _ _ from ?_)
        refine AW_re (BR := BR) FM (by rw [hN]; kernel_rfl) (by kernel_rfl) ?_
        intro K hK
        simp only [AE, TY, EN, seval]
        refine hK _ _ _ (show cutK _ _ _ from cutL ⟨_, _, _, rfl, h⟩ (Le_can [(0, some 0)] [] hρ (by kernel_rfl) ?_ ?_))
        · simp only [AL, AE, TY, EN, seval]
        · simp only [AL, AE, TY, EN, seval]
      · refine AW_exit (show cutK _ _ _ from cutL ⟨_, _, rfl, h⟩ (Le_can [(0, some 0)] [] hρ (by kernel_rfl) ?_ ?_))
        · simp only [AL, AE, TY, EN, seval]
        · simp only [AL, AE, TY, EN, seval]
  · rintro S ⟨v7, v8, rfl, h⟩
    unfold l_markPauliS_j1 at h
    refine AW_rs (BR := BR) FM (by rw [hN]; kernel_rfl) (by kernel_rfl) ?_
    intro K hK
    simp only [AE, TY, EN, seval]
    refine hK _ _ _ ?_
    clear hK K
    injection h with h
    subst h
    refine AW_le (Le_can (lt := [(4, .int .i64 v8)]) (lr := [(0, .row 28 4 (encL EIIII v7))]) (b' := 64) [(0, some 0)] [] hρ (by kernel_rfl) ?_ ?_) (AW_ret (end_q [0] (.inr rfl) (by kernel_rfl) (by kernel_rfl) ?_))
    · simp only [AL, AE, TY, EN, seval]
    · simp only [AL, AE, TY, EN, seval]
    · simp only [AE, TY, EN, Try.results85, seval]
/- laws.markTableau -/
def l_markTableau (a1 : Int) (a2 : List (Int × Int × Int × Int)) (a3 : Int) : Option (Int × List (Int × Int × Int × Int)) :=
  bO (l_markPauliS a2 a3) fun x1 => gd (decide (x1.2.length = a2.length)) (some (x1.1, x1.2))
set_option maxHeartbeats 4000000 in
theorem l_markTableau_ok {a1 : Int} {a2 : List (Int × Int × Int × Int)} {a3 : Int} {r : Int × List (Int × Int × Int × Int)} (h : l_markTableau a1 a2 a3 = some r) :
    Spec Try.prog 36 [.agg [.int .i64 a1, .own 0 a2.length], .int .i64 a3] [.row 28 4 (encL EIIII a2)] (.int .i64 r.1) [.row 28 4 (encL EIIII r.2)] := by
  unfold l_markTableau at h
  refine spec_of Try.func36 rfl (by kernel_rfl) (by simp only [Try.ntmps36, List.length_cons, List.length_nil, Nat.reduceAdd, Nat.reduceLeDiff]) ?_
  intro C hN hρ
  rw [Try.ntmps36] at hN
  unfold st0
  simp only [tmps0, Nat.zero_add, Nat.reduceAdd]
  refine AW_rs (BR := BR) FM (by rw [hN]; kernel_rfl) (by kernel_rfl) ?_
  intro K hK
  simp only [AE, TY, EN, seval]
  refine hK _ _ _ ?_
  clear hK K
  refine AW_rs (BR := BR) FM (by rw [hN]; kernel_rfl) (by kernel_rfl) ?_
  intro K hK
  obtain ⟨x1, h1, h⟩ := bO_inv h
  simp only [AE, TY, EN, seval]
  obtain ⟨h2, h⟩ := gd_inv h
  replace h2 := of_decide_eq_true h2
  refine rR_p [0] (l_markPauliS_ok h1) (by simp only [AL, AE, TY, EN, seval, h2]) (by simp only [AL, AE, TY, EN, seval, h2]) (by kernel_rfl) (by simp only [AE, TY, EN, solidO, List.mem_cons, List.not_mem_nil, or_false, forall_eq_or_imp, forall_eq, seval]) (by simp only [List.length_cons, List.length_nil, Nat.zero_add, Nat.reduceAdd, Nat.reduceLeDiff, Nat.le_refl]) (by simp only [List.length_cons, List.length_nil, Nat.zero_add, Nat.reduceAdd, Nat.reduceSub, Nat.reduceLeDiff, Nat.sub_self, Nat.zero_le]) (by intro j hj; exact absurd hj (Nat.not_lt_zero _)) ?_
  simp only [AE, TY, EN, seval, h2]
  refine hK _ _ _ ?_
  clear hK K
  refine AW_rs (BR := BR) FM (by rw [hN]; kernel_rfl) (by kernel_rfl) ?_
  intro K hK
  simp only [AE, TY, EN, seval, h2]
  refine hK _ _ _ ?_
  clear hK K
  injection h with h
  subst h
  refine AW_le (Le_can (lt := [(4, .int .i64 x1.1)]) (lr := [(0, .row 28 4 (encL EIIII x1.2))]) (b' := 64) [(0, some 0)] [] hρ (by kernel_rfl) ?_ ?_) (AW_ret (end_q [0] (.inr rfl) (by kernel_rfl) (by kernel_rfl) ?_))
  · simp only [AL, AE, TY, EN, seval, h2]
  · simp only [AL, AE, TY, EN, seval, h2]
  · simp only [AE, TY, EN, Try.results36, seval]
/- laws.heldPauliS -/
def l_heldPauliS_j1 (v5 : Int) : Option Int :=
  some v5
def l_heldPauliS_l1 (a1 : List (Int × Int × Int × Int)) : Nat → Int → Int → Option Int
  | 0, _, _ => none
  | n1 + 1, v3, v4 =>
  br (decide (v4 < ((a1.length : Int)))) (bO (geti a1 v4) fun q3 => br (q3.1 != v3) (some (-1)) (br (q3.2.1 != (IntKind.wrap .i64 (v3 + 1))) (some (-1)) (br (q3.2.2.1 != (IntKind.wrap .i64 ((IntKind.wrap .i64 (v3 + 1)) + 1))) (some (-1)) (br (q3.2.2.2 != (IntKind.wrap .i64 ((IntKind.wrap .i64 ((IntKind.wrap .i64 (v3 + 1)) + 1)) + 1))) (some (-1)) ((l_heldPauliS_l1 a1 n1) (IntKind.wrap .i64 ((IntKind.wrap .i64 ((IntKind.wrap .i64 ((IntKind.wrap .i64 (v3 + 1)) + 1)) + 1)) + 1)) (IntKind.wrap .i64 (v4 + 1))))))) (l_heldPauliS_j1 v3)
def l_heldPauliS (a1 : List (Int × Int × Int × Int)) (a2 : Int) : Option Int :=
  l_heldPauliS_l1 a1 FU a2 0
set_option maxHeartbeats 4000000 in
theorem l_heldPauliS_ok {a1 : List (Int × Int × Int × Int)} {a2 : Int} {r : Int} (h : l_heldPauliS a1 a2 = some r) :
    Spec Try.prog 86 [.sl (encL EIIII a1) a1.length, .int .i64 a2] [] (.int .i64 r) [] := by
  unfold l_heldPauliS at h
  refine spec_of Try.func86 rfl (by kernel_rfl) (by simp only [Try.ntmps86, List.length_cons, List.length_nil, Nat.reduceAdd, Nat.reduceLeDiff]) ?_
  intro C hN hρ
  rw [Try.ntmps86] at hN
  unfold st0
  simp only [tmps0, Nat.zero_add, Nat.reduceAdd]
  refine AW_rs (BR := BR) FM (by rw [hN]; kernel_rfl) (by kernel_rfl) ?_
  intro K hK
  simp only [AE, TY, EN, seval]
  refine hK _ _ _ ?_
  clear hK K
  refine AW_cutK (fun S => ∃ (v5 : Int), S = ⟨mkT [(1, .int .i64 v5)], mkR [], 64⟩ ∧ l_heldPauliS_j1 v5 = some r) ?_ ?_
  · refine AW_rs (BR := BR) FM (by rw [hN]; kernel_rfl) (by kernel_rfl) ?_
    intro K hK
    simp only [AE, TY, EN, seval]
    refine hK _ _ _ ?_
    clear hK K
    refine AW_block ?_
    refine AW_loopF (fun n S => ∃ (v3 : Int) (v4 : Int), S = ⟨mkT [(0, .sl (encL EIIII a1) a1.length), (1, .int .i64 v3), (5, .int .i64 v4)], mkR [], 64⟩ ∧ l_heldPauliS_l1 a1 n v3 v4 = some r) FU ?_ ?_ ?_
    · refine cutL ⟨_, _, rfl, h⟩ (Le_can [] [] hρ (by kernel_rfl) ?_ ?_)
      · simp only [AL, AE, TY, EN, seval]
      · simp only [AL, AE, TY, EN, seval]
    · rintro S ⟨_, _, _, h⟩; rw [l_heldPauliS_l1] at h; cases h
    · rintro n1 S ⟨v3, v4, rfl, h⟩
      rw [l_heldPauliS_l1] at h
      refine AW_seq ?_
      refine AW_rs (BR := BR) FM (by rw [hN]; kernel_rfl) (by kernel_rfl) ?_
      intro K hK
      simp only [AE, TY, EN, seval]
      refine hK _ _ _ ?_
      clear hK K
      refine AW_condK (a := .bool (decide (v4 < ((a1.length : Int))))) (by simp only [AE, TY, EN, seval]) (brK h (fun hc11 h => ?_) (fun hc11 h => ?_))
      · refine AW_skip (show AW _ _ _ _ _ from ?_)
        refine AW_seq ?_
        refine AW_block ?_
        refine AW_seq ?_
        refine AW_rs (BR := BR) FM (by rw [hN]; kernel_rfl) (by kernel_rfl) ?_
        intro K hK
        obtain ⟨q3, h5, h⟩ := bO_inv h
        obtain ⟨⟨h6a, h6b⟩, h6c⟩ := geti_E EIIIIl h5
        try simp only [AE, TY, EN, seval] at h6c
        simp only [AE, TY, EN, seval, h6a, h6b, h6c]
        refine hK _ _ _ ?_
        clear hK K
        refine AW_condK (a := .bool (q3.1 != v3)) (by simp only [AE, TY, EN, seval, h6a, h6b, h6c]) (brK h (fun hc12 h => ?_) (fun hc12 h => ?_))
        · refine AW_rs (BR := BR) FM (by rw [hN]; kernel_rfl) (by kernel_rfl) ?_
          intro K hK
          simp only [AE, TY, EN, seval]
          refine hK _ _ _ ?_
          clear hK K
          injection h with h
          subst h
          refine AW_le (Le_can (lt := [(4, .int .i64 (-1))]) (lr := []) (b' := 64) [] [] hρ (by kernel_rfl) ?_ ?_) (AW_ret (end_q [] (.inr rfl) (by kernel_rfl) (by kernel_rfl) ?_))
          · simp only [AL, AE, TY, EN, seval]
          · simp only [AL, AE, TY, EN, seval]
          · simp only [AE, TY, EN, Try.results86, seval]
        · refine AW_skip (show AW _ _ _ _ _ from ?_)
          refine AW_rs (BR := BR) FM (by rw [hN]; kernel_rfl) (by kernel_rfl) ?_
          intro K hK
          simp only [AE, TY, EN, seval]
          refine hK _ _ _ ?_
          clear hK K
          refine AW_seq ?_
          refine AW_rs (BR := BR) FM (by rw [hN]; kernel_rfl) (by kernel_rfl) ?_
          intro K hK
          simp only [AE, TY, EN, seval, h6a, h6b, h6c]
          refine hK _ _ _ ?_
          clear hK K
          refine AW_condK (a := .bool (q3.2.1 != (IntKind.wrap .i64 (v3 + 1)))) (by simp only [AE, TY, EN, seval, h6a, h6b, h6c]) (brK h (fun hc13 h => ?_) (fun hc13 h => ?_))
          · refine AW_rs (BR := BR) FM (by rw [hN]; kernel_rfl) (by kernel_rfl) ?_
            intro K hK
            simp only [AE, TY, EN, seval]
            refine hK _ _ _ ?_
            clear hK K
            injection h with h
            subst h
            refine AW_le (Le_can (lt := [(4, .int .i64 (-1))]) (lr := []) (b' := 64) [] [] hρ (by kernel_rfl) ?_ ?_) (AW_ret (end_q [] (.inr rfl) (by kernel_rfl) (by kernel_rfl) ?_))
            · simp only [AL, AE, TY, EN, seval]
            · simp only [AL, AE, TY, EN, seval]
            · simp only [AE, TY, EN, Try.results86, seval]
          · refine AW_skip (show AW _ _ _ _ _ from ?_)
            refine AW_rs (BR := BR) FM (by rw [hN]; kernel_rfl) (by kernel_rfl) ?_
            intro K hK
            simp only [AE, TY, EN, seval]
            refine hK _ _ _ ?_
            clear hK K
            refine AW_seq ?_
            refine AW_rs (BR := BR) FM (by rw [hN]; kernel_rfl) (by kernel_rfl) ?_
            intro K hK
            simp only [AE, TY, EN, seval, h6a, h6b, h6c]
            refine hK _ _ _ ?_
            clear hK K
            refine AW_condK (a := .bool (q3.2.2.1 != (IntKind.wrap .i64 ((IntKind.wrap .i64 (v3 + 1)) + 1)))) (by simp only [AE, TY, EN, seval, h6a, h6b, h6c]) (brK h (fun hc14 h => ?_) (fun hc14 h => ?_))
            · refine AW_rs (BR := BR) FM (by rw [hN]; kernel_rfl) (by kernel_rfl) ?_
              intro K hK
              simp only [AE, TY, EN, seval]
              refine hK _ _ _ ?_
              clear hK K
              injection h with h
              subst h
              refine AW_le (Le_can (lt := [(4, .int .i64 (-1))]) (lr := []) (b' := 64) [] [] hρ (by kernel_rfl) ?_ ?_) (AW_ret (end_q [] (.inr rfl) (by kernel_rfl) (by kernel_rfl) ?_))
              · simp only [AL, AE, TY, EN, seval]
              · simp only [AL, AE, TY, EN, seval]
              · simp only [AE, TY, EN, Try.results86, seval]
            · refine AW_skip (show AW _ _ _ _ _ from ?_)
              refine AW_rs (BR := BR) FM (by rw [hN]; kernel_rfl) (by kernel_rfl) ?_
              intro K hK
              simp only [AE, TY, EN, seval]
              refine hK _ _ _ ?_
              clear hK K
              refine AW_seq ?_
              refine AW_rs (BR := BR) FM (by rw [hN]; kernel_rfl) (by kernel_rfl) ?_
              intro K hK
              simp only [AE, TY, EN, seval, h6a, h6b, h6c]
              refine hK _ _ _ ?_
              clear hK K
              refine AW_condK (a := .bool (q3.2.2.2 != (IntKind.wrap .i64 ((IntKind.wrap .i64 ((IntKind.wrap .i64 (v3 + 1)) + 1)) + 1)))) (by simp only [AE, TY, EN, seval, h6a, h6b, h6c]) (brK h (fun hc15 h => ?_) (fun hc15 h => ?_))
              · refine AW_rs (BR := BR) FM (by rw [hN]; kernel_rfl) (by kernel_rfl) ?_
                intro K hK
                simp only [AE, TY, EN, seval]
                refine hK _ _ _ ?_
                clear hK K
                injection h with h
                subst h
                refine AW_le (Le_can (lt := [(4, .int .i64 (-1))]) (lr := []) (b' := 64) [] [] hρ (by kernel_rfl) ?_ ?_) (AW_ret (end_q [] (.inr rfl) (by kernel_rfl) (by kernel_rfl) ?_))
                · simp only [AL, AE, TY, EN, seval]
                · simp only [AL, AE, TY, EN, seval]
                · simp only [AE, TY, EN, Try.results86, seval]
              · refine AW_skip (show AW _ _ _ _ _ from ?_)
                refine AW_re (BR := BR) FM (by rw [hN]; kernel_rfl) (by kernel_rfl) ?_
                intro K hK
                simp only [AE, TY, EN, seval]
                refine hK _ _ _ (show AW _ _ _ _ _ from ?_)
                refine AW_re (BR := BR) FM (by rw [hN]; kernel_rfl) (by kernel_rfl) ?_
                intro K hK
                simp only [AE, TY, EN, seval]
                refine hK _ _ _ (show cutK _ _ _ from cutL ⟨_, _, rfl, h⟩ (Le_can [] [] hρ (by kernel_rfl) ?_ ?_))
                · simp only [AL, AE, TY, EN, seval]
                · simp only [AL, AE, TY, EN, seval]
      · refine AW_exit (show cutK _ _ _ from cutL ⟨_, rfl, h⟩ (Le_can [] [] hρ (by kernel_rfl) ?_ ?_))
        · simp only [AL, AE, TY, EN, seval]
        · simp only [AL, AE, TY, EN, seval]
  · rintro S ⟨v5, rfl, h⟩
    unfold l_heldPauliS_j1 at h
    refine AW_rs (BR := BR) FM (by rw [hN]; kernel_rfl) (by kernel_rfl) ?_
    intro K hK
    simp only [AE, TY, EN, seval]
    refine hK _ _ _ ?_
    clear hK K
    injection h with h
    subst h
    refine AW_le (Le_can (lt := [(4, .int .i64 v5)]) (lr := []) (b' := 64) [] [] hρ (by kernel_rfl) ?_ ?_) (AW_ret (end_q [] (.inr rfl) (by kernel_rfl) (by kernel_rfl) ?_))
    · simp only [AL, AE, TY, EN, seval]
    · simp only [AL, AE, TY, EN, seval]
    · simp only [AE, TY, EN, Try.results86, seval]
/- laws.heldTableau -/
def l_heldTableau (a1 : Int) (a2 : List (Int × Int × Int × Int)) (a3 : Int) : Option Int :=
  bO (l_heldPauliS a2 a3) fun x1 => br (decide (x1 < 0)) (some (-1)) (some x1)
set_option maxHeartbeats 4000000 in
theorem l_heldTableau_ok {a1 : Int} {a2 : List (Int × Int × Int × Int)} {a3 : Int} {r : Int} (h : l_heldTableau a1 a2 a3 = some r) :
    Spec Try.prog 37 [.agg [.int .i64 a1, .sl (encL EIIII a2) a2.length], .int .i64 a3] [] (.int .i64 r) [] := by
  unfold l_heldTableau at h
  refine spec_of Try.func37 rfl (by kernel_rfl) (by simp only [Try.ntmps37, List.length_cons, List.length_nil, Nat.reduceAdd, Nat.reduceLeDiff]) ?_
  intro C hN hρ
  rw [Try.ntmps37] at hN
  unfold st0
  simp only [tmps0, Nat.zero_add, Nat.reduceAdd]
  refine AW_rs (BR := BR) FM (by rw [hN]; kernel_rfl) (by kernel_rfl) ?_
  intro K hK
  simp only [AE, TY, EN, seval]
  refine hK _ _ _ ?_
  clear hK K
  refine AW_rs (BR := BR) FM (by rw [hN]; kernel_rfl) (by kernel_rfl) ?_
  intro K hK
  obtain ⟨x1, h1, h⟩ := bO_inv h
  simp only [AE, TY, EN, seval]
  refine rC_p (l_heldPauliS_ok h1) (by simp only [AL, AE, TY, EN, seval]) (by simp only [List.length_cons, List.length_nil, Nat.zero_add, Nat.reduceAdd, Nat.reduceLeDiff, Nat.zero_le]) (by intro j hj; exact absurd hj (Nat.not_lt_zero _)) ?_
  simp only [AE, TY, EN, seval]
  refine hK _ _ _ ?_
  clear hK K
  refine AW_seq ?_
  refine AW_rs (BR := BR) FM (by rw [hN]; kernel_rfl) (by kernel_rfl) ?_
  intro K hK
  simp only [AE, TY, EN, seval]
  refine hK _ _ _ ?_
  clear hK K
  refine AW_condK (a := .bool (decide (x1 < 0))) (by simp only [AE, TY, EN, seval]) (brK h (fun hc1 h => ?_) (fun hc1 h => ?_))
  · refine AW_rs (BR := BR) FM (by rw [hN]; kernel_rfl) (by kernel_rfl) ?_
    intro K hK
    simp only [AE, TY, EN, seval]
    refine hK _ _ _ ?_
    clear hK K
    injection h with h
    subst h
    refine AW_le (Le_can (lt := [(4, .int .i64 (-1))]) (lr := []) (b' := 64) [] [] hρ (by kernel_rfl) ?_ ?_) (AW_ret (end_q [] (.inr rfl) (by kernel_rfl) (by kernel_rfl) ?_))
    · simp only [AL, AE, TY, EN, seval]
    · simp only [AL, AE, TY, EN, seval]
    · simp only [AE, TY, EN, Try.results37, seval]
  · refine AW_skip (show AW _ _ _ _ _ from ?_)
    refine AW_rs (BR := BR) FM (by rw [hN]; kernel_rfl) (by kernel_rfl) ?_
    intro K hK
    simp only [AE, TY, EN, seval]
    refine hK _ _ _ ?_
    clear hK K
    injection h with h
    subst h
    refine AW_le (Le_can (lt := [(4, .int .i64 x1)]) (lr := []) (b' := 64) [] [] hρ (by kernel_rfl) ?_ ?_) (AW_ret (end_q [] (.inr rfl) (by kernel_rfl) (by kernel_rfl) ?_))
    · simp only [AL, AE, TY, EN, seval]
    · simp only [AL, AE, TY, EN, seval]
    · simp only [AE, TY, EN, Try.results37, seval]
/- laws.FnExactTableauApplyGate -/
def l_FnExactTableauApplyGate_j3 (x7 : Int × List (Int × Int × Int × Int) × Bool) (x19 : Int × List (Int × Int × Int × Int)) (v3 : Bool) : Option Bool :=
  br v3 (some false) (bO (l_heldTableau x7.1 x19.2 1) fun x26 => br (decide (x26 < 0)) (some false) (br (x26 != x19.1) (some false) (some true)))
def l_FnExactTableauApplyGate_j2 (a1 : Int) (a2 : List (Int × Int × Int × Int)) (a3 : Int) (a4 : Int) (a5 : Int) (a6 : Int) (x4 : Int × List (Int × Int × Int × Int) × Bool) (x7 : Int × List (Int × Int × Int × Int) × Bool) (v2 : Bool) : Option Bool :=
  br v2 (some false) (bO (l_markTableau x7.1 x7.2.1 1) fun x19 => gd (decide (x19.2.length = x7.2.1.length)) (bO (l_heldTableau x7.1 x19.2 1) fun x20 => br (decide (x20 < 0)) (some false) (br (x20 != x19.1) (some false) (bO (l_toTableau a1 a2) fun x21 => bO (l_toGate a3 a4 a5 a6) fun x22 => bO (i_TableauApplyGate x21.1 x21.2 x22.1 x22.2.1 x22.2.2.1 x22.2.2.2) fun x23 => bO (l_eqTableau x23.1 x23.2.1 x4.1 x4.2.1) fun x24 => bO (br (!x24) (some true) (some (x23.2.2 != x4.2.2))) fun x25 => l_FnExactTableauApplyGate_j3 x7 x19 x25))))
def l_FnExactTableauApplyGate_j1 (a1 : Int) (a2 : List (Int × Int × Int × Int)) (a3 : Int) (a4 : Int) (a5 : Int) (a6 : Int) (x4 : Int × List (Int × Int × Int × Int) × Bool) (x5 : Int × List (Int × Int × Int × Int)) (x7 : Int × List (Int × Int × Int × Int) × Bool) (v1 : Bool) : Option Bool :=
  br v1 (some false) (bO (l_toTableau a1 a2) fun x10 => bO (l_eqTableau x5.1 x5.2 x10.1 x10.2) fun x11 => br (!x11) (some false) (bO (l_markTableau x5.1 x5.2 1) fun x12 => gd (decide (x12.2.length = x5.2.length)) (bO (br (decide (x12.1 < 0)) (some true) (bO (l_eqTableau x7.1 x7.2.1 x4.1 x4.2.1) fun x13 => some (!x13))) fun x14 => bO (br x14 (some true) (some (x7.2.2 != x4.2.2))) fun x15 => l_FnExactTableauApplyGate_j2 a1 a2 a3 a4 a5 a6 x4 x7 x15)))
def l_FnExactTableauApplyGate (a1 : Int) (a2 : List (Int × Int × Int × Int)) (a3 : Int) (a4 : Int) (a5 : Int) (a6 : Int) : Option Bool :=
  bO (l_szTableau a1 a2 1048576) fun x1 => br (decide (x1 < 0)) (some true) (bO (l_toTableau a1 a2) fun x2 => bO (l_toGate a3 a4 a5 a6) fun x3 => bO (s_TableauApplyGate x2.1 x2.2 x3.1 x3.2.1 x3.2.2.1 x3.2.2.2) fun x4 => bO (l_toTableau a1 a2) fun x5 => bO (l_toGate a3 a4 a5 a6) fun x6 => bO (i_TableauApplyGate x5.1 x5.2 x6.1 x6.2.1 x6.2.2.1 x6.2.2.2) fun x7 => bO (l_eqTableau x7.1 x7.2.1 x4.1 x4.2.1) fun x8 => bO (br (!x8) (some true) (some (x7.2.2 != x4.2.2))) fun x9 => l_FnExactTableauApplyGate_j1 a1 a2 a3 a4 a5 a6 x4 x5 x7 x9)
set_option maxHeartbeats 4000000 in
theorem l_FnExactTableauApplyGate_ok {a1 : Int} {a2 : List (Int × Int × Int × Int)} {a3 : Int} {a4 : Int} {a5 : Int} {a6 : Int} {r : Bool} (h : l_FnExactTableauApplyGate a1 a2 a3 a4 a5 a6 = some r) :
    Spec Try.prog 8 [.agg [.int .i64 a1, .sl (encL EIIII a2) a2.length], .agg [.int .i64 a3, .int .i64 a4, .int .i64 a5, .int .i64 a6]] [] (.bool r) [] := by
  unfold l_FnExactTableauApplyGate at h
  refine spec_of Try.func8 rfl (by kernel_rfl) (by simp only [Try.ntmps8, List.length_cons, List.length_nil, Nat.reduceAdd, Nat.reduceLeDiff]) ?_
  intro C hN hρ
  rw [Try.ntmps8] at hN
  unfold st0
  simp only [tmps0, Nat.zero_add, Nat.reduceAdd]
  refine AW_rs (BR := BR) FM (by rw [hN]; kernel_rfl) (by kernel_rfl) ?_
  intro K hK
  simp only [AE, TY, EN, seval]
  refine hK _ _ _ ?_
  clear hK K
  refine AW_rs (BR := BR) FM (by rw [hN]; kernel_rfl) (by kernel_rfl) ?_
  intro K hK
  simp only [AE, TY, EN, seval]
  refine hK _ _ _ ?_
  clear hK K
  refine AW_rs (BR := BR) FM (by rw [hN]; kernel_rfl) (by kernel_rfl) ?_
  intro K hK
  obtain ⟨x1, h1, h⟩ := bO_inv h
  simp only [AE, TY, EN, seval]
  refine rC_p (l_szTableau_ok h1) (by simp only [AL, AE, TY, EN, seval]) (by simp only [List.length_cons, List.length_nil, Nat.zero_add, Nat.reduceAdd, Nat.reduceLeDiff, Nat.zero_le]) (by intro j hj; exact absurd hj (Nat.not_lt_zero _)) ?_
  simp only [AE, TY, EN, seval]
  refine hK _ _ _ ?_
  clear hK K
  refine AW_seq ?_
  refine AW_rs (BR := BR) FM (by rw [hN]; kernel_rfl) (by kernel_rfl) ?_
  intro K hK
  simp only [AE, TY, EN, seval]
  refine hK _ _ _ ?_
  clear hK K
  refine AW_condK (a := .bool (decide (x1 < 0))) (by simp only [AE, TY, EN, seval]) (brK h (fun hc1 h => ?_) (fun hc1 h => ?_))
  · refine AW_rs (BR := BR) FM (by rw [hN]; kernel_rfl) (by kernel_rfl) ?_
    intro K hK
    simp only [AE, TY, EN, seval]
    refine hK _ _ _ ?_
    clear hK K
    injection h with h
    subst h
    refine AW_le (Le_can (lt := [(4, .bool true)]) (lr := []) (b' := 64) [] [] hρ (by kernel_rfl) ?_ ?_) (AW_ret (end_q [] (.inr rfl) (by kernel_rfl) (by kernel_rfl) ?_))
    · simp only [AL, AE, TY, EN, seval]
    · simp only [AL, AE, TY, EN, seval]
    · simp only [AE, TY, EN, Try.results8, seval]
  · refine AW_skip (show AW _ _ _ _ _ from ?_)
    refine AW_rs (BR := BR) FM (by rw [hN]; kernel_rfl) (by kernel_rfl) ?_
    intro K hK
    obtain ⟨x2, h2, h⟩ := bO_inv h
    simp only [AE, TY, EN, seval]
    refine rC_p (l_toTableau_ok h2) (by simp only [AL, AE, TY, EN, seval]) (by simp only [List.length_cons, List.length_nil, Nat.zero_add, Nat.reduceAdd, Nat.reduceLeDiff, Nat.zero_le]) (site_1 (by simp only [AE, TY, EN, seval])) ?_
    obtain ⟨x3, h3, h⟩ := bO_inv h
    simp only [AE, TY, EN, seval]
    refine rC_p (l_toGate_ok h3) (by simp only [AL, AE, TY, EN, seval]) (by simp only [List.length_cons, List.length_nil, Nat.zero_add, Nat.reduceAdd, Nat.reduceLeDiff, Nat.zero_le]) (by intro j hj; exact absurd hj (Nat.not_lt_zero _)) ?_
    obtain ⟨x4, h4, h⟩ := bO_inv h
    simp only [AE, TY, EN, seval]
    refine rC_l (s_TableauApplyGate_ok h4) (by simp only [AL, AE, TY, EN, seval]) (by simp only [AL, EF, and_self]) (by simp only [List.length_cons, List.length_nil, Nat.zero_add, Nat.reduceAdd, Nat.reduceLeDiff, Nat.zero_le]) (site_1 (by simp only [AE, TY, EN, seval])) ?_
    simp only [AE, TY, EN, seval]
    refine hK _ _ _ ?_
    clear hK K
    refine AW_rs (BR := BR) FM (by rw [hN]; kernel_rfl) (by kernel_rfl) ?_
    intro K hK
    obtain ⟨x5, h5, h⟩ := bO_inv h
    simp only [AE, TY, EN, seval]
    refine rC_p (l_toTableau_ok h5) (by simp only [AL, AE, TY, EN, seval]) (by simp only [List.length_cons, List.length_nil, Nat.zero_add, Nat.reduceAdd, Nat.reduceLeDiff, Nat.zero_le]) (site_1 (by simp only [AE, TY, EN, seval])) ?_
    simp only [AE, TY, EN, seval]
    refine hK _ _ _ ?_
    clear hK K
    refine AW_rs (BR := BR) FM (by rw [hN]; kernel_rfl) (by kernel_rfl) ?_
    intro K hK
    obtain ⟨x6, h6, h⟩ := bO_inv h
    simp only [AE, TY, EN, seval]
    refine rC_p (l_toGate_ok h6) (by simp only [AL, AE, TY, EN, seval]) (by simp only [List.length_cons, List.length_nil, Nat.zero_add, Nat.reduceAdd, Nat.reduceLeDiff, Nat.zero_le]) (by intro j hj; exact absurd hj (Nat.not_lt_zero _)) ?_
    obtain ⟨x7, h7, h⟩ := bO_inv h
    simp only [AE, TY, EN, seval]
    refine rC_l (i_TableauApplyGate_ok h7) (by simp only [AL, AE, TY, EN, seval]) (by simp only [AL, EF, and_self]) (by simp only [List.length_cons, List.length_nil, Nat.zero_add, Nat.reduceAdd, Nat.reduceLeDiff, Nat.zero_le]) (site_1 (by simp only [AE, TY, EN, seval])) ?_
    simp only [AE, TY, EN, seval]
    refine hK _ _ _ ?_
    clear hK K
    refine AW_seq ?_
    refine AW_rsJ (BR := BR) (fun S => ∃ (v1 : Bool), S = ⟨mkT [(2, .ptr 32 0), (3, .ptr 33 0), (6, .ptr 34 0), (7, .bool x4.2.2), (8, .ptr 35 0), (9, .ptr 36 0), (10, .bool x7.2.2), (46, .bool v1)], mkR [(32, .box 24 [.int .i64 a1, .sl (encL EIIII a2) a2.length]), (33, .box 55 [.int .i64 a3, .int .i64 a4, .int .i64 a5, .int .i64 a6]), (34, .box 33 [.int .i64 x4.1, .own 37 x4.2.1.length]), (35, .box 33 [.int .i64 x5.1, .own 38 x5.2.length]), (36, .box 33 [.int .i64 x7.1, .own 39 x7.2.1.length]), (37, .row 28 4 (encL EIIII x4.2.1)), (38, .row 28 4 (encL EIIII x5.2)), (39, .row 28 4 (encL EIIII x7.2.1))], 64⟩ ∧ l_FnExactTableauApplyGate_j1 a1 a2 a3 a4 a5 a6 x4 x5 x7 v1 = some r) FM (by rw [hN]; kernel_rfl) (by kernel_rfl) ?_ ?_
    · intro K hK
      obtain ⟨x8, h8, h⟩ := bO_inv h
      simp only [AE, TY, EN, seval]
      refine rC_l (l_eqTableau_ok h8) (by simp only [AL, AE, TY, EN, seval]) (by simp only [AL, EF, and_self]) (by simp only [List.length_cons, List.length_nil, Nat.zero_add, Nat.reduceAdd, Nat.reduceLeDiff, Nat.zero_le]) (by intro j hj; exact absurd hj (Nat.not_lt_zero _)) ?_
      obtain ⟨x9, hv1, h⟩ := bO_inv h
      rcases br_inv hv1 with ⟨hc2, hv1⟩ | ⟨hc2, hv1⟩
      · cases hv1
        simp only [AE, TY, EN, seval, hc2]
        refine hK _ _ _ (show cutK _ _ _ from cutL ⟨_, rfl, h⟩ (Le_can [(32, some 64), (33, some 80), (34, some 4288), (35, some 5216), (36, some 6320), (37, some 4224), (38, some 5200), (39, some 6256)] [] hρ (by kernel_rfl) ?_ ?_))
        · simp only [AL, AE, TY, EN, seval, hc2]
        · simp only [AL, AE, TY, EN, seval, hc2]
      · cases hv1
        simp only [AE, TY, EN, seval, hc2]
        refine hK _ _ _ (show cutK _ _ _ from cutL ⟨_, rfl, h⟩ (Le_can [(32, some 64), (33, some 80), (34, some 4288), (35, some 5216), (36, some 6320), (37, some 4224), (38, some 5200), (39, some 6256)] [] hρ (by kernel_rfl) ?_ ?_))
        · simp only [AL, AE, TY, EN, seval, hc2]
        · simp only [AL, AE, TY, EN, seval, hc2]
    · rintro S ⟨v1, rfl, h⟩
      unfold l_FnExactTableauApplyGate_j1 at h
      refine AW_condK (a := .bool v1) (by simp only [AE, TY, EN, seval]) (brK h (fun hc3 h => ?_) (fun hc3 h => ?_))
      · refine AW_rs (BR := BR) FM (by rw [hN]; kernel_rfl) (by kernel_rfl) ?_
        intro K hK
        simp only [AE, TY, EN, seval]
        refine hK _ _ _ ?_
        clear hK K
        injection h with h
        subst h
        refine AW_le (Le_can (lt := [(4, .bool false)]) (lr := []) (b' := 64) [] [] hρ (by kernel_rfl) ?_ ?_) (AW_ret (end_q [] (.inr rfl) (by kernel_rfl) (by kernel_rfl) ?_))
        · simp only [AL, AE, TY, EN, seval]
        · simp only [AL, AE, TY, EN, seval]
        · simp only [AE, TY, EN, Try.results8, seval]
      · refine AW_skip (show AW _ _ _ _ _ from ?_)
        refine AW_seq ?_
        refine AW_rs (BR := BR) FM (by rw [hN]; kernel_rfl) (by kernel_rfl) ?_
        intro K hK
        obtain ⟨x10, h9, h⟩ := bO_inv h
        simp only [AE, TY, EN, seval]
        refine rC_p (l_toTableau_ok h9) (by simp only [AL, AE, TY, EN, seval]) (by simp only [List.length_cons, List.length_nil, Nat.zero_add, Nat.reduceAdd, Nat.reduceLeDiff, Nat.zero_le]) (site_1 (by simp only [AE, TY, EN, seval])) ?_
        obtain ⟨x11, h10, h⟩ := bO_inv h
        simp only [AE, TY, EN, seval]
        refine rC_l (l_eqTableau_ok h10) (by simp only [AL, AE, TY, EN, seval]) (by simp only [AL, EF, and_self]) (by simp only [List.length_cons, List.length_nil, Nat.zero_add, Nat.reduceAdd, Nat.reduceLeDiff, Nat.zero_le]) (by intro j hj; exact absurd hj (Nat.not_lt_zero _)) ?_
        simp only [AE, TY, EN, seval]
        refine hK _ _ _ ?_
        clear hK K
        refine AW_condK (a := .bool (!x11)) (by simp only [AE, TY, EN, seval]) (brK h (fun hc4 h => ?_) (fun hc4 h => ?_))
        · refine AW_rs (BR := BR) FM (by rw [hN]; kernel_rfl) (by kernel_rfl) ?_
          intro K hK
          simp only [AE, TY, EN, seval]
          refine hK _ _ _ ?_
          clear hK K
          injection h with h
          subst h
          refine AW_le (Le_can (lt := [(4, .bool false)]) (lr := []) (b' := 64) [] [] hρ (by kernel_rfl) ?_ ?_) (AW_ret (end_q [] (.inr rfl) (by kernel_rfl) (by kernel_rfl) ?_))
          · simp only [AL, AE, TY, EN, seval]
          · simp only [AL, AE, TY, EN, seval]
          · simp only [AE, TY, EN, Try.results8, seval]
        · refine AW_skip (show AW _ _ _ _ _ from ?_)
          refine AW_rs (BR := BR) FM (by rw [hN]; kernel_rfl) (by kernel_rfl) ?_
          intro K hK
          simp only [AE, TY, EN, seval]
          refine hK _ _ _ ?_
          clear hK K
          refine AW_rs (BR := BR) FM (by rw [hN]; kernel_rfl) (by kernel_rfl) ?_
          intro K hK
          obtain ⟨x12, h11, h⟩ := bO_inv h
          simp only [AE, TY, EN, seval]
          obtain ⟨h12, h⟩ := gd_inv h
          replace h12 := of_decide_eq_true h12
          refine rR_p [38] (l_markTableau_ok h11) (by simp only [AL, AE, TY, EN, seval, h12]) (by simp only [AL, AE, TY, EN, seval, h12]) (by kernel_rfl) (by simp only [AE, TY, EN, solidO, List.mem_cons, List.not_mem_nil, or_false, forall_eq_or_imp, forall_eq, seval]) (by simp only [List.length_cons, List.length_nil, Nat.zero_add, Nat.reduceAdd, Nat.reduceLeDiff, Nat.le_refl]) (by simp only [List.length_cons, List.length_nil, Nat.zero_add, Nat.reduceAdd, Nat.reduceSub, Nat.reduceLeDiff, Nat.sub_self, Nat.zero_le]) (by intro j hj; exact absurd hj (Nat.not_lt_zero _)) ?_
          simp only [AE, TY, EN, seval, h12]
          refine hK _ _ _ ?_
          clear hK K
          refine AW_seq ?_
          refine AW_rsJ (BR := BR) (fun S => ∃ (v2 : Bool), S = ⟨mkT [(2, .ptr 32 0), (3, .ptr 33 0), (6, .ptr 34 0), (7, .bool x4.2.2), (9, .ptr 35 0), (67, .bool v2)], mkR [(32, .box 24 [.int .i64 a1, .sl (encL EIIII a2) a2.length]), (33, .box 55 [.int .i64 a3, .int .i64 a4, .int .i64 a5, .int .i64 a6]), (34, .box 33 [.int .i64 x4.1, .own 36 x4.2.1.length]), (35, .box 33 [.int .i64 x7.1, .own 37 x7.2.1.length]), (36, .row 28 4 (encL EIIII x4.2.1)), (37, .row 28 4 (encL EIIII x7.2.1))], 64⟩ ∧ l_FnExactTableauApplyGate_j2 a1 a2 a3 a4 a5 a6 x4 x7 v2 = some r) FM (by rw [hN]; kernel_rfl) (by kernel_rfl) ?_ ?_
          · intro K hK
            obtain ⟨x14, hv2, h⟩ := bO_inv h
            rcases br_inv hv2 with ⟨hc5, hv2⟩ | ⟨hc5, hv2⟩
            · cases hv2
              obtain ⟨x16, hv4, h⟩ := bO_inv h
              replace hv4 := br_t hv4
              cases hv4
              try dsimp only at h
              simp only [AE, TY, EN, seval, hc5, h12]
              refine hK _ _ _ (show cutK _ _ _ from cutL ⟨_, rfl, h⟩ (Le_can [(32, some 32), (33, some 33), (34, some 34), (35, some 36), (36, some 37), (37, some 39)] [] hρ (by kernel_rfl) ?_ ?_))
              · simp only [AL, AE, TY, EN, seval, hc5, h12]
              · simp only [AL, AE, TY, EN, seval, hc5, h12]
            · obtain ⟨x17, h14, hv2⟩ := bO_inv hv2
              simp only [AE, TY, EN, seval, hc5, h12]
              refine rC_l (l_eqTableau_ok h14) (by simp only [AL, AE, TY, EN, seval, hc5, h12]) (by simp only [AL, EF, and_self]) (by simp only [List.length_cons, List.length_nil, Nat.zero_add, Nat.reduceAdd, Nat.reduceLeDiff, Nat.zero_le]) (by intro j hj; exact absurd hj (Nat.not_lt_zero _)) ?_
              cases hv2
              obtain ⟨x18, hv5, h⟩ := bO_inv h
              rcases br_inv hv5 with ⟨hc7, hv5⟩ | ⟨hc7, hv5⟩
              · cases hv5
                simp only [AE, TY, EN, seval, hc5, hc7, h12]
                refine hK _ _ _ (show cutK _ _ _ from cutL ⟨_, rfl, h⟩ (Le_can [(32, some 32), (33, some 33), (34, some 34), (35, some 36), (36, some 37), (37, some 39)] [] hρ (by kernel_rfl) ?_ ?_))
                · simp only [AL, AE, TY, EN, seval, hc5, hc7, h12]
                · simp only [AL, AE, TY, EN, seval, hc5, hc7, h12]
              · cases hv5
                simp only [AE, TY, EN, seval, hc5, hc7, h12]
                refine hK _ _ _ (show cutK _ _ _ from cutL ⟨_, rfl, h⟩ (Le_can [(32, some 32), (33, some 33), (34, some 34), (35, some 36), (36, some 37), (37, some 39)] [] hρ (by kernel_rfl) ?_ ?_))
                · simp only [AL, AE, TY, EN, seval, hc5, hc7, h12]
                · simp only [AL, AE, TY, EN, seval, hc5, hc7, h12]
          · rintro S ⟨v2, rfl, h⟩
            unfold l_FnExactTableauApplyGate_j2 at h
            refine AW_condK (a := .bool v2) (by simp only [AE, TY, EN, seval, h12]) (brK h (fun hc8 h => ?_) (fun hc8 h => ?_))
            · refine AW_rs (BR := BR) FM (by rw [hN]; kernel_rfl) (by kernel_rfl) ?_
              intro K hK
              simp only [AE, TY, EN, seval, h12]
              refine hK _ _ _ ?_
              clear hK K
              injection h with h
              subst h
              refine AW_le (Le_can (lt := [(4, .bool false)]) (lr := []) (b' := 64) [] [] hρ (by kernel_rfl) ?_ ?_) (AW_ret (end_q [] (.inr rfl) (by kernel_rfl) (by kernel_rfl) ?_))
              · simp only [AL, AE, TY, EN, seval, h12]
              · simp only [AL, AE, TY, EN, seval, h12]
              · simp only [AE, TY, EN, Try.results8, seval]
            · refine AW_skip (show AW _ _ _ _ _ from ?_)
              refine AW_rs (BR := BR) FM (by rw [hN]; kernel_rfl) (by kernel_rfl) ?_
              intro K hK
              simp only [AE, TY, EN, seval, h12]
              refine hK _ _ _ ?_
              clear hK K
              refine AW_rs (BR := BR) FM (by rw [hN]; kernel_rfl) (by kernel_rfl) ?_
              intro K hK
              obtain ⟨x19, h15, h⟩ := bO_inv h
              simp only [AE, TY, EN, seval, h12]
              obtain ⟨h16, h⟩ := gd_inv h
              replace h16 := of_decide_eq_true h16
              refine rR_p [37] (l_markTableau_ok h15) (by simp only [AL, AE, TY, EN, seval, h12, h16]) (by simp only [AL, AE, TY, EN, seval, h12, h16]) (by kernel_rfl) (by simp only [AE, TY, EN, solidO, List.mem_cons, List.not_mem_nil, or_false, forall_eq_or_imp, forall_eq, seval]) (by simp only [List.length_cons, List.length_nil, Nat.zero_add, Nat.reduceAdd, Nat.reduceLeDiff, Nat.le_refl]) (by simp only [List.length_cons, List.length_nil, Nat.zero_add, Nat.reduceAdd, Nat.reduceSub, Nat.reduceLeDiff, Nat.sub_self, Nat.zero_le]) (by intro j hj; exact absurd hj (Nat.not_lt_zero _)) ?_
              simp only [AE, TY, EN, seval, h12, h16]
              refine hK _ _ _ ?_
              clear hK K
              refine AW_rs (BR := BR) FM (by rw [hN]; kernel_rfl) (by kernel_rfl) ?_
              intro K hK
              simp only [AE, TY, EN, seval, h12, h16]
              refine hK _ _ _ ?_
              clear hK K
              refine AW_rs (BR := BR) FM (by rw [hN]; kernel_rfl) (by kernel_rfl) ?_
              intro K hK
              obtain ⟨x20, h17, h⟩ := bO_inv h
              simp only [AE, TY, EN, seval, h12, h16]
              refine rC_l (l_heldTableau_ok h17) (by simp only [AL, AE, TY, EN, seval, h12, h16]) (by simp only [AL, EF, and_self]) (by simp only [List.length_cons, List.length_nil, Nat.zero_add, Nat.reduceAdd, Nat.reduceLeDiff, Nat.zero_le]) (by intro j hj; exact absurd hj (Nat.not_lt_zero _)) ?_
              simp only [AE, TY, EN, seval, h12, h16]
              refine hK _ _ _ ?_
              clear hK K
              refine AW_seq ?_
              refine AW_rs (BR := BR) FM (by rw [hN]; kernel_rfl) (by kernel_rfl) ?_
              intro K hK
              simp only [AE, TY, EN, seval, h12, h16]
              refine hK _ _ _ ?_
              clear hK K
              refine AW_condK (a := .bool (decide (x20 < 0))) (by simp only [AE, TY, EN, seval, h12, h16]) (brK h (fun hc9 h => ?_) (fun hc9 h => ?_))
              · refine AW_rs (BR := BR) FM (by rw [hN]; kernel_rfl) (by kernel_rfl) ?_
                intro K hK
                simp only [AE, TY, EN, seval, h12, h16]
                refine hK _ _ _ ?_
                clear hK K
                injection h with h
                subst h
                refine AW_le (Le_can (lt := [(4, .bool false)]) (lr := []) (b' := 64) [] [] hρ (by kernel_rfl) ?_ ?_) (AW_ret (end_q [] (.inr rfl) (by kernel_rfl) (by kernel_rfl) ?_))
                · simp only [AL, AE, TY, EN, seval, h12, h16]
                · simp only [AL, AE, TY, EN, seval, h12, h16]
                · simp only [AE, TY, EN, Try.results8, seval]
              · refine AW_skip (show AW _ _ _ _ _ from ?_)
                refine AW_seq ?_
                refine AW_rs (BR := BR) FM (by rw [hN]; kernel_rfl) (by kernel_rfl) ?_
                intro K hK
                simp only [AE, TY, EN, seval, h12, h16]
                refine hK _ _ _ ?_
                clear hK K
                refine AW_condK (a := .bool (x20 != x19.1)) (by simp only [AE, TY, EN, seval, h12, h16]) (brK h (fun hc10 h => ?_) (fun hc10 h => ?_))
                · refine AW_rs (BR := BR) FM (by rw [hN]; kernel_rfl) (by kernel_rfl) ?_
                  intro K hK
                  simp only [AE, TY, EN, seval, h12, h16]
                  refine hK _ _ _ ?_
                  clear hK K
                  injection h with h
                  subst h
                  refine AW_le (Le_can (lt := [(4, .bool false)]) (lr := []) (b' := 64) [] [] hρ (by kernel_rfl) ?_ ?_) (AW_ret (end_q [] (.inr rfl) (by kernel_rfl) (by kernel_rfl) ?_))
                  · simp only [AL, AE, TY, EN, seval, h12, h16]
                  · simp only [AL, AE, TY, EN, seval, h12, h16]
                  · simp only [AE, TY, EN, Try.results8, seval]
                · refine AW_skip (show AW _ _ _ _ _ from ?_)
                  refine AW_rs (BR := BR) FM (by rw [hN]; kernel_rfl) (by kernel_rfl) ?_
                  intro K hK
                  obtain ⟨x21, h18, h⟩ := bO_inv h
                  simp only [AE, TY, EN, seval, h12, h16]
                  refine rC_p (l_toTableau_ok h18) (by simp only [AL, AE, TY, EN, seval, h12, h16]) (by simp only [List.length_cons, List.length_nil, Nat.zero_add, Nat.reduceAdd, Nat.reduceLeDiff, Nat.zero_le]) (site_1 (by simp only [AE, TY, EN, seval])) ?_
                  obtain ⟨x22, h19, h⟩ := bO_inv h
                  simp only [AE, TY, EN, seval, h12, h16]
                  refine rC_p (l_toGate_ok h19) (by simp only [AL, AE, TY, EN, seval, h12, h16]) (by simp only [List.length_cons, List.length_nil, Nat.zero_add, Nat.reduceAdd, Nat.reduceLeDiff, Nat.zero_le]) (by intro j hj; exact absurd hj (Nat.not_lt_zero _)) ?_
                  obtain ⟨x23, h20, h⟩ := bO_inv h
                  simp only [AE, TY, EN, seval, h12, h16]
                  refine rC_l (i_TableauApplyGate_ok h20) (by simp only [AL, AE, TY, EN, seval, h12, h16]) (by simp only [AL, EF, and_self]) (by simp only [List.length_cons, List.length_nil, Nat.zero_add, Nat.reduceAdd, Nat.reduceLeDiff, Nat.zero_le]) (site_1 (by simp only [AE, TY, EN, seval])) ?_
                  simp only [AE, TY, EN, seval, h12, h16]
                  refine hK _ _ _ ?_
                  clear hK K
                  refine AW_seq ?_
                  refine AW_rsJ (BR := BR) (fun S => ∃ (v3 : Bool), S = ⟨mkT [(9, .ptr 32 0), (12, .int .i64 x19.1), (95, .bool v3)], mkR [(32, .box 33 [.int .i64 x7.1, .own 33 x19.2.length]), (33, .row 28 4 (encL EIIII x19.2))], 64⟩ ∧ l_FnExactTableauApplyGate_j3 x7 x19 v3 = some r) FM (by rw [hN]; kernel_rfl) (by kernel_rfl) ?_ ?_
                  · intro K hK
                    obtain ⟨x24, h21, h⟩ := bO_inv h
                    simp only [AE, TY, EN, seval, h12, h16]
                    refine rC_l (l_eqTableau_ok h21) (by simp only [AL, AE, TY, EN, seval, h12, h16]) (by simp only [AL, EF, and_self]) (by simp only [List.length_cons, List.length_nil, Nat.zero_add, Nat.reduceAdd, Nat.reduceLeDiff, Nat.zero_le]) (by intro j hj; exact absurd hj (Nat.not_lt_zero _)) ?_
                    obtain ⟨x25, hv6, h⟩ := bO_inv h
                    rcases br_inv hv6 with ⟨hc11, hv6⟩ | ⟨hc11, hv6⟩
                    · cases hv6
                      simp only [AE, TY, EN, seval, hc11, h12, h16]
                      refine hK _ _ _ (show cutK _ _ _ from cutL ⟨_, rfl, h⟩ (Le_can [(32, some 35), (33, some 37)] [] hρ (by kernel_rfl) ?_ ?_))
                      · simp only [AL, AE, TY, EN, seval, hc11, h12, h16]
                      · simp only [AL, AE, TY, EN, seval, hc11, h12, h16]
                    · cases hv6
                      simp only [AE, TY, EN, seval, hc11, h12, h16]
                      refine hK _ _ _ (show cutK _ _ _ from cutL ⟨_, rfl, h⟩ (Le_can [(32, some 35), (33, some 37)] [] hρ (by kernel_rfl) ?_ ?_))
                      · simp only [AL, AE, TY, EN, seval, hc11, h12, h16]
                      · simp only [AL, AE, TY, EN, seval, hc11, h12, h16]
                  · rintro S ⟨v3, rfl, h⟩
                    unfold l_FnExactTableauApplyGate_j3 at h
                    refine AW_condK (a := .bool v3) (by simp only [AE, TY, EN, seval, h12, h16]) (brK h (fun hc12 h => ?_) (fun hc12 h => ?_))
                    · refine AW_rs (BR := BR) FM (by rw [hN]; kernel_rfl) (by kernel_rfl) ?_
                      intro K hK
                      simp only [AE, TY, EN, seval, h12, h16]
                      refine hK _ _ _ ?_
                      clear hK K
                      injection h with h
                      subst h
                      refine AW_le (Le_can (lt := [(4, .bool false)]) (lr := []) (b' := 64) [] [] hρ (by kernel_rfl) ?_ ?_) (AW_ret (end_q [] (.inr rfl) (by kernel_rfl) (by kernel_rfl) ?_))
                      · simp only [AL, AE, TY, EN, seval, h12, h16]
                      · simp only [AL, AE, TY, EN, seval, h12, h16]
                      · simp only [AE, TY, EN, Try.results8, seval]
                    · refine AW_skip (show AW _ _ _ _ _ from ?_)
                      refine AW_rs (BR := BR) FM (by rw [hN]; kernel_rfl) (by kernel_rfl) ?_
                      intro K hK
                      simp only [AE, TY, EN, seval, h12, h16]
                      refine hK _ _ _ ?_
                      clear hK K
                      refine AW_rs (BR := BR) FM (by rw [hN]; kernel_rfl) (by kernel_rfl) ?_
                      intro K hK
                      obtain ⟨x26, h22, h⟩ := bO_inv h
                      simp only [AE, TY, EN, seval, h12, h16]
                      refine rC_l (l_heldTableau_ok h22) (by simp only [AL, AE, TY, EN, seval, h12, h16]) (by simp only [AL, EF, and_self]) (by simp only [List.length_cons, List.length_nil, Nat.zero_add, Nat.reduceAdd, Nat.reduceLeDiff, Nat.zero_le]) (by intro j hj; exact absurd hj (Nat.not_lt_zero _)) ?_
                      simp only [AE, TY, EN, seval, h12, h16]
                      refine hK _ _ _ ?_
                      clear hK K
                      refine AW_seq ?_
                      refine AW_rs (BR := BR) FM (by rw [hN]; kernel_rfl) (by kernel_rfl) ?_
                      intro K hK
                      simp only [AE, TY, EN, seval, h12, h16]
                      refine hK _ _ _ ?_
                      clear hK K
                      refine AW_condK (a := .bool (decide (x26 < 0))) (by simp only [AE, TY, EN, seval, h12, h16]) (brK h (fun hc13 h => ?_) (fun hc13 h => ?_))
                      · refine AW_rs (BR := BR) FM (by rw [hN]; kernel_rfl) (by kernel_rfl) ?_
                        intro K hK
                        simp only [AE, TY, EN, seval, h12, h16]
                        refine hK _ _ _ ?_
                        clear hK K
                        injection h with h
                        subst h
                        refine AW_le (Le_can (lt := [(4, .bool false)]) (lr := []) (b' := 64) [] [] hρ (by kernel_rfl) ?_ ?_) (AW_ret (end_q [] (.inr rfl) (by kernel_rfl) (by kernel_rfl) ?_))
                        · simp only [AL, AE, TY, EN, seval, h12, h16]
                        · simp only [AL, AE, TY, EN, seval, h12, h16]
                        · simp only [AE, TY, EN, Try.results8, seval]
                      · refine AW_skip (show AW _ _ _ _ _ from ?_)
                        refine AW_seq ?_
                        refine AW_rs (BR := BR) FM (by rw [hN]; kernel_rfl) (by kernel_rfl) ?_
                        intro K hK
                        simp only [AE, TY, EN, seval, h12, h16]
                        refine hK _ _ _ ?_
                        clear hK K
                        refine AW_condK (a := .bool (x26 != x19.1)) (by simp only [AE, TY, EN, seval, h12, h16]) (brK h (fun hc14 h => ?_) (fun hc14 h => ?_))
                        · refine AW_rs (BR := BR) FM (by rw [hN]; kernel_rfl) (by kernel_rfl) ?_
                          intro K hK
                          simp only [AE, TY, EN, seval, h12, h16]
                          refine hK _ _ _ ?_
                          clear hK K
                          injection h with h
                          subst h
                          refine AW_le (Le_can (lt := [(4, .bool false)]) (lr := []) (b' := 64) [] [] hρ (by kernel_rfl) ?_ ?_) (AW_ret (end_q [] (.inr rfl) (by kernel_rfl) (by kernel_rfl) ?_))
                          · simp only [AL, AE, TY, EN, seval, h12, h16]
                          · simp only [AL, AE, TY, EN, seval, h12, h16]
                          · simp only [AE, TY, EN, Try.results8, seval]
                        · refine AW_skip (show AW _ _ _ _ _ from ?_)
                          refine AW_rs (BR := BR) FM (by rw [hN]; kernel_rfl) (by kernel_rfl) ?_
                          intro K hK
                          simp only [AE, TY, EN, seval, h12, h16]
                          refine hK _ _ _ ?_
                          clear hK K
                          injection h with h
                          subst h
                          refine AW_le (Le_can (lt := [(4, .bool true)]) (lr := []) (b' := 64) [] [] hρ (by kernel_rfl) ?_ ?_) (AW_ret (end_q [] (.inr rfl) (by kernel_rfl) (by kernel_rfl) ?_))
                          · simp only [AL, AE, TY, EN, seval, h12, h16]
                          · simp only [AL, AE, TY, EN, seval, h12, h16]
                          · simp only [AE, TY, EN, Try.results8, seval]
end Go.Proofs.Ytfpfalknddfejaa
