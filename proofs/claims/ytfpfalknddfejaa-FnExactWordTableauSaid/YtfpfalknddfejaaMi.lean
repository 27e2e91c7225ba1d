/- Models of functions, and that the functions do what the models say; printed by a program. -/
import Derived.Test.YtfpfalknddfejaaGn
import Derived.Test.YtfpfalknddfejaaMf
import Derived.Test.YtfpfalknddfejaaMa
import Derived.Test.YtfpfalknddfejaaMh
import Derived.Test.YtfpfalknddfejaaIh
import Derived.Test.YtfpfalknddfejaaMg
import Derived.Test.YtfpfalknddfejaaMd
namespace Go.Proofs.Ytfpfalknddfejaa
open Go.RowKit
set_option maxRecDepth 100000
set_option linter.unusedVariables false
set_option linter.unusedSimpArgs false
set_option linter.defProp false
/- spec.IsValidCircuit -/
def s_IsValidCircuit_j2 (v3 : Bool) : Option Bool :=
  some v3
def s_IsValidCircuit_j1 (a1 : Int) (a2 : List (Int × Int × Int × Int)) : Option Bool :=
  bO (s_l1In a1 1 4) fun x4 => bO (br x4 (some (decide (((a2.length : Int)) ≤ 60))) (some false)) fun x5 => s_IsValidCircuit_j2 x5
def s_IsValidCircuit_l1 (a1 : Int) (a2 : List (Int × Int × Int × Int)) : Nat → Int → Option Bool
  | 0, _ => none
  | n1 + 1, v2 =>
  br (decide (v2 < ((a2.length : Int)))) (bO (geti a2 v2) fun q3 => bO (s_IsValidGate q3.1 q3.2.1 q3.2.2.1 q3.2.2.2 a1) fun x3 => br (!x3) (some false) ((s_IsValidCircuit_l1 a1 a2 n1) (IntKind.wrap .i64 (v2 + 1)))) (s_IsValidCircuit_j1 a1 a2)
def s_IsValidCircuit (a1 : Int) (a2 : List (Int × Int × Int × Int)) : Option Bool :=
  s_IsValidCircuit_l1 a1 a2 FU 0
set_option maxHeartbeats 4000000 in
theorem s_IsValidCircuit_ok {a1 : Int} {a2 : List (Int × Int × Int × Int)} {r : Bool} (h : s_IsValidCircuit a1 a2 = some r) :
    Spec Try.prog 106 [.agg [.int .i64 a1, .sl (encL EIIII a2) a2.length]] [] (.bool r) [] := by
  unfold s_IsValidCircuit at h
  refine spec_of Try.func106 rfl (by kernel_rfl) (by simp only [Try.ntmps106, List.length_cons, List.length_nil, Nat.reduceAdd, Nat.reduceLeDiff]) ?_
  intro C hN hρ
  rw [Try.ntmps106] at hN
  unfold st0
  simp only [tmps0, Nat.zero_add, Nat.reduceAdd]
  refine AW_rs (BR := BR) FM (by rw [hN]; kernel_rfl) (by kernel_rfl) ?_
  intro K hK
  simp only [AE, TY, EN, seval]
  refine hK _ _ _ ?_
  clear hK K
  refine AW_cutK (fun S => S = ⟨mkT [(1, .ptr 32 0)], mkR [(32, .box 95 [.int .i64 a1, .sl (encL EIIII a2) a2.length])], 64⟩ ∧ s_IsValidCircuit_j1 a1 a2 = some r) ?_ ?_
  · refine AW_rs (BR := BR) FM (by rw [hN]; kernel_rfl) (by kernel_rfl) ?_
    intro K hK
    simp only [AE, TY, EN, seval]
    refine hK _ _ _ ?_
    clear hK K
    refine AW_block ?_
    refine AW_loopF (fun n S => ∃ (v2 : Int), S = ⟨mkT [(1, .ptr 32 0), (3, .int .i64 v2)], mkR [(32, .box 95 [.int .i64 a1, .sl (encL EIIII a2) a2.length])], 64⟩ ∧ s_IsValidCircuit_l1 a1 a2 n v2 = some r) FU ?_ ?_ ?_
    · refine cutL ⟨_, rfl, h⟩ (Le_can [(32, some 64)] [] hρ (by kernel_rfl) ?_ ?_)
      · simp only [AL, AE, TY, EN, seval]
      · simp only [AL, AE, TY, EN, seval]
    · rintro S ⟨_, _, h⟩; rw [s_IsValidCircuit_l1] at h; cases h
    · rintro n1 S ⟨v2, rfl, h⟩
      rw [s_IsValidCircuit_l1] at h
      refine AW_seq ?_
      refine AW_rs (BR := BR) FM (by rw [hN]; kernel_rfl) (by kernel_rfl) ?_
      intro K hK
      simp only [AE, TY, EN, seval]
      refine hK _ _ _ ?_
      clear hK K
      refine AW_condK (a := .bool (decide (v2 < ((a2.length : Int))))) (by simp only [AE, TY, EN, seval]) (brK h (fun hc5 h => ?_) (fun hc5 h => ?_))
      · refine AW_skip (show AW _ _ _ _ _ from ?_)
        refine AW_seq ?_
        refine AW_block ?_
        refine AW_rs (BR := BR) FM (by rw [hN]; kernel_rfl) (by kernel_rfl) ?_
        intro K hK
        obtain ⟨q3, h7, h⟩ := bO_inv h
        obtain ⟨⟨h8a, h8b⟩, h8c⟩ := geti_E EIIIIl h7
        try simp only [AE, TY, EN, seval] at h8c
        obtain ⟨x3, h9, h⟩ := bO_inv h
        simp only [AE, TY, EN, seval, h8a, h8b, h8c]
        refine rC_p (s_IsValidGate_ok h9) (by simp only [AL, AE, TY, EN, seval, h8a, h8b, h8c]) (by simp only [List.length_cons, List.length_nil, Nat.zero_add, Nat.reduceAdd, Nat.reduceLeDiff, Nat.zero_le]) (by intro j hj; exact absurd hj (Nat.not_lt_zero _)) ?_
        simp only [AE, TY, EN, seval, h8a, h8b, h8c]
        refine hK _ _ _ ?_
        clear hK K
        refine AW_condK (a := .bool (!x3)) (by simp only [AE, TY, EN, seval, h8a, h8b, h8c]) (brK h (fun hc6 h => ?_) (fun hc6 h => ?_))
        · refine AW_rs (BR := BR) FM (by rw [hN]; kernel_rfl) (by kernel_rfl) ?_
          intro K hK
          simp only [AE, TY, EN, seval]
          refine hK _ _ _ ?_
          clear hK K
          injection h with h
          subst h
          refine AW_le (Le_can (lt := [(2, .bool false)]) (lr := []) (b' := 64) [] [] hρ (by kernel_rfl) ?_ ?_) (AW_ret (end_q [] (.inr rfl) (by kernel_rfl) (by kernel_rfl) ?_))
          · simp only [AL, AE, TY, EN, seval]
          · simp only [AL, AE, TY, EN, seval]
          · simp only [AE, TY, EN, Try.results106, seval]
        · refine AW_skip (show AW _ _ _ _ _ from ?_)
          refine AW_re (BR := BR) FM (by rw [hN]; kernel_rfl) (by kernel_rfl) ?_
          intro K hK
          simp only [AE, TY, EN, seval]
          refine hK _ _ _ (show cutK _ _ _ from cutL ⟨_, rfl, h⟩ (Le_can [(32, some 32)] [] hρ (by kernel_rfl) ?_ ?_))
          · simp only [AL, AE, TY, EN, seval]
          · simp only [AL, AE, TY, EN, seval]
      · refine AW_exit (show cutK _ _ _ from cutL ⟨rfl, h⟩ (Le_can [(32, some 32)] [] hρ (by kernel_rfl) ?_ ?_))
        · simp only [AL, AE, TY, EN, seval]
        · simp only [AL, AE, TY, EN, seval]
  · rintro S ⟨rfl, h⟩
    unfold s_IsValidCircuit_j1 at h
    refine AW_rsJ (BR := BR) (fun S => ∃ (v3 : Bool), S = ⟨mkT [(2, .bool v3)], mkR [], 64⟩ ∧ s_IsValidCircuit_j2 v3 = some r) FM (by rw [hN]; kernel_rfl) (by kernel_rfl) ?_ ?_
    · intro K hK
      obtain ⟨x4, h10, h⟩ := bO_inv h
      simp only [AE, TY, EN, seval]
      refine rC_p (s_l1In_ok h10) (by simp only [AL, AE, TY, EN, seval]) (by simp only [List.length_cons, List.length_nil, Nat.zero_add, Nat.reduceAdd, Nat.reduceLeDiff, Nat.zero_le]) (by intro j hj; exact absurd hj (Nat.not_lt_zero _)) ?_
      obtain ⟨x5, hv1, h⟩ := bO_inv h
      rcases br_inv hv1 with ⟨hc7, hv1⟩ | ⟨hc7, hv1⟩
      · cases hv1
        simp only [AE, TY, EN, seval, hc7]
        refine hK _ _ _ (show cutK _ _ _ from cutL ⟨_, rfl, h⟩ (Le_can [] [] hρ (by kernel_rfl) ?_ ?_))
        · simp only [AL, AE, TY, EN, seval, hc7]
        · simp only [AL, AE, TY, EN, seval, hc7]
      · cases hv1
        simp only [AE, TY, EN, seval, hc7]
        refine hK _ _ _ (show cutK _ _ _ from cutL ⟨_, rfl, h⟩ (Le_can [] [] hρ (by kernel_rfl) ?_ ?_))
        · simp only [AL, AE, TY, EN, seval, hc7]
        · simp only [AL, AE, TY, EN, seval, hc7]
    · rintro S ⟨v3, rfl, h⟩
      unfold s_IsValidCircuit_j2 at h
      injection h with h
      subst h
      refine AW_le (Le_can (lt := [(2, .bool v3)]) (lr := []) (b' := 64) [] [] hρ (by kernel_rfl) ?_ ?_) (AW_ret (end_q [] (.inr rfl) (by kernel_rfl) (by kernel_rfl) ?_))
      · simp only [AL, AE, TY, EN, seval]
      · simp only [AL, AE, TY, EN, seval]
      · simp only [AE, TY, EN, Try.results106, seval]
/- spec.IdentityTableau -/
def s_IdentityTableau_j1 (a1 : Int) (v5 : List (Int × Int × Int × Int)) : Option (Int × List (Int × Int × Int × Int)) :=
  some (a1, v5)
def s_IdentityTableau_l1 (a1 : Int) : Nat → Int → (List (Int × Int × Int × Int)) → Option (Int × List (Int × Int × Int × Int))
  | 0, _, _ => none
  | n1 + 1, v3, v4 =>
  br (decide (v3 < (IntKind.wrap .i64 (2 * a1)))) (gd (decide (a1 ≠ 0)) (bO (s_l25Single a1 (Int.tmod v3 a1) (decide (a1 ≤ v3))) fun x4 => gd (decide (v4.length + ([(x4.1, x4.2.1, x4.2.2.1, x4.2.2.2)]).length ≤ 16777216)) ((s_IdentityTableau_l1 a1 n1) (IntKind.wrap .i64 (v3 + 1)) (v4 ++ ([(x4.1, x4.2.1, x4.2.2.1, x4.2.2.2)]))))) (s_IdentityTableau_j1 a1 v4)
def s_IdentityTableau (a1 : Int) : Option (Int × List (Int × Int × Int × Int)) :=
  bO (s_l1In a1 1 4) fun x1 => br (!x1) (some (0, [])) (s_IdentityTableau_l1 a1 FU 0 ([] : List (Int × Int × Int × Int)))
set_option maxHeartbeats 4000000 in
theorem s_IdentityTableau_ok {a1 : Int} {r : Int × List (Int × Int × Int × Int)} (h : s_IdentityTableau a1 = some r) :
    Spec Try.prog 107 [.int .i64 a1] [] (.agg [.int .i64 r.1, .own 0 r.2.length]) [.row 28 4 (encL EIIII r.2)] := by
  unfold s_IdentityTableau at h
  refine spec_of Try.func107 rfl (by kernel_rfl) (by simp only [Try.ntmps107, List.length_cons, List.length_nil, Nat.reduceAdd, Nat.reduceLeDiff]) ?_
  intro C hN hρ
  rw [Try.ntmps107] at hN
  unfold st0
  simp only [tmps0, Nat.zero_add, Nat.reduceAdd]
  refine AW_rs (BR := BR) FM (by rw [hN]; kernel_rfl) (by kernel_rfl) ?_
  intro K hK
  simp only [AE, TY, EN, seval]
  refine hK _ _ _ ?_
  clear hK K
  refine AW_seq ?_
  refine AW_rs (BR := BR) FM (by rw [hN]; kernel_rfl) (by kernel_rfl) ?_
  intro K hK
  obtain ⟨x1, h1, h⟩ := bO_inv h
  simp only [AE, TY, EN, seval]
  refine rC_p (s_l1In_ok h1) (by simp only [AL, AE, TY, EN, seval]) (by simp only [List.length_cons, List.length_nil, Nat.zero_add, Nat.reduceAdd, Nat.reduceLeDiff, Nat.zero_le]) (by intro j hj; exact absurd hj (Nat.not_lt_zero _)) ?_
  simp only [AE, TY, EN, seval]
  refine hK _ _ _ ?_
  clear hK K
  refine AW_condK (a := .bool (!x1)) (by simp only [AE, TY, EN, seval]) (brK h (fun hc1 h => ?_) (fun hc1 h => ?_))
  · refine AW_rs (BR := BR) FM (by rw [hN]; kernel_rfl) (by kernel_rfl) ?_
    intro K hK
    simp only [AE, TY, EN, seval]
    refine hK _ _ _ ?_
    clear hK K
    injection h with h
    subst h
    refine AW_le (Le_can (lt := [(2, .ptr 32 0)]) (lr := [(32, .box 33 [.int .i64 0, .own 33 0]), (33, .row 28 4 (encL EIIII ([])))]) (b' := 64) [(32, some 64), (33, none)] [] hρ (by kernel_rfl) ?_ ?_) (AW_ret (end_q [33] (.inr rfl) (by kernel_rfl) (by kernel_rfl) ?_))
    · simp only [AL, AE, TY, EN, seval]
    · simp only [AL, AE, TY, EN, seval]
    · simp only [AE, TY, EN, Try.results107, seval]
  · refine AW_skip (show AW _ _ _ _ _ from ?_)
    refine AW_rs (BR := BR) FM (by rw [hN]; kernel_rfl) (by kernel_rfl) ?_
    intro K hK
    simp only [AE, TY, EN, seval]
    refine hK _ _ _ ?_
    clear hK K
    refine AW_cutK (fun S => ∃ (v5 : List (Int × Int × Int × Int)), S = ⟨mkT [(2, .ptr 32 0), (3, .ptr 33 0)], mkR [(32, .box 33 [.int .i64 0, .nil]), (33, .box 33 [.int .i64 a1, .own 34 v5.length]), (34, .row 28 4 (encL EIIII v5))], 64⟩ ∧ s_IdentityTableau_j1 a1 v5 = some r) ?_ ?_
    · refine AW_rs (BR := BR) FM (by rw [hN]; kernel_rfl) (by kernel_rfl) ?_
      intro K hK
      simp only [AE, TY, EN, seval]
      refine hK _ _ _ ?_
      clear hK K
      refine AW_block ?_
      refine AW_loopF (fun n S => ∃ (v3 : Int) (v4 : List (Int × Int × Int × Int)), S = ⟨mkT [(0, .int .i64 a1), (2, .ptr 32 0), (3, .ptr 33 0), (4, .int .i64 v3)], mkR [(32, .box 33 [.int .i64 0, .nil]), (33, .box 33 [.int .i64 a1, .own 34 v4.length]), (34, .row 28 4 (encL EIIII v4))], 64⟩ ∧ s_IdentityTableau_l1 a1 n v3 v4 = some r) FU ?_ ?_ ?_
      · refine cutL ⟨_, _, rfl, h⟩ (Le_can [(32, some 64), (33, some 2144), (34, none)] [] hρ (by kernel_rfl) ?_ ?_)
        · simp only [AL, AE, TY, EN, seval]
        · simp only [AL, AE, TY, EN, seval]
      · rintro S ⟨_, _, _, h⟩; rw [s_IdentityTableau_l1] at h; cases h
      · rintro n1 S ⟨v3, v4, rfl, h⟩
        rw [s_IdentityTableau_l1] at h
        refine AW_seq ?_
        refine AW_rs (BR := BR) FM (by rw [hN]; kernel_rfl) (by kernel_rfl) ?_
        intro K hK
        simp only [AE, TY, EN, seval]
        refine hK _ _ _ ?_
        clear hK K
        refine AW_condK (a := .bool (decide (v3 < (IntKind.wrap .i64 (2 * a1))))) (by simp only [AE, TY, EN, seval]) (brK h (fun hc4 h => ?_) (fun hc4 h => ?_))
        · refine AW_skip (show AW _ _ _ _ _ from ?_)
          refine AW_seq ?_
          refine AW_block ?_
          refine AW_re (BR := BR) FM (by rw [hN]; kernel_rfl) (by kernel_rfl) ?_
          intro K hK
          obtain ⟨h8, h⟩ := gd_inv h
          replace h8 := of_decide_eq_true h8
          obtain ⟨x4, h9, h⟩ := bO_inv h
          simp only [AE, TY, EN, seval, h8]
          refine rC_p (s_l25Single_ok h9) (by simp only [AL, AE, TY, EN, seval, h8]) (by simp only [List.length_cons, List.length_nil, Nat.zero_add, Nat.reduceAdd, Nat.reduceLeDiff, Nat.zero_le]) (by intro j hj; exact absurd hj (Nat.not_lt_zero _)) ?_
          obtain ⟨h10, h⟩ := gd_inv h
          replace h10 := of_decide_eq_true h10
          try simp only [AE, TY, EN, seval] at h10
          simp only [AE, TY, EN, seval, h8, h10]
          refine hK _ _ _ (show AW _ _ _ _ _ from ?_)
          refine AW_re (BR := BR) FM (by rw [hN]; kernel_rfl) (by kernel_rfl) ?_
          intro K hK
          simp only [AE, TY, EN, seval]
          refine hK _ _ _ (show cutK _ _ _ from cutL ⟨_, _, rfl, h⟩ (Le_can [(32, some 32), (33, some 33), (34, some 1264)] [] hρ (by kernel_rfl) ?_ ?_))
          · simp only [AL, AE, TY, EN, seval]
          · simp only [AL, AE, TY, EN, seval]
        · refine AW_exit (show cutK _ _ _ from cutL ⟨_, rfl, h⟩ (Le_can [(32, some 32), (33, some 33), (34, some 34)] [] hρ (by kernel_rfl) ?_ ?_))
          · simp only [AL, AE, TY, EN, seval]
          · simp only [AL, AE, TY, EN, seval]
    · rintro S ⟨v5, rfl, h⟩
      unfold s_IdentityTableau_j1 at h
      refine AW_rs (BR := BR) FM (by rw [hN]; kernel_rfl) (by kernel_rfl) ?_
      intro K hK
      simp only [AE, TY, EN, seval]
      refine hK _ _ _ ?_
      clear hK K
      injection h with h
      subst h
      refine AW_le (Le_can (lt := [(2, .ptr 32 0)]) (lr := [(32, .box 33 [.int .i64 a1, .own 33 v5.length]), (33, .row 28 4 (encL EIIII v5))]) (b' := 64) [(32, some 32), (33, some 34)] [] hρ (by kernel_rfl) ?_ ?_) (AW_ret (end_q [33] (.inr rfl) (by kernel_rfl) (by kernel_rfl) ?_))
      · simp only [AL, AE, TY, EN, seval]
      · simp only [AL, AE, TY, EN, seval]
      · simp only [AE, TY, EN, Try.results107, seval]
/- spec.CircuitTableau -/
def s_CircuitTableau_j1 (v7 : Int) (v8 : List (Int × Int × Int × Int)) : Option (Int × List (Int × Int × Int × Int) × Bool) :=
  some (v7, v8, true)
def s_CircuitTableau_l1 (a2 : List (Int × Int × Int × Int)) : Nat → Int → Int → (List (Int × Int × Int × Int)) → Option (Int × List (Int × Int × Int × Int) × Bool)
  | 0, _, _, _ => none
  | n1 + 1, v4, v5, v6 =>
  br (decide (v4 < ((a2.length : Int)))) (bO (geti a2 v4) fun q3 => bO (s_TableauApplyGate v5 v6 q3.1 q3.2.1 q3.2.2.1 q3.2.2.2) fun x5 => br (!x5.2.2) (some (0, [], false)) ((s_CircuitTableau_l1 a2 n1) (IntKind.wrap .i64 (v4 + 1)) x5.1 x5.2.1)) (s_CircuitTableau_j1 v5 v6)
def s_CircuitTableau (a1 : Int) (a2 : List (Int × Int × Int × Int)) : Option (Int × List (Int × Int × Int × Int) × Bool) :=
  bO (s_IsValidCircuit a1 a2) fun x1 => br (!x1) (some (0, [], false)) (bO (s_IdentityTableau a1) fun x2 => s_CircuitTableau_l1 a2 FU 0 x2.1 x2.2)
set_option maxHeartbeats 4000000 in
theorem s_CircuitTableau_ok {a1 : Int} {a2 : List (Int × Int × Int × Int)} {r : Int × List (Int × Int × Int × Int) × Bool} (h : s_CircuitTableau a1 a2 = some r) :
    Spec Try.prog 62 [.agg [.int .i64 a1, .sl (encL EIIII a2) a2.length]] [] (.tup [.agg [.int .i64 r.1, .own 0 r.2.1.length], .bool r.2.2]) [.row 28 4 (encL EIIII r.2.1)] := by
  unfold s_CircuitTableau at h
  refine spec_of Try.func62 rfl (by kernel_rfl) (by simp only [Try.ntmps62, List.length_cons, List.length_nil, Nat.reduceAdd, Nat.reduceLeDiff]) ?_
  intro C hN hρ
  rw [Try.ntmps62] at hN
  unfold st0
  simp only [tmps0, Nat.zero_add, Nat.reduceAdd]
  refine AW_rs (BR := BR) FM (by rw [hN]; kernel_rfl) (by kernel_rfl) ?_
  intro K hK
  simp only [AE, TY, EN, seval]
  refine hK _ _ _ ?_
  clear hK K
  refine AW_seq ?_
  refine AW_rs (BR := BR) FM (by rw [hN]; kernel_rfl) (by kernel_rfl) ?_
  intro K hK
  obtain ⟨x1, h1, h⟩ := bO_inv h
  simp only [AE, TY, EN, seval]
  refine rC_p (s_IsValidCircuit_ok h1) (by simp only [AL, AE, TY, EN, seval]) (by simp only [List.length_cons, List.length_nil, Nat.zero_add, Nat.reduceAdd, Nat.reduceLeDiff, Nat.zero_le]) (by intro j hj; exact absurd hj (Nat.not_lt_zero _)) ?_
  simp only [AE, TY, EN, seval]
  refine hK _ _ _ ?_
  clear hK K
  refine AW_condK (a := .bool (!x1)) (by simp only [AE, TY, EN, seval]) (brK h (fun hc1 h => ?_) (fun hc1 h => ?_))
  · refine AW_rs (BR := BR) FM (by rw [hN]; kernel_rfl) (by kernel_rfl) ?_
    intro K hK
    simp only [AE, TY, EN, seval]
    refine hK _ _ _ ?_
    clear hK K
    injection h with h
    subst h
    refine AW_le (Le_can (lt := [(2, .ptr 32 0), (3, .bool false)]) (lr := [(32, .box 33 [.int .i64 0, .own 33 0]), (33, .row 28 4 (encL EIIII ([])))]) (b' := 64) [(32, some 80), (33, none)] [] hρ (by kernel_rfl) ?_ ?_) (AW_ret (end_q [33] (.inr rfl) (by kernel_rfl) (by kernel_rfl) ?_))
    · simp only [AL, AE, TY, EN, seval]
    · simp only [AL, AE, TY, EN, seval]
    · simp only [AE, TY, EN, Try.results62, seval]
  · refine AW_skip (show AW _ _ _ _ _ from ?_)
    refine AW_rs (BR := BR) FM (by rw [hN]; kernel_rfl) (by kernel_rfl) ?_
    intro K hK
    obtain ⟨x2, h2, h⟩ := bO_inv h
    simp only [AE, TY, EN, seval]
    refine rC_p (s_IdentityTableau_ok h2) (by simp only [AL, AE, TY, EN, seval]) (by simp only [List.length_cons, List.length_nil, Nat.zero_add, Nat.reduceAdd, Nat.reduceLeDiff, Nat.zero_le]) (site_1 (by simp only [AE, TY, EN, seval])) ?_
    simp only [AE, TY, EN, seval]
    refine hK _ _ _ ?_
    clear hK K
    refine AW_cutK (fun S => ∃ (v7 : Int) (v8 : List (Int × Int × Int × Int)), S = ⟨mkT [(2, .ptr 32 0), (4, .ptr 33 0)], mkR [(32, .box 33 [.int .i64 0, .nil]), (33, .box 33 [.int .i64 v7, .own 34 v8.length]), (34, .row 28 4 (encL EIIII v8))], 64⟩ ∧ s_CircuitTableau_j1 v7 v8 = some r) ?_ ?_
    · refine AW_rs (BR := BR) FM (by rw [hN]; kernel_rfl) (by kernel_rfl) ?_
      intro K hK
      simp only [AE, TY, EN, seval]
      refine hK _ _ _ ?_
      clear hK K
      refine AW_block ?_
      refine AW_loopF (fun n S => ∃ (v4 : Int) (v5 : Int) (v6 : List (Int × Int × Int × Int)), S = ⟨mkT [(1, .ptr 32 0), (2, .ptr 33 0), (4, .ptr 34 0), (5, .int .i64 v4)], mkR [(32, .box 95 [.int .i64 a1, .sl (encL EIIII a2) a2.length]), (33, .box 33 [.int .i64 0, .nil]), (34, .box 33 [.int .i64 v5, .own 35 v6.length]), (35, .row 28 4 (encL EIIII v6))], 64⟩ ∧ s_CircuitTableau_l1 a2 n v4 v5 v6 = some r) FU ?_ ?_ ?_
      · refine cutL ⟨_, _, _, rfl, h⟩ (Le_can [(32, some 64), (33, some 80), (34, some 2160), (35, some 2144)] [] hρ (by kernel_rfl) ?_ ?_)
        · simp only [AL, AE, TY, EN, seval]
        · simp only [AL, AE, TY, EN, seval]
      · rintro S ⟨_, _, _, _, h⟩; rw [s_CircuitTableau_l1] at h; cases h
      · rintro n1 S ⟨v4, v5, v6, rfl, h⟩
        rw [s_CircuitTableau_l1] at h
        refine AW_seq ?_
        refine AW_rs (BR := BR) FM (by rw [hN]; kernel_rfl) (by kernel_rfl) ?_
        intro K hK
        simp only [AE, TY, EN, seval]
        refine hK _ _ _ ?_
        clear hK K
        refine AW_condK (a := .bool (decide (v4 < ((a2.length : Int))))) (by simp only [AE, TY, EN, seval]) (brK h (fun hc6 h => ?_) (fun hc6 h => ?_))
        · refine AW_skip (show AW _ _ _ _ _ from ?_)
          refine AW_seq ?_
          refine AW_block ?_
          refine AW_rs (BR := BR) FM (by rw [hN]; kernel_rfl) (by kernel_rfl) ?_
          intro K hK
          obtain ⟨q3, h9, h⟩ := bO_inv h
          obtain ⟨⟨h10a, h10b⟩, h10c⟩ := geti_E EIIIIl h9
          try simp only [AE, TY, EN, seval] at h10c
          obtain ⟨x5, h11, h⟩ := bO_inv h
          simp only [AE, TY, EN, seval, h10a, h10b, h10c]
          refine rC_l (s_TableauApplyGate_ok h11) (by simp only [AL, AE, TY, EN, seval, h10a, h10b, h10c]) (by simp only [AL, EF, and_self]) (by simp only [List.length_cons, List.length_nil, Nat.zero_add, Nat.reduceAdd, Nat.reduceLeDiff, Nat.zero_le]) (site_1 (by simp only [AE, TY, EN, seval])) ?_
          simp only [AE, TY, EN, seval, h10a, h10b, h10c]
          refine hK _ _ _ ?_
          clear hK K
          refine AW_seq ?_
          refine AW_rs (BR := BR) FM (by rw [hN]; kernel_rfl) (by kernel_rfl) ?_
          intro K hK
          simp only [AE, TY, EN, seval]
          refine hK _ _ _ ?_
          clear hK K
          refine AW_condK (a := .bool (!x5.2.2)) (by simp only [AE, TY, EN, seval]) (brK h (fun hc7 h => ?_) (fun hc7 h => ?_))
          · refine AW_rs (BR := BR) FM (by rw [hN]; kernel_rfl) (by kernel_rfl) ?_
            intro K hK
            simp only [AE, TY, EN, seval]
            refine hK _ _ _ ?_
            clear hK K
            injection h with h
            subst h
            refine AW_le (Le_can (lt := [(2, .ptr 32 0), (3, .bool false)]) (lr := [(32, .box 33 [.int .i64 0, .own 33 0]), (33, .row 28 4 (encL EIIII ([])))]) (b' := 64) [(32, some 33), (33, none)] [] hρ (by kernel_rfl) ?_ ?_) (AW_ret (end_q [33] (.inr rfl) (by kernel_rfl) (by kernel_rfl) ?_))
            · simp only [AL, AE, TY, EN, seval]
            · simp only [AL, AE, TY, EN, seval]
            · simp only [AE, TY, EN, Try.results62, seval]
          · refine AW_skip (show AW _ _ _ _ _ from ?_)
            refine AW_re (BR := BR) FM (by rw [hN]; kernel_rfl) (by kernel_rfl) ?_
            intro K hK
            simp only [AE, TY, EN, seval]
            refine hK _ _ _ (show AW _ _ _ _ _ from ?_)
            refine AW_re (BR := BR) FM (by rw [hN]; kernel_rfl) (by kernel_rfl) ?_
            intro K hK
            simp only [AE, TY, EN, seval]
            refine hK _ _ _ (show cutK _ _ _ from cutL ⟨_, _, _, rfl, h⟩ (Le_can [(32, some 32), (33, some 33), (34, some 34), (35, some 1184)] [] hρ (by kernel_rfl) ?_ ?_))
            · simp only [AL, AE, TY, EN, seval]
            · simp only [AL, AE, TY, EN, seval]
        · refine AW_exit (show cutK _ _ _ from cutL ⟨_, _, rfl, h⟩ (Le_can [(32, some 33), (33, some 34), (34, some 35)] [] hρ (by kernel_rfl) ?_ ?_))
          · simp only [AL, AE, TY, EN, seval]
          · simp only [AL, AE, TY, EN, seval]
    · rintro S ⟨v7, v8, rfl, h⟩
      unfold s_CircuitTableau_j1 at h
      refine AW_rs (BR := BR) FM (by rw [hN]; kernel_rfl) (by kernel_rfl) ?_
      intro K hK
      simp only [AE, TY, EN, seval]
      refine hK _ _ _ ?_
      clear hK K
      injection h with h
      subst h
      refine AW_le (Le_can (lt := [(2, .ptr 32 0), (3, .bool true)]) (lr := [(32, .box 33 [.int .i64 v7, .own 33 v8.length]), (33, .row 28 4 (encL EIIII v8))]) (b' := 64) [(32, some 32), (33, some 34)] [] hρ (by kernel_rfl) ?_ ?_) (AW_ret (end_q [33] (.inr rfl) (by kernel_rfl) (by kernel_rfl) ?_))
      · simp only [AL, AE, TY, EN, seval]
      · simp only [AL, AE, TY, EN, seval]
      · simp only [AE, TY, EN, Try.results62, seval]
/- impl.IsValidCircuit -/
def i_IsValidCircuit_j2 : Option Bool :=
  some true
def i_IsValidCircuit_l1 (a1 : Int) (a2 : List (Int × Int × Int × Int)) : Nat → Int → Int → Option Bool
  | 0, _, _ => none
  | n1 + 1, v5, v6 =>
  br (decide (v6 < v5)) (bO (geti a2 v6) fun q3 => bO (i_IsValidGate q3.1 q3.2.1 q3.2.2.1 q3.2.2.2 a1) fun x5 => br (!x5) (some false) ((i_IsValidCircuit_l1 a1 a2 n1) v5 (IntKind.wrap .i64 (v6 + 1)))) (i_IsValidCircuit_j2)
def i_IsValidCircuit_j1 (a1 : Int) (a2 : List (Int × Int × Int × Int)) (v1 : Bool) : Option Bool :=
  br v1 (some false) (i_IsValidCircuit_l1 a1 a2 FU ((a2.length : Int)) 0)
def i_IsValidCircuit (a1 : Int) (a2 : List (Int × Int × Int × Int)) : Option Bool :=
  bO (i_in a1 1 4) fun x1 => bO (br (!x1) (some true) (some (decide (60 < ((a2.length : Int)))))) fun x2 => i_IsValidCircuit_j1 a1 a2 x2
set_option maxHeartbeats 4000000 in
theorem i_IsValidCircuit_ok {a1 : Int} {a2 : List (Int × Int × Int × Int)} {r : Bool} (h : i_IsValidCircuit a1 a2 = some r) :
    Spec Try.prog 108 [.agg [.int .i64 a1, .sl (encL EIIII a2) a2.length]] [] (.bool r) [] := by
  unfold i_IsValidCircuit at h
  refine spec_of Try.func108 rfl (by kernel_rfl) (by simp only [Try.ntmps108, List.length_cons, List.length_nil, Nat.reduceAdd, Nat.reduceLeDiff]) ?_
  intro C hN hρ
  rw [Try.ntmps108] at hN
  unfold st0
  simp only [tmps0, Nat.zero_add, Nat.reduceAdd]
  refine AW_rs (BR := BR) FM (by rw [hN]; kernel_rfl) (by kernel_rfl) ?_
  intro K hK
  simp only [AE, TY, EN, seval]
  refine hK _ _ _ ?_
  clear hK K
  refine AW_seq ?_
  refine AW_rsJ (BR := BR) (fun S => ∃ (v1 : Bool), S = ⟨mkT [(1, .ptr 32 0), (14, .bool v1)], mkR [(32, .box 95 [.int .i64 a1, .sl (encL EIIII a2) a2.length])], 64⟩ ∧ i_IsValidCircuit_j1 a1 a2 v1 = some r) FM (by rw [hN]; kernel_rfl) (by kernel_rfl) ?_ ?_
  · intro K hK
    obtain ⟨x1, h1, h⟩ := bO_inv h
    simp only [AE, TY, EN, seval]
    refine rC_p (i_in_ok h1) (by simp only [AL, AE, TY, EN, seval]) (by simp only [List.length_cons, List.length_nil, Nat.zero_add, Nat.reduceAdd, Nat.reduceLeDiff, Nat.zero_le]) (by intro j hj; exact absurd hj (Nat.not_lt_zero _)) ?_
    obtain ⟨x2, hv1, h⟩ := bO_inv h
    rcases br_inv hv1 with ⟨hc1, hv1⟩ | ⟨hc1, hv1⟩
    · cases hv1
      simp only [AE, TY, EN, seval, hc1]
      refine hK _ _ _ (show cutK _ _ _ from cutL ⟨_, rfl, h⟩ (Le_can [(32, some 64)] [] hρ (by kernel_rfl) ?_ ?_))
      · simp only [AL, AE, TY, EN, seval, hc1]
      · simp only [AL, AE, TY, EN, seval, hc1]
    · cases hv1
      simp only [AE, TY, EN, seval, hc1]
      refine hK _ _ _ (show cutK _ _ _ from cutL ⟨_, rfl, h⟩ (Le_can [(32, some 64)] [] hρ (by kernel_rfl) ?_ ?_))
      · simp only [AL, AE, TY, EN, seval, hc1]
      · simp only [AL, AE, TY, EN, seval, hc1]
  · rintro S ⟨v1, rfl, h⟩
    unfold i_IsValidCircuit_j1 at h
    refine AW_condK (a := .bool v1) (by simp only [AE, TY, EN, seval]) (brK h (fun hc2 h => ?_) (fun hc2 h => ?_))
    · refine AW_rs (BR := BR) FM (by rw [hN]; kernel_rfl) (by kernel_rfl) ?_
      intro K hK
      simp only [AE, TY, EN, seval]
      refine hK _ _ _ ?_
      clear hK K
      injection h with h
      subst h
      refine AW_le (Le_can (lt := [(2, .bool false)]) (lr := []) (b' := 64) [] [] hρ (by kernel_rfl) ?_ ?_) (AW_ret (end_q [] (.inr rfl) (by kernel_rfl) (by kernel_rfl) ?_))
      · simp only [AL, AE, TY, EN, seval]
      · simp only [AL, AE, TY, EN, seval]
      · simp only [AE, TY, EN, Try.results108, seval]
    · refine AW_skip (show AW _ _ _ _ _ from ?_)
      refine AW_cutK (fun S => S = ⟨mkT [], mkR [], 64⟩ ∧ i_IsValidCircuit_j2 = some r) ?_ ?_
      · refine AW_rs (BR := BR) FM (by rw [hN]; kernel_rfl) (by kernel_rfl) ?_
        intro K hK
        simp only [AE, TY, EN, seval]
        refine hK _ _ _ ?_
        clear hK K
        refine AW_block ?_
        refine AW_loopF (fun n S => ∃ (v5 : Int) (v6 : Int), S = ⟨mkT [(1, .ptr 32 0), (16, .sl (encL EIIII a2) a2.length), (17, .int .i64 v5), (18, .int .i64 v6)], mkR [(32, .box 95 [.int .i64 a1, .sl (encL EIIII a2) a2.length])], 64⟩ ∧ i_IsValidCircuit_l1 a1 a2 n v5 v6 = some r) FU ?_ ?_ ?_
        · refine cutL ⟨_, _, rfl, h⟩ (Le_can [(32, some 32)] [] hρ (by kernel_rfl) ?_ ?_)
          · simp only [AL, AE, TY, EN, seval]
          · simp only [AL, AE, TY, EN, seval]
        · rintro S ⟨_, _, _, h⟩; rw [i_IsValidCircuit_l1] at h; cases h
        · rintro n1 S ⟨v5, v6, rfl, h⟩
          rw [i_IsValidCircuit_l1] at h
          refine AW_rs (BR := BR) FM (by rw [hN]; kernel_rfl) (by kernel_rfl) ?_
          intro K hK
          simp only [AE, TY, EN, seval]
          refine hK _ _ _ ?_
          clear hK K
          refine AW_seq ?_
          refine AW_condK (a := .bool (decide (v6 < v5))) (by simp only [AE, TY, EN, seval]) (brK h (fun hc7 h => ?_) (fun hc7 h => ?_))
          · refine AW_skip (show AW _ _ _ _ _ from ?_)
            refine AW_seq ?_
            refine AW_block ?_
            refine AW_rs (BR := BR) FM (by rw [hN]; kernel_rfl) (by kernel_rfl) ?_
            intro K hK
            obtain ⟨q3, h8, h⟩ := bO_inv h
            obtain ⟨⟨h9a, h9b⟩, h9c⟩ := geti_E EIIIIl h8
            try simp only [AE, TY, EN, seval] at h9c
            simp only [AE, TY, EN, seval, h9a, h9b, h9c]
            refine hK _ _ _ ?_
            clear hK K
            refine AW_rs (BR := BR) FM (by rw [hN]; kernel_rfl) (by kernel_rfl) ?_
            intro K hK
            obtain ⟨x5, h10, h⟩ := bO_inv h
            simp only [AE, TY, EN, seval]
            refine rC_p (i_IsValidGate_ok h10) (by simp only [AL, AE, TY, EN, seval]) (by simp only [List.length_cons, List.length_nil, Nat.zero_add, Nat.reduceAdd, Nat.reduceLeDiff, Nat.zero_le]) (by intro j hj; exact absurd hj (Nat.not_lt_zero _)) ?_
            simp only [AE, TY, EN, seval]
            refine hK _ _ _ ?_
            clear hK K
            refine AW_condK (a := .bool (!x5)) (by simp only [AE, TY, EN, seval]) (brK h (fun hc8 h => ?_) (fun hc8 h => ?_))
            · refine AW_rs (BR := BR) FM (by rw [hN]; kernel_rfl) (by kernel_rfl) ?_
              intro K hK
              simp only [AE, TY, EN, seval]
              refine hK _ _ _ ?_
              clear hK K
              injection h with h
              subst h
              refine AW_le (Le_can (lt := [(2, .bool false)]) (lr := []) (b' := 64) [] [] hρ (by kernel_rfl) ?_ ?_) (AW_ret (end_q [] (.inr rfl) (by kernel_rfl) (by kernel_rfl) ?_))
              · simp only [AL, AE, TY, EN, seval]
              · simp only [AL, AE, TY, EN, seval]
              · simp only [AE, TY, EN, Try.results108, seval]
            · refine AW_skip (show AW _ _ _ _ _ from ?_)
              refine AW_re (BR := BR) FM (by rw [hN]; kernel_rfl) (by kernel_rfl) ?_
              intro K hK
              simp only [AE, TY, EN, seval]
              refine hK _ _ _ (show cutK _ _ _ from cutL ⟨_, _, rfl, h⟩ (Le_can [(32, some 32)] [] hρ (by kernel_rfl) ?_ ?_))
              · simp only [AL, AE, TY, EN, seval]
              · simp only [AL, AE, TY, EN, seval]
          · refine AW_exit (show cutK _ _ _ from cutL ⟨rfl, h⟩ (Le_can [] [] hρ (by kernel_rfl) ?_ ?_))
            · simp only [AL, AE, TY, EN, seval]
            · simp only [AL, AE, TY, EN, seval]
      · rintro S ⟨rfl, h⟩
        unfold i_IsValidCircuit_j2 at h
        refine AW_rs (BR := BR) FM (by rw [hN]; kernel_rfl) (by kernel_rfl) ?_
        intro K hK
        simp only [AE, TY, EN, seval]
        refine hK _ _ _ ?_
        clear hK K
        injection h with h
        subst h
        refine AW_le (Le_can (lt := [(2, .bool true)]) (lr := []) (b' := 64) [] [] hρ (by kernel_rfl) ?_ ?_) (AW_ret (end_q [] (.inr rfl) (by kernel_rfl) (by kernel_rfl) ?_))
        · simp only [AL, AE, TY, EN, seval]
        · simp only [AL, AE, TY, EN, seval]
        · simp only [AE, TY, EN, Try.results108, seval]
/- impl.IdentityTableau -/
def i_IdentityTableau_j2 (a1 : Int) (v10 : List (Int × Int × Int × Int)) : Option (Int × List (Int × Int × Int × Int)) :=
  some (a1, v10)
def i_IdentityTableau_l2 (a1 : Int) : Nat → Int → (List (Int × Int × Int × Int)) → Option (Int × List (Int × Int × Int × Int))
  | 0, _, _ => none
  | n2 + 1, v8, v9 =>
  br (decide (v8 < a1)) (gd (decide (¬ v8 < 0)) (gd (decide (v9.length + ([(a1, 0, IntKind.wrap .i64 (1 * 2 ^ min (Int.toNat v8) (IntKind.bits .i64)), 0)]).length ≤ 16777216)) ((i_IdentityTableau_l2 a1 n2) (IntKind.wrap .i64 (v8 + 1)) (v9 ++ ([(a1, 0, IntKind.wrap .i64 (1 * 2 ^ min (Int.toNat v8) (IntKind.bits .i64)), 0)]))))) (i_IdentityTableau_j2 a1 v9)
def i_IdentityTableau_j1 (a1 : Int) (v5 : List (Int × Int × Int × Int)) : Option (Int × List (Int × Int × Int × Int)) :=
  i_IdentityTableau_l2 a1 FU 0 v5
def i_IdentityTableau_l1 (a1 : Int) : Nat → Int → (List (Int × Int × Int × Int)) → Option (Int × List (Int × Int × Int × Int))
  | 0, _, _ => none
  | n1 + 1, v3, v4 =>
  br (decide (v3 < a1)) (gd (decide (¬ v3 < 0)) (gd (decide (v4.length + ([(a1, IntKind.wrap .i64 (1 * 2 ^ min (Int.toNat v3) (IntKind.bits .i64)), 0, 0)]).length ≤ 16777216)) ((i_IdentityTableau_l1 a1 n1) (IntKind.wrap .i64 (v3 + 1)) (v4 ++ ([(a1, IntKind.wrap .i64 (1 * 2 ^ min (Int.toNat v3) (IntKind.bits .i64)), 0, 0)]))))) (i_IdentityTableau_j1 a1 v4)
def i_IdentityTableau (a1 : Int) : Option (Int × List (Int × Int × Int × Int)) :=
  bO (i_in a1 1 4) fun x1 => br (!x1) (some (0, [])) (i_IdentityTableau_l1 a1 FU 0 ([] : List (Int × Int × Int × Int)))
set_option maxHeartbeats 4000000 in
theorem i_IdentityTableau_ok {a1 : Int} {r : Int × List (Int × Int × Int × Int)} (h : i_IdentityTableau a1 = some r) :
    Spec Try.prog 100 [.int .i64 a1] [] (.agg [.int .i64 r.1, .own 0 r.2.length]) [.row 28 4 (encL EIIII r.2)] := by
  unfold i_IdentityTableau at h
  refine spec_of Try.func100 rfl (by kernel_rfl) (by simp only [Try.ntmps100, List.length_cons, List.length_nil, Nat.reduceAdd, Nat.reduceLeDiff]) ?_
  intro C hN hρ
  rw [Try.ntmps100] at hN
  unfold st0
  simp only [tmps0, Nat.zero_add, Nat.reduceAdd]
  refine AW_rs (BR := BR) FM (by rw [hN]; kernel_rfl) (by kernel_rfl) ?_
  intro K hK
  simp only [AE, TY, EN, seval]
  refine hK _ _ _ ?_
  clear hK K
  refine AW_seq ?_
  refine AW_rs (BR := BR) FM (by rw [hN]; kernel_rfl) (by kernel_rfl) ?_
  intro K hK
  obtain ⟨x1, h1, h⟩ := bO_inv h
  simp only [AE, TY, EN, seval]
  refine rC_p (i_in_ok h1) (by simp only [AL, AE, TY, EN, seval]) (by simp only [List.length_cons, List.length_nil, Nat.zero_add, Nat.reduceAdd, Nat.reduceLeDiff, Nat.zero_le]) (by intro j hj; exact absurd hj (Nat.not_lt_zero _)) ?_
  simp only [AE, TY, EN, seval]
  refine hK _ _ _ ?_
  clear hK K
  refine AW_condK (a := .bool (!x1)) (by simp only [AE, TY, EN, seval]) (brK h (fun hc1 h => ?_) (fun hc1 h => ?_))
  · refine AW_rs (BR := BR) FM (by rw [hN]; kernel_rfl) (by kernel_rfl) ?_
    intro K hK
    simp only [AE, TY, EN, seval]
    refine hK _ _ _ ?_
    clear hK K
    injection h with h
    subst h
    refine AW_le (Le_can (lt := [(2, .ptr 32 0)]) (lr := [(32, .box 33 [.int .i64 0, .own 33 0]), (33, .row 28 4 (encL EIIII ([])))]) (b' := 64) [(32, some 64), (33, none)] [] hρ (by kernel_rfl) ?_ ?_) (AW_ret (end_q [33] (.inr rfl) (by kernel_rfl) (by kernel_rfl) ?_))
    · simp only [AL, AE, TY, EN, seval]
    · simp only [AL, AE, TY, EN, seval]
    · simp only [AE, TY, EN, Try.results100, seval]
  · refine AW_skip (show AW _ _ _ _ _ from ?_)
    refine AW_rs (BR := BR) FM (by rw [hN]; kernel_rfl) (by kernel_rfl) ?_
    intro K hK
    simp only [AE, TY, EN, seval]
    refine hK _ _ _ ?_
    clear hK K
    refine AW_cutK (fun S => ∃ (v5 : List (Int × Int × Int × Int)), S = ⟨mkT [(0, .int .i64 a1), (2, .ptr 32 0), (3, .ptr 33 0)], mkR [(32, .box 33 [.int .i64 0, .nil]), (33, .box 33 [.int .i64 a1, .own 34 v5.length]), (34, .row 28 4 (encL EIIII v5))], 64⟩ ∧ i_IdentityTableau_j1 a1 v5 = some r) ?_ ?_
    · refine AW_rs (BR := BR) FM (by rw [hN]; kernel_rfl) (by kernel_rfl) ?_
      intro K hK
      simp only [AE, TY, EN, seval]
      refine hK _ _ _ ?_
      clear hK K
      refine AW_block ?_
      refine AW_loopF (fun n S => ∃ (v3 : Int) (v4 : List (Int × Int × Int × Int)), S = ⟨mkT [(0, .int .i64 a1), (2, .ptr 32 0), (3, .ptr 33 0), (4, .int .i64 v3)], mkR [(32, .box 33 [.int .i64 0, .nil]), (33, .box 33 [.int .i64 a1, .own 34 v4.length]), (34, .row 28 4 (encL EIIII v4))], 64⟩ ∧ i_IdentityTableau_l1 a1 n v3 v4 = some r) FU ?_ ?_ ?_
      · refine cutL ⟨_, _, rfl, h⟩ (Le_can [(32, some 64), (33, some 2144), (34, none)] [] hρ (by kernel_rfl) ?_ ?_)
        · simp only [AL, AE, TY, EN, seval]
        · simp only [AL, AE, TY, EN, seval]
      · rintro S ⟨_, _, _, h⟩; rw [i_IdentityTableau_l1] at h; cases h
      · rintro n1 S ⟨v3, v4, rfl, h⟩
        rw [i_IdentityTableau_l1] at h
        refine AW_seq ?_
        refine AW_rs (BR := BR) FM (by rw [hN]; kernel_rfl) (by kernel_rfl) ?_
        intro K hK
        simp only [AE, TY, EN, seval]
        refine hK _ _ _ ?_
        clear hK K
        refine AW_condK (a := .bool (decide (v3 < a1))) (by simp only [AE, TY, EN, seval]) (brK h (fun hc4 h => ?_) (fun hc4 h => ?_))
        · refine AW_skip (show AW _ _ _ _ _ from ?_)
          refine AW_seq ?_
          refine AW_block ?_
          refine AW_re (BR := BR) FM (by rw [hN]; kernel_rfl) (by kernel_rfl) ?_
          intro K hK
          obtain ⟨h5, h⟩ := gd_inv h
          replace h5 := of_decide_eq_true h5
          obtain ⟨h6, h⟩ := gd_inv h
          replace h6 := of_decide_eq_true h6
          try simp only [AE, TY, EN, seval] at h6
          simp only [AE, TY, EN, seval, h5, h6]
          refine hK _ _ _ (show AW _ _ _ _ _ from ?_)
          refine AW_re (BR := BR) FM (by rw [hN]; kernel_rfl) (by kernel_rfl) ?_
          intro K hK
          simp only [AE, TY, EN, seval]
          refine hK _ _ _ (show cutK _ _ _ from cutL ⟨_, _, rfl, h⟩ (Le_can [(32, some 32), (33, some 33), (34, some 1200)] [] hρ (by kernel_rfl) ?_ ?_))
          · simp only [AL, AE, TY, EN, seval]
          · simp only [AL, AE, TY, EN, seval]
        · refine AW_exit (show cutK _ _ _ from cutL ⟨_, rfl, h⟩ (Le_can [(32, some 32), (33, some 33), (34, some 34)] [] hρ (by kernel_rfl) ?_ ?_))
          · simp only [AL, AE, TY, EN, seval]
          · simp only [AL, AE, TY, EN, seval]
    · rintro S ⟨v5, rfl, h⟩
      unfold i_IdentityTableau_j1 at h
      refine AW_cutK (fun S => ∃ (v10 : List (Int × Int × Int × Int)), S = ⟨mkT [(2, .ptr 32 0), (3, .ptr 33 0)], mkR [(32, .box 33 [.int .i64 0, .nil]), (33, .box 33 [.int .i64 a1, .own 34 v10.length]), (34, .row 28 4 (encL EIIII v10))], 64⟩ ∧ i_IdentityTableau_j2 a1 v10 = some r) ?_ ?_
      · refine AW_rs (BR := BR) FM (by rw [hN]; kernel_rfl) (by kernel_rfl) ?_
        intro K hK
        simp only [AE, TY, EN, seval]
        refine hK _ _ _ ?_
        clear hK K
        refine AW_block ?_
        refine AW_loopF (fun n S => ∃ (v8 : Int) (v9 : List (Int × Int × Int × Int)), S = ⟨mkT [(0, .int .i64 a1), (2, .ptr 32 0), (3, .ptr 33 0), (5, .int .i64 v8)], mkR [(32, .box 33 [.int .i64 0, .nil]), (33, .box 33 [.int .i64 a1, .own 34 v9.length]), (34, .row 28 4 (encL EIIII v9))], 64⟩ ∧ i_IdentityTableau_l2 a1 n v8 v9 = some r) FU ?_ ?_ ?_
        · refine cutL ⟨_, _, rfl, h⟩ (Le_can [(32, some 32), (33, some 33), (34, some 34)] [] hρ (by kernel_rfl) ?_ ?_)
          · simp only [AL, AE, TY, EN, seval]
          · simp only [AL, AE, TY, EN, seval]
        · rintro S ⟨_, _, _, h⟩; rw [i_IdentityTableau_l2] at h; cases h
        · rintro n2 S ⟨v8, v9, rfl, h⟩
          rw [i_IdentityTableau_l2] at h
          refine AW_seq ?_
          refine AW_rs (BR := BR) FM (by rw [hN]; kernel_rfl) (by kernel_rfl) ?_
          intro K hK
          simp only [AE, TY, EN, seval]
          refine hK _ _ _ ?_
          clear hK K
          refine AW_condK (a := .bool (decide (v8 < a1))) (by simp only [AE, TY, EN, seval]) (brK h (fun hc7 h => ?_) (fun hc7 h => ?_))
          · refine AW_skip (show AW _ _ _ _ _ from ?_)
            refine AW_seq ?_
            refine AW_block ?_
            refine AW_re (BR := BR) FM (by rw [hN]; kernel_rfl) (by kernel_rfl) ?_
            intro K hK
            obtain ⟨h10, h⟩ := gd_inv h
            replace h10 := of_decide_eq_true h10
            obtain ⟨h11, h⟩ := gd_inv h
            replace h11 := of_decide_eq_true h11
            try simp only [AE, TY, EN, seval] at h11
            simp only [AE, TY, EN, seval, h10, h11]
            refine hK _ _ _ (show AW _ _ _ _ _ from ?_)
            refine AW_re (BR := BR) FM (by rw [hN]; kernel_rfl) (by kernel_rfl) ?_
            intro K hK
            simp only [AE, TY, EN, seval]
            refine hK _ _ _ (show cutK _ _ _ from cutL ⟨_, _, rfl, h⟩ (Le_can [(32, some 32), (33, some 33), (34, some 1200)] [] hρ (by kernel_rfl) ?_ ?_))
            · simp only [AL, AE, TY, EN, seval]
            · simp only [AL, AE, TY, EN, seval]
          · refine AW_exit (show cutK _ _ _ from cutL ⟨_, rfl, h⟩ (Le_can [(32, some 32), (33, some 33), (34, some 34)] [] hρ (by kernel_rfl) ?_ ?_))
            · simp only [AL, AE, TY, EN, seval]
            · simp only [AL, AE, TY, EN, seval]
      · rintro S ⟨v10, rfl, h⟩
        unfold i_IdentityTableau_j2 at h
        refine AW_rs (BR := BR) FM (by rw [hN]; kernel_rfl) (by kernel_rfl) ?_
        intro K hK
        simp only [AE, TY, EN, seval]
        refine hK _ _ _ ?_
        clear hK K
        injection h with h
        subst h
        refine AW_le (Le_can (lt := [(2, .ptr 32 0)]) (lr := [(32, .box 33 [.int .i64 a1, .own 33 v10.length]), (33, .row 28 4 (encL EIIII v10))]) (b' := 64) [(32, some 32), (33, some 34)] [] hρ (by kernel_rfl) ?_ ?_) (AW_ret (end_q [33] (.inr rfl) (by kernel_rfl) (by kernel_rfl) ?_))
        · simp only [AL, AE, TY, EN, seval]
        · simp only [AL, AE, TY, EN, seval]
        · simp only [AE, TY, EN, Try.results100, seval]
/- impl.CircuitTableau -/
def i_CircuitTableau_j1 (v10 : Int) (v11 : List (Int × Int × Int × Int)) : Option (Int × List (Int × Int × Int × Int) × Bool) :=
  some (v10, v11, true)
def i_CircuitTableau_l1 (a2 : List (Int × Int × Int × Int)) : Nat → Int → Int → Int → (List (Int × Int × Int × Int)) → Option (Int × List (Int × Int × Int × Int) × Bool)
  | 0, _, _, _, _ => none
  | n1 + 1, v6, v7, v8, v9 =>
  br (decide (v7 < v6)) (bO (geti a2 v7) fun q3 => bO (i_TableauApplyGate v8 v9 q3.1 q3.2.1 q3.2.2.1 q3.2.2.2) fun x5 => br (!x5.2.2) (some (0, [], false)) ((i_CircuitTableau_l1 a2 n1) v6 (IntKind.wrap .i64 (v7 + 1)) x5.1 x5.2.1)) (i_CircuitTableau_j1 v8 v9)
def i_CircuitTableau (a1 : Int) (a2 : List (Int × Int × Int × Int)) : Option (Int × List (Int × Int × Int × Int) × Bool) :=
  bO (i_IsValidCircuit a1 a2) fun x1 => br (!x1) (some (0, [], false)) (bO (i_IdentityTableau a1) fun x2 => i_CircuitTableau_l1 a2 FU ((a2.length : Int)) 0 x2.1 x2.2)
set_option maxHeartbeats 4000000 in
theorem i_CircuitTableau_ok {a1 : Int} {a2 : List (Int × Int × Int × Int)} {r : Int × List (Int × Int × Int × Int) × Bool} (h : i_CircuitTableau a1 a2 = some r) :
    Spec Try.prog 64 [.agg [.int .i64 a1, .sl (encL EIIII a2) a2.length]] [] (.tup [.agg [.int .i64 r.1, .own 0 r.2.1.length], .bool r.2.2]) [.row 28 4 (encL EIIII r.2.1)] := by
  unfold i_CircuitTableau at h
  refine spec_of Try.func64 rfl (by kernel_rfl) (by simp only [Try.ntmps64, List.length_cons, List.length_nil, Nat.reduceAdd, Nat.reduceLeDiff]) ?_
  intro C hN hρ
  rw [Try.ntmps64] at hN
  unfold st0
  simp only [tmps0, Nat.zero_add, Nat.reduceAdd]
  refine AW_rs (BR := BR) FM (by rw [hN]; kernel_rfl) (by kernel_rfl) ?_
  intro K hK
  simp only [AE, TY, EN, seval]
  refine hK _ _ _ ?_
  clear hK K
  refine AW_seq ?_
  refine AW_rs (BR := BR) FM (by rw [hN]; kernel_rfl) (by kernel_rfl) ?_
  intro K hK
  obtain ⟨x1, h1, h⟩ := bO_inv h
  simp only [AE, TY, EN, seval]
  refine rC_p (i_IsValidCircuit_ok h1) (by simp only [AL, AE, TY, EN, seval]) (by simp only [List.length_cons, List.length_nil, Nat.zero_add, Nat.reduceAdd, Nat.reduceLeDiff, Nat.zero_le]) (by intro j hj; exact absurd hj (Nat.not_lt_zero _)) ?_
  simp only [AE, TY, EN, seval]
  refine hK _ _ _ ?_
  clear hK K
  refine AW_condK (a := .bool (!x1)) (by simp only [AE, TY, EN, seval]) (brK h (fun hc1 h => ?_) (fun hc1 h => ?_))
  · refine AW_rs (BR := BR) FM (by rw [hN]; kernel_rfl) (by kernel_rfl) ?_
    intro K hK
    simp only [AE, TY, EN, seval]
    refine hK _ _ _ ?_
    clear hK K
    injection h with h
    subst h
    refine AW_le (Le_can (lt := [(2, .ptr 32 0), (3, .bool false)]) (lr := [(32, .box 33 [.int .i64 0, .own 33 0]), (33, .row 28 4 (encL EIIII ([])))]) (b' := 64) [(32, some 80), (33, none)] [] hρ (by kernel_rfl) ?_ ?_) (AW_ret (end_q [33] (.inr rfl) (by kernel_rfl) (by kernel_rfl) ?_))
    · simp only [AL, AE, TY, EN, seval]
    · simp only [AL, AE, TY, EN, seval]
    · simp only [AE, TY, EN, Try.results64, seval]
  · refine AW_skip (show AW _ _ _ _ _ from ?_)
    refine AW_rs (BR := BR) FM (by rw [hN]; kernel_rfl) (by kernel_rfl) ?_
    intro K hK
    obtain ⟨x2, h2, h⟩ := bO_inv h
    simp only [AE, TY, EN, seval]
    refine rC_p (i_IdentityTableau_ok h2) (by simp only [AL, AE, TY, EN, seval]) (by simp only [List.length_cons, List.length_nil, Nat.zero_add, Nat.reduceAdd, Nat.reduceLeDiff, Nat.zero_le]) (site_1 (by simp only [AE, TY, EN, seval])) ?_
    simp only [AE, TY, EN, seval]
    refine hK _ _ _ ?_
    clear hK K
    refine AW_cutK (fun S => ∃ (v10 : Int) (v11 : List (Int × Int × Int × Int)), S = ⟨mkT [(2, .ptr 32 0), (4, .ptr 33 0)], mkR [(32, .box 33 [.int .i64 0, .nil]), (33, .box 33 [.int .i64 v10, .own 34 v11.length]), (34, .row 28 4 (encL EIIII v11))], 64⟩ ∧ i_CircuitTableau_j1 v10 v11 = some r) ?_ ?_
    · refine AW_rs (BR := BR) FM (by rw [hN]; kernel_rfl) (by kernel_rfl) ?_
      intro K hK
      simp only [AE, TY, EN, seval]
      refine hK _ _ _ ?_
      clear hK K
      refine AW_block ?_
      refine AW_loopF (fun n S => ∃ (v6 : Int) (v7 : Int) (v8 : Int) (v9 : List (Int × Int × Int × Int)), S = ⟨mkT [(2, .ptr 32 0), (4, .ptr 33 0), (17, .sl (encL EIIII a2) a2.length), (18, .int .i64 v6), (19, .int .i64 v7)], mkR [(32, .box 33 [.int .i64 0, .nil]), (33, .box 33 [.int .i64 v8, .own 34 v9.length]), (34, .row 28 4 (encL EIIII v9))], 64⟩ ∧ i_CircuitTableau_l1 a2 n v6 v7 v8 v9 = some r) FU ?_ ?_ ?_
      · refine cutL ⟨_, _, _, _, rfl, h⟩ (Le_can [(32, some 80), (33, some 2160), (34, some 2144)] [] hρ (by kernel_rfl) ?_ ?_)
        · simp only [AL, AE, TY, EN, seval]
        · simp only [AL, AE, TY, EN, seval]
      · rintro S ⟨_, _, _, _, _, h⟩; rw [i_CircuitTableau_l1] at h; cases h
      · rintro n1 S ⟨v6, v7, v8, v9, rfl, h⟩
        rw [i_CircuitTableau_l1] at h
        refine AW_rs (BR := BR) FM (by rw [hN]; kernel_rfl) (by kernel_rfl) ?_
        intro K hK
        simp only [AE, TY, EN, seval]
        refine hK _ _ _ ?_
        clear hK K
        refine AW_seq ?_
        refine AW_condK (a := .bool (decide (v7 < v6))) (by simp only [AE, TY, EN, seval]) (brK h (fun hc6 h => ?_) (fun hc6 h => ?_))
        · refine AW_skip (show AW _ _ _ _ _ from ?_)
          refine AW_seq ?_
          refine AW_block ?_
          refine AW_rs (BR := BR) FM (by rw [hN]; kernel_rfl) (by kernel_rfl) ?_
          intro K hK
          obtain ⟨q3, h9, h⟩ := bO_inv h
          obtain ⟨⟨h10a, h10b⟩, h10c⟩ := geti_E EIIIIl h9
          try simp only [AE, TY, EN, seval] at h10c
          simp only [AE, TY, EN, seval, h10a, h10b, h10c]
          refine hK _ _ _ ?_
          clear hK K
          refine AW_rs (BR := BR) FM (by rw [hN]; kernel_rfl) (by kernel_rfl) ?_
          intro K hK
          obtain ⟨x5, h11, h⟩ := bO_inv h
          simp only [AE, TY, EN, seval]
          refine rC_l (i_TableauApplyGate_ok h11) (by simp only [AL, AE, TY, EN, seval]) (by simp only [AL, EF, and_self]) (by simp only [List.length_cons, List.length_nil, Nat.zero_add, Nat.reduceAdd, Nat.reduceLeDiff, Nat.zero_le]) (site_1 (by simp only [AE, TY, EN, seval])) ?_
          simp only [AE, TY, EN, seval]
          refine hK _ _ _ ?_
          clear hK K
          refine AW_seq ?_
          refine AW_rs (BR := BR) FM (by rw [hN]; kernel_rfl) (by kernel_rfl) ?_
          intro K hK
          simp only [AE, TY, EN, seval]
          refine hK _ _ _ ?_
          clear hK K
          refine AW_condK (a := .bool (!x5.2.2)) (by simp only [AE, TY, EN, seval]) (brK h (fun hc7 h => ?_) (fun hc7 h => ?_))
          · refine AW_rs (BR := BR) FM (by rw [hN]; kernel_rfl) (by kernel_rfl) ?_
            intro K hK
            simp only [AE, TY, EN, seval]
            refine hK _ _ _ ?_
            clear hK K
            injection h with h
            subst h
            refine AW_le (Le_can (lt := [(2, .ptr 32 0), (3, .bool false)]) (lr := [(32, .box 33 [.int .i64 0, .own 33 0]), (33, .row 28 4 (encL EIIII ([])))]) (b' := 64) [(32, some 32), (33, none)] [] hρ (by kernel_rfl) ?_ ?_) (AW_ret (end_q [33] (.inr rfl) (by kernel_rfl) (by kernel_rfl) ?_))
            · simp only [AL, AE, TY, EN, seval]
            · simp only [AL, AE, TY, EN, seval]
            · simp only [AE, TY, EN, Try.results64, seval]
          · refine AW_skip (show AW _ _ _ _ _ from ?_)
            refine AW_re (BR := BR) FM (by rw [hN]; kernel_rfl) (by kernel_rfl) ?_
            intro K hK
            simp only [AE, TY, EN, seval]
            refine hK _ _ _ (show AW _ _ _ _ _ from ?_)
            refine AW_re (BR := BR) FM (by rw [hN]; kernel_rfl) (by kernel_rfl) ?_
            intro K hK
            simp only [AE, TY, EN, seval]
            refine hK _ _ _ (show cutK _ _ _ from cutL ⟨_, _, _, _, rfl, h⟩ (Le_can [(32, some 32), (33, some 33), (34, some 2144)] [] hρ (by kernel_rfl) ?_ ?_))
            · simp only [AL, AE, TY, EN, seval]
            · simp only [AL, AE, TY, EN, seval]
        · refine AW_exit (show cutK _ _ _ from cutL ⟨_, _, rfl, h⟩ (Le_can [(32, some 32), (33, some 33), (34, some 34)] [] hρ (by kernel_rfl) ?_ ?_))
          · simp only [AL, AE, TY, EN, seval]
          · simp only [AL, AE, TY, EN, seval]
    · rintro S ⟨v10, v11, rfl, h⟩
      unfold i_CircuitTableau_j1 at h
      refine AW_rs (BR := BR) FM (by rw [hN]; kernel_rfl) (by kernel_rfl) ?_
      intro K hK
      simp only [AE, TY, EN, seval]
      refine hK _ _ _ ?_
      clear hK K
      injection h with h
      subst h
      refine AW_le (Le_can (lt := [(2, .ptr 32 0), (3, .bool true)]) (lr := [(32, .box 33 [.int .i64 v10, .own 33 v11.length]), (33, .row 28 4 (encL EIIII v11))]) (b' := 64) [(32, some 32), (33, some 34)] [] hρ (by kernel_rfl) ?_ ?_) (AW_ret (end_q [33] (.inr rfl) (by kernel_rfl) (by kernel_rfl) ?_))
      · simp only [AL, AE, TY, EN, seval]
      · simp only [AL, AE, TY, EN, seval]
      · simp only [AE, TY, EN, Try.results64, seval]
/- laws.szGateS -/
def l_szGateS (a1 : List (Int × Int × Int × Int)) (a2 : Int) : Option Int :=
  br (decide ((IntKind.wrap .i64 (a2 - ((a1.length : Int)))) < 0)) (some (-1)) (some (IntKind.wrap .i64 (a2 - ((a1.length : Int)))))
set_option maxHeartbeats 4000000 in
theorem l_szGateS_ok {a1 : List (Int × Int × Int × Int)} {a2 : Int} {r : Int} (h : l_szGateS a1 a2 = some r) :
    Spec Try.prog 55 [.sl (encL EIIII a1) a1.length, .int .i64 a2] [] (.int .i64 r) [] := by
  unfold l_szGateS at h
  refine spec_of Try.func55 rfl (by kernel_rfl) (by simp only [Try.ntmps55, List.length_cons, List.length_nil, Nat.reduceAdd, Nat.reduceLeDiff]) ?_
  intro C hN hρ
  rw [Try.ntmps55] at hN
  unfold st0
  simp only [tmps0, Nat.zero_add, Nat.reduceAdd]
  refine AW_rs (BR := BR) FM (by rw [hN]; kernel_rfl) (by kernel_rfl) ?_
  intro K hK
  simp only [AE, TY, EN, seval]
  refine hK _ _ _ ?_
  clear hK K
  refine AW_rs (BR := BR) FM (by rw [hN]; kernel_rfl) (by kernel_rfl) ?_
  intro K hK
  simp only [AE, TY, EN, seval]
  refine hK _ _ _ ?_
  clear hK K
  refine AW_seq ?_
  refine AW_rs (BR := BR) FM (by rw [hN]; kernel_rfl) (by kernel_rfl) ?_
  intro K hK
  simp only [AE, TY, EN, seval]
  refine hK _ _ _ ?_
  clear hK K
  refine AW_condK (a := .bool (decide ((IntKind.wrap .i64 (a2 - ((a1.length : Int)))) < 0))) (by simp only [AE, TY, EN, seval]) (brK h (fun hc1 h => ?_) (fun hc1 h => ?_))
  · refine AW_rs (BR := BR) FM (by rw [hN]; kernel_rfl) (by kernel_rfl) ?_
    intro K hK
    simp only [AE, TY, EN, seval]
    refine hK _ _ _ ?_
    clear hK K
    injection h with h
    subst h
    refine AW_le (Le_can (lt := [(4, .int .i64 (-1))]) (lr := []) (b' := 64) [] [] hρ (by kernel_rfl) ?_ ?_) (AW_ret (end_q [] (.inr rfl) (by kernel_rfl) (by kernel_rfl) ?_))
    · simp only [AL, AE, TY, EN, seval]
    · simp only [AL, AE, TY, EN, seval]
    · simp only [AE, TY, EN, Try.results55, seval]
  · refine AW_skip (show AW _ _ _ _ _ from ?_)
    refine AW_rs (BR := BR) FM (by rw [hN]; kernel_rfl) (by kernel_rfl) ?_
    intro K hK
    simp only [AE, TY, EN, seval]
    refine hK _ _ _ ?_
    clear hK K
    injection h with h
    subst h
    refine AW_le (Le_can (lt := [(4, .int .i64 (IntKind.wrap .i64 (a2 - ((a1.length : Int)))))]) (lr := []) (b' := 64) [] [] hρ (by kernel_rfl) ?_ ?_) (AW_ret (end_q [] (.inr rfl) (by kernel_rfl) (by kernel_rfl) ?_))
    · simp only [AL, AE, TY, EN, seval]
    · simp only [AL, AE, TY, EN, seval]
    · simp only [AE, TY, EN, Try.results55, seval]
/- laws.szCircuit -/
def l_szCircuit (a1 : Int) (a2 : List (Int × Int × Int × Int)) (a3 : Int) : Option Int :=
  bO (l_szGateS a2 a3) fun x1 => br (decide (x1 < 0)) (some (-1)) (some x1)
set_option maxHeartbeats 4000000 in
theorem l_szCircuit_ok {a1 : Int} {a2 : List (Int × Int × Int × Int)} {a3 : Int} {r : Int} (h : l_szCircuit a1 a2 a3 = some r) :
    Spec Try.prog 61 [.agg [.int .i64 a1, .sl (encL EIIII a2) a2.length], .int .i64 a3] [] (.int .i64 r) [] := by
  unfold l_szCircuit at h
  refine spec_of Try.func61 rfl (by kernel_rfl) (by simp only [Try.ntmps61, List.length_cons, List.length_nil, Nat.reduceAdd, Nat.reduceLeDiff]) ?_
  intro C hN hρ
  rw [Try.ntmps61] at hN
  unfold st0
  simp only [tmps0, Nat.zero_add, Nat.reduceAdd]
  refine AW_rs (BR := BR) FM (by rw [hN]; kernel_rfl) (by kernel_rfl) ?_
  intro K hK
  simp only [AE, TY, EN, seval]
  refine hK _ _ _ ?_
  clear hK K
  refine AW_rs (BR := BR) FM (by rw [hN]; kernel_rfl) (by kernel_rfl) ?_
  intro K hK
  obtain ⟨x1, h1, h⟩ := bO_inv h
  simp only [AE, TY, EN, seval]
  refine rC_p (l_szGateS_ok h1) (by simp only [AL, AE, TY, EN, seval]) (by simp only [List.length_cons, List.length_nil, Nat.zero_add, Nat.reduceAdd, Nat.reduceLeDiff, Nat.zero_le]) (by intro j hj; exact absurd hj (Nat.not_lt_zero _)) ?_
  simp only [AE, TY, EN, seval]
  refine hK _ _ _ ?_
  clear hK K
  refine AW_seq ?_
  refine AW_rs (BR := BR) FM (by rw [hN]; kernel_rfl) (by kernel_rfl) ?_
  intro K hK
  simp only [AE, TY, EN, seval]
  refine hK _ _ _ ?_
  clear hK K
  refine AW_condK (a := .bool (decide (x1 < 0))) (by simp only [AE, TY, EN, seval]) (brK h (fun hc1 h => ?_) (fun hc1 h => ?_))
  · refine AW_rs (BR := BR) FM (by rw [hN]; kernel_rfl) (by kernel_rfl) ?_
    intro K hK
    simp only [AE, TY, EN, seval]
    refine hK _ _ _ ?_
    clear hK K
    injection h with h
    subst h
    refine AW_le (Le_can (lt := [(4, .int .i64 (-1))]) (lr := []) (b' := 64) [] [] hρ (by kernel_rfl) ?_ ?_) (AW_ret (end_q [] (.inr rfl) (by kernel_rfl) (by kernel_rfl) ?_))
    · simp only [AL, AE, TY, EN, seval]
    · simp only [AL, AE, TY, EN, seval]
    · simp only [AE, TY, EN, Try.results61, seval]
  · refine AW_skip (show AW _ _ _ _ _ from ?_)
    refine AW_rs (BR := BR) FM (by rw [hN]; kernel_rfl) (by kernel_rfl) ?_
    intro K hK
    simp only [AE, TY, EN, seval]
    refine hK _ _ _ ?_
    clear hK K
    injection h with h
    subst h
    refine AW_le (Le_can (lt := [(4, .int .i64 x1)]) (lr := []) (b' := 64) [] [] hρ (by kernel_rfl) ?_ ?_) (AW_ret (end_q [] (.inr rfl) (by kernel_rfl) (by kernel_rfl) ?_))
    · simp only [AL, AE, TY, EN, seval]
    · simp only [AL, AE, TY, EN, seval]
    · simp only [AE, TY, EN, Try.results61, seval]
/- laws.toGateS -/
def l_toGateS_j1 (v6 : List (Int × Int × Int × Int)) : Option (List (Int × Int × Int × Int)) :=
  some v6
def l_toGateS_l1 (a1 : List (Int × Int × Int × Int)) : Nat → Int → (List (Int × Int × Int × Int)) → Option (List (Int × Int × Int × Int))
  | 0, _, _ => none
  | n1 + 1, v4, v5 =>
  br (decide (v4 < ((a1.length : Int)))) (bO (geti a1 v4) fun q5 => bO (l_toGate q5.1 q5.2.1 q5.2.2.1 q5.2.2.2) fun x3 => bO (geti v5 v4) fun q6 => (l_toGateS_l1 a1 n1) (IntKind.wrap .i64 (v4 + 1)) (v5.set (Int.toNat v4) ((x3.1, x3.2.1, x3.2.2.1, x3.2.2.2)))) (l_toGateS_j1 v5)
def l_toGateS (a1 : List (Int × Int × Int × Int)) : Option (List (Int × Int × Int × Int)) :=
  gd (decide (0 ≤ (a1.length : Int) ∧ (a1.length : Int) ≤ 1048576)) (l_toGateS_l1 a1 FU 0 (List.replicate (Int.toNat ((a1.length : Int))) ((0, 0, 0, 0))))
set_option maxHeartbeats 4000000 in
theorem l_toGateS_ok {a1 : List (Int × Int × Int × Int)} {r : List (Int × Int × Int × Int)} (h : l_toGateS a1 = some r) :
    Spec Try.prog 57 [.sl (encL EIIII a1) a1.length] [] (.own 0 r.length) [.row 57 4 (encL EIIII r)] := by
  unfold l_toGateS at h
  refine spec_of Try.func57 rfl (by kernel_rfl) (by simp only [Try.ntmps57, List.length_cons, List.length_nil, Nat.reduceAdd, Nat.reduceLeDiff]) ?_
  intro C hN hρ
  rw [Try.ntmps57] at hN
  unfold st0
  simp only [tmps0, Nat.zero_add, Nat.reduceAdd]
  refine AW_rs (BR := BR) FM (by rw [hN]; kernel_rfl) (by kernel_rfl) ?_
  intro K hK
  simp only [AE, TY, EN, seval]
  refine hK _ _ _ ?_
  clear hK K
  refine AW_rs (BR := BR) FM (by rw [hN]; kernel_rfl) (by kernel_rfl) ?_
  intro K hK
  obtain ⟨h1, h⟩ := gd_inv h
  replace h1 := of_decide_eq_true h1
  have h2 := zrow_enc (e := EIIII) ((0, 0, 0, 0)) (Int.toNat ((a1.length : Int)))
  simp only [EN] at h2
  have h3 : (List.replicate (Int.toNat ((a1.length : Int))) ((0, 0, 0, 0))).length = Int.toNat ((a1.length : Int)) := List.length_replicate
  simp only [AE, TY, EN, seval, h1, h2, h3]
  refine hK _ _ _ ?_
  clear hK K
  refine AW_cutK (fun S => ∃ (v6 : List (Int × Int × Int × Int)), S = ⟨mkT [(3, .own 32 v6.length)], mkR [(32, .row 57 4 (encL EIIII v6))], 64⟩ ∧ l_toGateS_j1 v6 = some r) ?_ ?_
  · refine AW_rs (BR := BR) FM (by rw [hN]; kernel_rfl) (by kernel_rfl) ?_
    intro K hK
    simp only [AE, TY, EN, seval]
    refine hK _ _ _ ?_
    clear hK K
    refine AW_block ?_
    refine AW_loopF (fun n S => ∃ (v4 : Int) (v5 : List (Int × Int × Int × Int)), S = ⟨mkT [(0, .sl (encL EIIII a1) a1.length), (3, .own 32 v5.length), (4, .int .i64 v4)], mkR [(32, .row 57 4 (encL EIIII v5))], 64⟩ ∧ l_toGateS_l1 a1 n v4 v5 = some r) FU ?_ ?_ ?_
    · refine cutL ⟨_, _, rfl, h⟩ (Le_can [(32, some 1120)] [] hρ (by kernel_rfl) ?_ ?_)
      · simp only [AL, AE, TY, EN, seval]
      · simp only [AL, AE, TY, EN, seval]
    · rintro S ⟨_, _, _, h⟩; rw [l_toGateS_l1] at h; cases h
    · rintro n1 S ⟨v4, v5, rfl, h⟩
      rw [l_toGateS_l1] at h
      refine AW_seq ?_
      refine AW_rs (BR := BR) FM (by rw [hN]; kernel_rfl) (by kernel_rfl) ?_
      intro K hK
      simp only [AE, TY, EN, seval]
      refine hK _ _ _ ?_
      clear hK K
      refine AW_condK (a := .bool (decide (v4 < ((a1.length : Int))))) (by simp only [AE, TY, EN, seval]) (brK h (fun hc3 h => ?_) (fun hc3 h => ?_))
      · refine AW_skip (show AW _ _ _ _ _ from ?_)
        refine AW_seq ?_
        refine AW_block ?_
        refine AW_re (BR := BR) FM (by rw [hN]; kernel_rfl) (by kernel_rfl) ?_
        intro K hK
        obtain ⟨q5, h16, h⟩ := bO_inv h
        obtain ⟨⟨h17a, h17b⟩, h17c⟩ := geti_E EIIIIl h16
        try simp only [AE, TY, EN, seval] at h17c
        obtain ⟨x3, h18, h⟩ := bO_inv h
        simp only [AE, TY, EN, seval, h17a, h17b, h17c]
        refine rC_p (l_toGate_ok h18) (by simp only [AL, AE, TY, EN, seval, h17a, h17b, h17c]) (by simp only [List.length_cons, List.length_nil, Nat.zero_add, Nat.reduceAdd, Nat.reduceLeDiff, Nat.zero_le]) (by intro j hj; exact absurd hj (Nat.not_lt_zero _)) ?_
        obtain ⟨q6, h19, h⟩ := bO_inv h
        obtain ⟨⟨h20a, h20b⟩, h20c⟩ := geti_E EIIIIl h19
        try simp only [AE, TY, EN, seval] at h20c
        have h21 := set_E EIIIIl ((x3.1, x3.2.1, x3.2.2.1, x3.2.2.2)) 0 [.int .i64 x3.1, .int .i64 x3.2.1, .int .i64 x3.2.2.1, .int .i64 x3.2.2.2] h19 (Nat.le_of_ble_eq_true rfl) rfl
        obtain ⟨h21a, h21b⟩ := h21
        try simp only [AE, TY, EN, seval] at h21a
        try simp only [AE, TY, EN, seval] at h21b
        simp only [AE, TY, EN, seval, h17a, h17b, h17c, h20a, h20b, h20c, h21a, h21b]
        refine hK _ _ _ (show AW _ _ _ _ _ from ?_)
        refine AW_re (BR := BR) FM (by rw [hN]; kernel_rfl) (by kernel_rfl) ?_
        intro K hK
        simp only [AE, TY, EN, seval]
        refine hK _ _ _ (show cutK _ _ _ from cutL ⟨_, _, rfl, h⟩ (Le_can [(32, some 32)] [] hρ (by kernel_rfl) ?_ ?_))
        · simp only [AL, AE, TY, EN, seval]
        · simp only [AL, AE, TY, EN, seval]
      · refine AW_exit (show cutK _ _ _ from cutL ⟨_, rfl, h⟩ (Le_can [(32, some 32)] [] hρ (by kernel_rfl) ?_ ?_))
        · simp only [AL, AE, TY, EN, seval]
        · simp only [AL, AE, TY, EN, seval]
  · rintro S ⟨v6, rfl, h⟩
    unfold l_toGateS_j1 at h
    refine AW_rs (BR := BR) FM (by rw [hN]; kernel_rfl) (by kernel_rfl) ?_
    intro K hK
    simp only [AE, TY, EN, seval]
    refine hK _ _ _ ?_
    clear hK K
    injection h with h
    subst h
    refine AW_le (Le_can (lt := [(2, .own 32 v6.length)]) (lr := [(32, .row 57 4 (encL EIIII v6))]) (b' := 64) [(32, some 32)] [] hρ (by kernel_rfl) ?_ ?_) (AW_ret (end_q [32] (.inr rfl) (by kernel_rfl) (by kernel_rfl) ?_))
    · simp only [AL, AE, TY, EN, seval]
    · simp only [AL, AE, TY, EN, seval]
    · simp only [AE, TY, EN, Try.results57, seval]
/- laws.toCircuit -/
def l_toCircuit (a1 : Int) (a2 : List (Int × Int × Int × Int)) : Option (Int × List (Int × Int × Int × Int)) :=
  bO (l_toGateS a2) fun x1 => some (a1, x1)
set_option maxHeartbeats 4000000 in
theorem l_toCircuit_ok {a1 : Int} {a2 : List (Int × Int × Int × Int)} {r : Int × List (Int × Int × Int × Int)} (h : l_toCircuit a1 a2 = some r) :
    Spec Try.prog 63 [.agg [.int .i64 a1, .sl (encL EIIII a2) a2.length]] [] (.agg [.int .i64 r.1, .own 0 r.2.length]) [.row 57 4 (encL EIIII r.2)] := by
  unfold l_toCircuit at h
  refine spec_of Try.func63 rfl (by kernel_rfl) (by simp only [Try.ntmps63, List.length_cons, List.length_nil, Nat.reduceAdd, Nat.reduceLeDiff]) ?_
  intro C hN hρ
  rw [Try.ntmps63] at hN
  unfold st0
  simp only [tmps0, Nat.zero_add, Nat.reduceAdd]
  refine AW_rs (BR := BR) FM (by rw [hN]; kernel_rfl) (by kernel_rfl) ?_
  intro K hK
  simp only [AE, TY, EN, seval]
  refine hK _ _ _ ?_
  clear hK K
  refine AW_rs (BR := BR) FM (by rw [hN]; kernel_rfl) (by kernel_rfl) ?_
  intro K hK
  simp only [AE, TY, EN, seval]
  refine hK _ _ _ ?_
  clear hK K
  refine AW_rs (BR := BR) FM (by rw [hN]; kernel_rfl) (by kernel_rfl) ?_
  intro K hK
  simp only [AE, TY, EN, seval]
  refine hK _ _ _ ?_
  clear hK K
  refine AW_rs (BR := BR) FM (by rw [hN]; kernel_rfl) (by kernel_rfl) ?_
  intro K hK
  obtain ⟨x1, h1, h⟩ := bO_inv h
  simp only [AE, TY, EN, seval]
  refine rC_p (l_toGateS_ok h1) (by simp only [AL, AE, TY, EN, seval]) (by simp only [List.length_cons, List.length_nil, Nat.zero_add, Nat.reduceAdd, Nat.reduceLeDiff, Nat.zero_le]) (site_1 (by simp only [AE, TY, EN, seval])) ?_
  simp only [AE, TY, EN, seval]
  refine hK _ _ _ ?_
  clear hK K
  refine AW_rs (BR := BR) FM (by rw [hN]; kernel_rfl) (by kernel_rfl) ?_
  intro K hK
  simp only [AE, TY, EN, seval]
  refine hK _ _ _ ?_
  clear hK K
  injection h with h
  subst h
  refine AW_le (Le_can (lt := [(2, .ptr 32 0)]) (lr := [(32, .box 95 [.int .i64 a1, .own 33 x1.length]), (33, .row 57 4 (encL EIIII x1))]) (b' := 64) [(32, some 80), (33, some 3168)] [] hρ (by kernel_rfl) ?_ ?_) (AW_ret (end_q [33] (.inr rfl) (by kernel_rfl) (by kernel_rfl) ?_))
  · simp only [AL, AE, TY, EN, seval]
  · simp only [AL, AE, TY, EN, seval]
  · simp only [AE, TY, EN, Try.results63, seval]
/- laws.eqGate -/
def l_eqGate (a1 : Int) (a2 : Int) (a3 : Int) (a4 : Int) (a5 : Int) (a6 : Int) (a7 : Int) (a8 : Int) : Option Bool :=
  br (a1 != a5) (some false) (br (a2 != a6) (some false) (br (a3 != a7) (some false) (br (a4 != a8) (some false) (some true))))
set_option maxHeartbeats 4000000 in
theorem l_eqGate_ok {a1 : Int} {a2 : Int} {a3 : Int} {a4 : Int} {a5 : Int} {a6 : Int} {a7 : Int} {a8 : Int} {r : Bool} (h : l_eqGate a1 a2 a3 a4 a5 a6 a7 a8 = some r) :
    Spec Try.prog 105 [.agg [.int .i64 a1, .int .i64 a2, .int .i64 a3, .int .i64 a4], .agg [.int .i64 a5, .int .i64 a6, .int .i64 a7, .int .i64 a8]] [] (.bool r) [] := by
  unfold l_eqGate at h
  refine spec_of Try.func105 rfl (by kernel_rfl) (by simp only [Try.ntmps105, List.length_cons, List.length_nil, Nat.reduceAdd, Nat.reduceLeDiff]) ?_
  intro C hN hρ
  rw [Try.ntmps105] at hN
  unfold st0
  simp only [tmps0, Nat.zero_add, Nat.reduceAdd]
  refine AW_rs (BR := BR) FM (by rw [hN]; kernel_rfl) (by kernel_rfl) ?_
  intro K hK
  simp only [AE, TY, EN, seval]
  refine hK _ _ _ ?_
  clear hK K
  refine AW_seq ?_
  refine AW_rs (BR := BR) FM (by rw [hN]; kernel_rfl) (by kernel_rfl) ?_
  intro K hK
  simp only [AE, TY, EN, seval]
  refine hK _ _ _ ?_
  clear hK K
  refine AW_condK (a := .bool (a1 != a5)) (by simp only [AE, TY, EN, seval]) (brK h (fun hc1 h => ?_) (fun hc1 h => ?_))
  · refine AW_rs (BR := BR) FM (by rw [hN]; kernel_rfl) (by kernel_rfl) ?_
    intro K hK
    simp only [AE, TY, EN, seval]
    refine hK _ _ _ ?_
    clear hK K
    injection h with h
    subst h
    refine AW_le (Le_can (lt := [(4, .bool false)]) (lr := []) (b' := 64) [] [] hρ (by kernel_rfl) ?_ ?_) (AW_ret (end_q [] (.inr rfl) (by kernel_rfl) (by kernel_rfl) ?_))
    · simp only [AL, AE, TY, EN, seval]
    · simp only [AL, AE, TY, EN, seval]
    · simp only [AE, TY, EN, Try.results105, seval]
  · refine AW_skip (show AW _ _ _ _ _ from ?_)
    refine AW_seq ?_
    refine AW_rs (BR := BR) FM (by rw [hN]; kernel_rfl) (by kernel_rfl) ?_
    intro K hK
    simp only [AE, TY, EN, seval]
    refine hK _ _ _ ?_
    clear hK K
    refine AW_condK (a := .bool (a2 != a6)) (by simp only [AE, TY, EN, seval]) (brK h (fun hc2 h => ?_) (fun hc2 h => ?_))
    · refine AW_rs (BR := BR) FM (by rw [hN]; kernel_rfl) (by kernel_rfl) ?_
      intro K hK
      simp only [AE, TY, EN, seval]
      refine hK _ _ _ ?_
      clear hK K
      injection h with h
      subst h
      refine AW_le (Le_can (lt := [(4, .bool false)]) (lr := []) (b' := 64) [] [] hρ (by kernel_rfl) ?_ ?_) (AW_ret (end_q [] (.inr rfl) (by kernel_rfl) (by kernel_rfl) ?_))
      · simp only [AL, AE, TY, EN, seval]
      · simp only [AL, AE, TY, EN, seval]
      · simp only [AE, TY, EN, Try.results105, seval]
    · refine AW_skip (show AW _ _ _ _ _ from ?_)
      refine AW_seq ?_
      refine AW_rs (BR := BR) FM (by rw [hN]; kernel_rfl) (by kernel_rfl) ?_
      intro K hK
      simp only [AE, TY, EN, seval]
      refine hK _ _ _ ?_
      clear hK K
      refine AW_condK (a := .bool (a3 != a7)) (by simp only [AE, TY, EN, seval]) (brK h (fun hc3 h => ?_) (fun hc3 h => ?_))
      · refine AW_rs (BR := BR) FM (by rw [hN]; kernel_rfl) (by kernel_rfl) ?_
        intro K hK
        simp only [AE, TY, EN, seval]
        refine hK _ _ _ ?_
        clear hK K
        injection h with h
        subst h
        refine AW_le (Le_can (lt := [(4, .bool false)]) (lr := []) (b' := 64) [] [] hρ (by kernel_rfl) ?_ ?_) (AW_ret (end_q [] (.inr rfl) (by kernel_rfl) (by kernel_rfl) ?_))
        · simp only [AL, AE, TY, EN, seval]
        · simp only [AL, AE, TY, EN, seval]
        · simp only [AE, TY, EN, Try.results105, seval]
      · refine AW_skip (show AW _ _ _ _ _ from ?_)
        refine AW_seq ?_
        refine AW_rs (BR := BR) FM (by rw [hN]; kernel_rfl) (by kernel_rfl) ?_
        intro K hK
        simp only [AE, TY, EN, seval]
        refine hK _ _ _ ?_
        clear hK K
        refine AW_condK (a := .bool (a4 != a8)) (by simp only [AE, TY, EN, seval]) (brK h (fun hc4 h => ?_) (fun hc4 h => ?_))
        · refine AW_rs (BR := BR) FM (by rw [hN]; kernel_rfl) (by kernel_rfl) ?_
          intro K hK
          simp only [AE, TY, EN, seval]
          refine hK _ _ _ ?_
          clear hK K
          injection h with h
          subst h
          refine AW_le (Le_can (lt := [(4, .bool false)]) (lr := []) (b' := 64) [] [] hρ (by kernel_rfl) ?_ ?_) (AW_ret (end_q [] (.inr rfl) (by kernel_rfl) (by kernel_rfl) ?_))
          · simp only [AL, AE, TY, EN, seval]
          · simp only [AL, AE, TY, EN, seval]
          · simp only [AE, TY, EN, Try.results105, seval]
        · refine AW_skip (show AW _ _ _ _ _ from ?_)
          refine AW_rs (BR := BR) FM (by rw [hN]; kernel_rfl) (by kernel_rfl) ?_
          intro K hK
          simp only [AE, TY, EN, seval]
          refine hK _ _ _ ?_
          clear hK K
          injection h with h
          subst h
          refine AW_le (Le_can (lt := [(4, .bool true)]) (lr := []) (b' := 64) [] [] hρ (by kernel_rfl) ?_ ?_) (AW_ret (end_q [] (.inr rfl) (by kernel_rfl) (by kernel_rfl) ?_))
          · simp only [AL, AE, TY, EN, seval]
          · simp only [AL, AE, TY, EN, seval]
          · simp only [AE, TY, EN, Try.results105, seval]
/- laws.eqGateS -/
def l_eqGateS_j1 : Option Bool :=
  some true
def l_eqGateS_l1 (a1 : List (Int × Int × Int × Int)) (a2 : List (Int × Int × Int × Int)) : Nat → Int → Option Bool
  | 0, _ => none
  | n1 + 1, v2 =>
  br (decide (v2 < ((a1.length : Int)))) (bO (geti a1 v2) fun q5 => bO (geti a2 v2) fun q6 => bO (l_eqGate q5.1 q5.2.1 q5.2.2.1 q5.2.2.2 q6.1 q6.2.1 q6.2.2.1 q6.2.2.2) fun x3 => br (!x3) (some false) ((l_eqGateS_l1 a1 a2 n1) (IntKind.wrap .i64 (v2 + 1)))) (l_eqGateS_j1)
def l_eqGateS (a1 : List (Int × Int × Int × Int)) (a2 : List (Int × Int × Int × Int)) : Option Bool :=
  br (((a1.length : Int)) != ((a2.length : Int))) (some false) (l_eqGateS_l1 a1 a2 FU 0)
set_option maxHeartbeats 4000000 in
theorem l_eqGateS_ok {a1 : List (Int × Int × Int × Int)} {a2 : List (Int × Int × Int × Int)} {r : Bool} (h : l_eqGateS a1 a2 = some r) :
    Spec Try.prog 59 [.sl (encL EIIII a1) a1.length, .sl (encL EIIII a2) a2.length] [] (.bool r) [] := by
  unfold l_eqGateS at h
  refine spec_of Try.func59 rfl (by kernel_rfl) (by simp only [Try.ntmps59, List.length_cons, List.length_nil, Nat.reduceAdd, Nat.reduceLeDiff]) ?_
  intro C hN hρ
  rw [Try.ntmps59] at hN
  unfold st0
  simp only [tmps0, Nat.zero_add, Nat.reduceAdd]
  refine AW_rs (BR := BR) FM (by rw [hN]; kernel_rfl) (by kernel_rfl) ?_
  intro K hK
  simp only [AE, TY, EN, seval]
  refine hK _ _ _ ?_
  clear hK K
  refine AW_seq ?_
  refine AW_rs (BR := BR) FM (by rw [hN]; kernel_rfl) (by kernel_rfl) ?_
  intro K hK
  simp only [AE, TY, EN, seval]
  refine hK _ _ _ ?_
  clear hK K
  refine AW_condK (a := .bool (((a1.length : Int)) != ((a2.length : Int)))) (by simp only [AE, TY, EN, seval]) (brK h (fun hc1 h => ?_) (fun hc1 h => ?_))
  · refine AW_rs (BR := BR) FM (by rw [hN]; kernel_rfl) (by kernel_rfl) ?_
    intro K hK
    simp only [AE, TY, EN, seval]
    refine hK _ _ _ ?_
    clear hK K
    injection h with h
    subst h
    refine AW_le (Le_can (lt := [(4, .bool false)]) (lr := []) (b' := 64) [] [] hρ (by kernel_rfl) ?_ ?_) (AW_ret (end_q [] (.inr rfl) (by kernel_rfl) (by kernel_rfl) ?_))
    · simp only [AL, AE, TY, EN, seval]
    · simp only [AL, AE, TY, EN, seval]
    · simp only [AE, TY, EN, Try.results59, seval]
  · refine AW_skip (show AW _ _ _ _ _ from ?_)
    refine AW_cutK (fun S => S = ⟨mkT [], mkR [], 64⟩ ∧ l_eqGateS_j1 = some r) ?_ ?_
    · refine AW_rs (BR := BR) FM (by rw [hN]; kernel_rfl) (by kernel_rfl) ?_
      intro K hK
      simp only [AE, TY, EN, seval]
      refine hK _ _ _ ?_
      clear hK K
      refine AW_block ?_
      refine AW_loopF (fun n S => ∃ (v2 : Int), S = ⟨mkT [(0, .sl (encL EIIII a1) a1.length), (1, .sl (encL EIIII a2) a2.length), (5, .int .i64 v2)], mkR [], 64⟩ ∧ l_eqGateS_l1 a1 a2 n v2 = some r) FU ?_ ?_ ?_
      · refine cutL ⟨_, rfl, h⟩ (Le_can [] [] hρ (by kernel_rfl) ?_ ?_)
        · simp only [AL, AE, TY, EN, seval]
        · simp only [AL, AE, TY, EN, seval]
      · rintro S ⟨_, _, h⟩; rw [l_eqGateS_l1] at h; cases h
      · rintro n1 S ⟨v2, rfl, h⟩
        rw [l_eqGateS_l1] at h
        refine AW_seq ?_
        refine AW_rs (BR := BR) FM (by rw [hN]; kernel_rfl) (by kernel_rfl) ?_
        intro K hK
        simp only [AE, TY, EN, seval]
        refine hK _ _ _ ?_
        clear hK K
        refine AW_condK (a := .bool (decide (v2 < ((a1.length : Int))))) (by simp only [AE, TY, EN, seval]) (brK h (fun hc6 h => ?_) (fun hc6 h => ?_))
        · refine AW_skip (show AW _ _ _ _ _ from ?_)
          refine AW_seq ?_
          refine AW_block ?_
          refine AW_rs (BR := BR) FM (by rw [hN]; kernel_rfl) (by kernel_rfl) ?_
          intro K hK
          obtain ⟨q5, h11, h⟩ := bO_inv h
          obtain ⟨⟨h12a, h12b⟩, h12c⟩ := geti_E EIIIIl h11
          try simp only [AE, TY, EN, seval] at h12c
          obtain ⟨q6, h13, h⟩ := bO_inv h
          obtain ⟨⟨h14a, h14b⟩, h14c⟩ := geti_E EIIIIl h13
          try simp only [AE, TY, EN, seval] at h14c
          obtain ⟨x3, h15, h⟩ := bO_inv h
          simp only [AE, TY, EN, seval, h12a, h12b, h12c, h14a, h14b, h14c]
          refine rC_p (l_eqGate_ok h15) (by simp only [AL, AE, TY, EN, seval, h12a, h12b, h12c, h14a, h14b, h14c]) (by simp only [List.length_cons, List.length_nil, Nat.zero_add, Nat.reduceAdd, Nat.reduceLeDiff, Nat.zero_le]) (by intro j hj; exact absurd hj (Nat.not_lt_zero _)) ?_
          simp only [AE, TY, EN, seval, h12a, h12b, h12c, h14a, h14b, h14c]
          refine hK _ _ _ ?_
          clear hK K
          refine AW_condK (a := .bool (!x3)) (by simp only [AE, TY, EN, seval, h12a, h12b, h12c, h14a, h14b, h14c]) (brK h (fun hc7 h => ?_) (fun hc7 h => ?_))
          · refine AW_rs (BR := BR) FM (by rw [hN]; kernel_rfl) (by kernel_rfl) ?_
            intro K hK
            simp only [AE, TY, EN, seval]
            refine hK _ _ _ ?_
            clear hK K
            injection h with h
            subst h
            refine AW_le (Le_can (lt := [(4, .bool false)]) (lr := []) (b' := 64) [] [] hρ (by kernel_rfl) ?_ ?_) (AW_ret (end_q [] (.inr rfl) (by kernel_rfl) (by kernel_rfl) ?_))
            · simp only [AL, AE, TY, EN, seval]
            · simp only [AL, AE, TY, EN, seval]
            · simp only [AE, TY, EN, Try.results59, seval]
          · refine AW_skip (show AW _ _ _ _ _ from ?_)
            refine AW_re (BR := BR) FM (by rw [hN]; kernel_rfl) (by kernel_rfl) ?_
            intro K hK
            simp only [AE, TY, EN, seval]
            refine hK _ _ _ (show cutK _ _ _ from cutL ⟨_, rfl, h⟩ (Le_can [] [] hρ (by kernel_rfl) ?_ ?_))
            · simp only [AL, AE, TY, EN, seval]
            · simp only [AL, AE, TY, EN, seval]
        · refine AW_exit (show cutK _ _ _ from cutL ⟨rfl, h⟩ (Le_can [] [] hρ (by kernel_rfl) ?_ ?_))
          · simp only [AL, AE, TY, EN, seval]
          · simp only [AL, AE, TY, EN, seval]
    · rintro S ⟨rfl, h⟩
      unfold l_eqGateS_j1 at h
      refine AW_rs (BR := BR) FM (by rw [hN]; kernel_rfl) (by kernel_rfl) ?_
      intro K hK
      simp only [AE, TY, EN, seval]
      refine hK _ _ _ ?_
      clear hK K
      injection h with h
      subst h
      refine AW_le (Le_can (lt := [(4, .bool true)]) (lr := []) (b' := 64) [] [] hρ (by kernel_rfl) ?_ ?_) (AW_ret (end_q [] (.inr rfl) (by kernel_rfl) (by kernel_rfl) ?_))
      · simp only [AL, AE, TY, EN, seval]
      · simp only [AL, AE, TY, EN, seval]
      · simp only [AE, TY, EN, Try.results59, seval]
/- laws.eqCircuit -/
def l_eqCircuit (a1 : Int) (a2 : List (Int × Int × Int × Int)) (a3 : Int) (a4 : List (Int × Int × Int × Int)) : Option Bool :=
  br (a1 != a3) (some false) (bO (l_eqGateS a2 a4) fun x1 => br (!x1) (some false) (some true))
set_option maxHeartbeats 4000000 in
theorem l_eqCircuit_ok {a1 : Int} {a2 : List (Int × Int × Int × Int)} {a3 : Int} {a4 : List (Int × Int × Int × Int)} {r : Bool} (h : l_eqCircuit a1 a2 a3 a4 = some r) :
    Spec Try.prog 65 [.agg [.int .i64 a1, .sl (encL EIIII a2) a2.length], .agg [.int .i64 a3, .sl (encL EIIII a4) a4.length]] [] (.bool r) [] := by
  unfold l_eqCircuit at h
  refine spec_of Try.func65 rfl (by kernel_rfl) (by simp only [Try.ntmps65, List.length_cons, List.length_nil, Nat.reduceAdd, Nat.reduceLeDiff]) ?_
  intro C hN hρ
  rw [Try.ntmps65] at hN
  unfold st0
  simp only [tmps0, Nat.zero_add, Nat.reduceAdd]
  refine AW_rs (BR := BR) FM (by rw [hN]; kernel_rfl) (by kernel_rfl) ?_
  intro K hK
  simp only [AE, TY, EN, seval]
  refine hK _ _ _ ?_
  clear hK K
  refine AW_seq ?_
  refine AW_rs (BR := BR) FM (by rw [hN]; kernel_rfl) (by kernel_rfl) ?_
  intro K hK
  simp only [AE, TY, EN, seval]
  refine hK _ _ _ ?_
  clear hK K
  refine AW_condK (a := .bool (a1 != a3)) (by simp only [AE, TY, EN, seval]) (brK h (fun hc1 h => ?_) (fun hc1 h => ?_))
  · refine AW_rs (BR := BR) FM (by rw [hN]; kernel_rfl) (by kernel_rfl) ?_
    intro K hK
    simp only [AE, TY, EN, seval]
    refine hK _ _ _ ?_
    clear hK K
    injection h with h
    subst h
    refine AW_le (Le_can (lt := [(4, .bool false)]) (lr := []) (b' := 64) [] [] hρ (by kernel_rfl) ?_ ?_) (AW_ret (end_q [] (.inr rfl) (by kernel_rfl) (by kernel_rfl) ?_))
    · simp only [AL, AE, TY, EN, seval]
    · simp only [AL, AE, TY, EN, seval]
    · simp only [AE, TY, EN, Try.results65, seval]
  · refine AW_skip (show AW _ _ _ _ _ from ?_)
    refine AW_seq ?_
    refine AW_rs (BR := BR) FM (by rw [hN]; kernel_rfl) (by kernel_rfl) ?_
    intro K hK
    obtain ⟨x1, h1, h⟩ := bO_inv h
    simp only [AE, TY, EN, seval]
    refine rC_p (l_eqGateS_ok h1) (by simp only [AL, AE, TY, EN, seval]) (by simp only [List.length_cons, List.length_nil, Nat.zero_add, Nat.reduceAdd, Nat.reduceLeDiff, Nat.zero_le]) (by intro j hj; exact absurd hj (Nat.not_lt_zero _)) ?_
    simp only [AE, TY, EN, seval]
    refine hK _ _ _ ?_
    clear hK K
    refine AW_condK (a := .bool (!x1)) (by simp only [AE, TY, EN, seval]) (brK h (fun hc2 h => ?_) (fun hc2 h => ?_))
    · refine AW_rs (BR := BR) FM (by rw [hN]; kernel_rfl) (by kernel_rfl) ?_
      intro K hK
      simp only [AE, TY, EN, seval]
      refine hK _ _ _ ?_
      clear hK K
      injection h with h
      subst h
      refine AW_le (Le_can (lt := [(4, .bool false)]) (lr := []) (b' := 64) [] [] hρ (by kernel_rfl) ?_ ?_) (AW_ret (end_q [] (.inr rfl) (by kernel_rfl) (by kernel_rfl) ?_))
      · simp only [AL, AE, TY, EN, seval]
      · simp only [AL, AE, TY, EN, seval]
      · simp only [AE, TY, EN, Try.results65, seval]
    · refine AW_skip (show AW _ _ _ _ _ from ?_)
      refine AW_rs (BR := BR) FM (by rw [hN]; kernel_rfl) (by kernel_rfl) ?_
      intro K hK
      simp only [AE, TY, EN, seval]
      refine hK _ _ _ ?_
      clear hK K
      injection h with h
      subst h
      refine AW_le (Le_can (lt := [(4, .bool true)]) (lr := []) (b' := 64) [] [] hρ (by kernel_rfl) ?_ ?_) (AW_ret (end_q [] (.inr rfl) (by kernel_rfl) (by kernel_rfl) ?_))
      · simp only [AL, AE, TY, EN, seval]
      · simp only [AL, AE, TY, EN, seval]
      · simp only [AE, TY, EN, Try.results65, seval]
/- laws.markGateS -/
def l_markGateS_j1 (v7 : List (Int × Int × Int × Int)) (v8 : Int) : Option (Int × List (Int × Int × Int × Int)) :=
  some (v8, v7)
def l_markGateS_l1 : Nat → (List (Int × Int × Int × Int)) → Int → Int → Option (Int × List (Int × Int × Int × Int))
  | 0, _, _, _ => none
  | n1 + 1, v4, v5, v6 =>
  br (decide (v6 < ((v4.length : Int)))) (bO (geti v4 v6) fun q9 => bO (geti (v4.set (Int.toNat v6) ((v5, q9.2.1, q9.2.2.1, q9.2.2.2))) v6) fun q10 => bO (geti ((v4.set (Int.toNat v6) ((v5, q9.2.1, q9.2.2.1, q9.2.2.2))).set (Int.toNat v6) ((q10.1, IntKind.wrap .i64 (v5 + 1), q10.2.2.1, q10.2.2.2))) v6) fun q11 => bO (geti (((v4.set (Int.toNat v6) ((v5, q9.2.1, q9.2.2.1, q9.2.2.2))).set (Int.toNat v6) ((q10.1, IntKind.wrap .i64 (v5 + 1), q10.2.2.1, q10.2.2.2))).set (Int.toNat v6) ((q11.1, q11.2.1, IntKind.wrap .i64 ((IntKind.wrap .i64 (v5 + 1)) + 1), q11.2.2.2))) v6) fun q12 => (l_markGateS_l1 n1) ((((v4.set (Int.toNat v6) ((v5, q9.2.1, q9.2.2.1, q9.2.2.2))).set (Int.toNat v6) ((q10.1, IntKind.wrap .i64 (v5 + 1), q10.2.2.1, q10.2.2.2))).set (Int.toNat v6) ((q11.1, q11.2.1, IntKind.wrap .i64 ((IntKind.wrap .i64 (v5 + 1)) + 1), q11.2.2.2))).set (Int.toNat v6) ((q12.1, q12.2.1, q12.2.2.1, IntKind.wrap .i64 ((IntKind.wrap .i64 ((IntKind.wrap .i64 (v5 + 1)) + 1)) + 1)))) (IntKind.wrap .i64 ((IntKind.wrap .i64 ((IntKind.wrap .i64 ((IntKind.wrap .i64 (v5 + 1)) + 1)) + 1)) + 1)) (IntKind.wrap .i64 (v6 + 1))) (l_markGateS_j1 v4 v5)
def l_markGateS (a1 : List (Int × Int × Int × Int)) (a2 : Int) : Option (Int × List (Int × Int × Int × Int)) :=
  l_markGateS_l1 FU a1 a2 0
set_option maxHeartbeats 4000000 in
theorem l_markGateS_ok {a1 : List (Int × Int × Int × Int)} {a2 : Int} {r : Int × List (Int × Int × Int × Int)} (h : l_markGateS a1 a2 = some r) :
    Spec Try.prog 60 [.own 0 a1.length, .int .i64 a2] [.row 57 4 (encL EIIII a1)] (.int .i64 r.1) [.row 57 4 (encL EIIII r.2)] := by
  unfold l_markGateS at h
  refine spec_of Try.func60 rfl (by kernel_rfl) (by simp only [Try.ntmps60, List.length_cons, List.length_nil, Nat.reduceAdd, Nat.reduceLeDiff]) ?_
  intro C hN hρ
  rw [Try.ntmps60] at hN
  unfold st0
  simp only [tmps0, Nat.zero_add, Nat.reduceAdd]
  refine AW_rs (BR := BR) FM (by rw [hN]; kernel_rfl) (by kernel_rfl) ?_
  intro K hK
  simp only [AE, TY, EN, seval]
  refine hK _ _ _ ?_
  clear hK K
  refine AW_cutK (fun S => ∃ (v7 : List (Int × Int × Int × Int)) (v8 : Int), S = ⟨mkT [(1, .int .i64 v8)], mkR [(0, .row 57 4 (encL EIIII v7))], 64⟩ ∧ l_markGateS_j1 v7 v8 = some r) ?_ ?_
  · refine AW_rs (BR := BR) FM (by rw [hN]; kernel_rfl) (by kernel_rfl) ?_
    intro K hK
    simp only [AE, TY, EN, seval]
    refine hK _ _ _ ?_
    clear hK K
    refine AW_block ?_
    refine AW_loopF (fun n S => ∃ (v4 : List (Int × Int × Int × Int)) (v5 : Int) (v6 : Int), S = ⟨mkT [(0, .own 0 v4.length), (1, .int .i64 v5), (5, .int .i64 v6)], mkR [(0, .row 57 4 (encL EIIII v4))], 64⟩ ∧ l_markGateS_l1 n v4 v5 v6 = some r) FU ?_ ?_ ?_
    · refine cutL ⟨_, _, _, rfl, h⟩ (Le_can [(0, some 0)] [] hρ (by kernel_rfl) ?_ ?_)
      · simp only [AL, AE, TY, EN, seval]
      · simp only [AL, AE, TY, EN, seval]
    · rintro S ⟨_, _, _, _, h⟩; rw [l_markGateS_l1] at h; cases h
    · rintro n1 S ⟨v4, v5, v6, rfl, h⟩
      rw [l_markGateS_l1] at h
      refine AW_seq ?_
      refine AW_rs (BR := BR) FM (by rw [hN]; kernel_rfl) (by kernel_rfl) ?_
      intro K hK
      simp only [AE, TY, EN, seval]
      refine hK _ _ _ ?_
      clear hK K
      refine AW_condK (a := .bool (decide (v6 < ((v4.length : Int))))) (by simp only [AE, TY, EN, seval]) (brK h (fun hc3 h => ?_) (fun hc3 h => ?_))
      · refine AW_skip (show AW _ _ _ _ _ from ?_)
        refine AW_seq ?_
        refine AW_block ?_
        refine AW_rs (BR := BR) FM (by rw [hN]; kernel_rfl) (by kernel_rfl) ?_
        intro K hK
        obtain ⟨q9, h25, h⟩ := bO_inv h
        obtain ⟨⟨h26a, h26b⟩, h26c⟩ := geti_E EIIIIl h25
        try simp only [AE, TY, EN, seval] at h26c
        have h27 := set_E EIIIIl ((v5, q9.2.1, q9.2.2.1, q9.2.2.2)) 0 [.int .i64 v5] h25 (Nat.le_of_ble_eq_true rfl) rfl
        obtain ⟨h27a, h27b⟩ := h27
        try simp only [AE, TY, EN, seval] at h27a
        try simp only [AE, TY, EN, seval] at h27b
        simp only [AE, TY, EN, seval, h26a, h26b, h26c, h27a, h27b]
        refine hK _ _ _ ?_
        clear hK K
        refine AW_rs (BR := BR) FM (by rw [hN]; kernel_rfl) (by kernel_rfl) ?_
        intro K hK
        simp only [AE, TY, EN, seval]
        refine hK _ _ _ ?_
        clear hK K
        refine AW_rs (BR := BR) FM (by rw [hN]; kernel_rfl) (by kernel_rfl) ?_
        intro K hK
        obtain ⟨q10, h28, h⟩ := bO_inv h
        obtain ⟨⟨h29a, h29b⟩, h29c⟩ := geti_E EIIIIl h28
        try simp only [AE, TY, EN, seval] at h29c
        try simp only [AE, TY, EN, seval] at h29b
        have h30 := set_E EIIIIl ((q10.1, IntKind.wrap .i64 (v5 + 1), q10.2.2.1, q10.2.2.2)) 1 [.int .i64 (IntKind.wrap .i64 (v5 + 1))] h28 (Nat.le_of_ble_eq_true rfl) rfl
        obtain ⟨h30a, h30b⟩ := h30
        try simp only [AE, TY, EN, seval] at h30a
        try simp only [AE, TY, EN, seval] at h30b
        simp only [AE, TY, EN, seval, h29a, h29b, h29c, h30a, h30b]
        refine hK _ _ _ ?_
        clear hK K
        refine AW_rs (BR := BR) FM (by rw [hN]; kernel_rfl) (by kernel_rfl) ?_
        intro K hK
        simp only [AE, TY, EN, seval]
        refine hK _ _ _ ?_
        clear hK K
        refine AW_rs (BR := BR) FM (by rw [hN]; kernel_rfl) (by kernel_rfl) ?_
        intro K hK
        obtain ⟨q11, h31, h⟩ := bO_inv h
        obtain ⟨⟨h32a, h32b⟩, h32c⟩ := geti_E EIIIIl h31
        try simp only [AE, TY, EN, seval] at h32c
        try simp only [AE, TY, EN, seval] at h32b
        have h33 := set_E EIIIIl ((q11.1, q11.2.1, IntKind.wrap .i64 ((IntKind.wrap .i64 (v5 + 1)) + 1), q11.2.2.2)) 2 [.int .i64 (IntKind.wrap .i64 ((IntKind.wrap .i64 (v5 + 1)) + 1))] h31 (Nat.le_of_ble_eq_true rfl) rfl
        obtain ⟨h33a, h33b⟩ := h33
        try simp only [AE, TY, EN, seval] at h33a
        try simp only [AE, TY, EN, seval] at h33b
        simp only [AE, TY, EN, seval, h32a, h32b, h32c, h33a, h33b]
        refine hK _ _ _ ?_
        clear hK K
        refine AW_rs (BR := BR) FM (by rw [hN]; kernel_rfl) (by kernel_rfl) ?_
        intro K hK
        simp only [AE, TY, EN, seval]
        refine hK _ _ _ ?_
        clear hK K
        refine AW_rs (BR := BR) FM (by rw [hN]; kernel_rfl) (by kernel_rfl) ?_
        intro K hK
        obtain ⟨q12, h34, h⟩ := bO_inv h
        obtain ⟨⟨h35a, h35b⟩, h35c⟩ := geti_E EIIIIl h34
        try simp only [AE, TY, EN, seval] at h35c
        try simp only [AE, TY, EN, seval] at h35b
        have h36 := set_E EIIIIl ((q12.1, q12.2.1, q12.2.2.1, IntKind.wrap .i64 ((IntKind.wrap .i64 ((IntKind.wrap .i64 (v5 + 1)) + 1)) + 1))) 3 [.int .i64 (IntKind.wrap .i64 ((IntKind.wrap .i64 ((IntKind.wrap .i64 (v5 + 1)) + 1)) + 1))] h34 (Nat.le_of_ble_eq_true rfl) rfl
        obtain ⟨h36a, h36b⟩ := h36
        try simp only [AE, TY, EN, seval] at h36a
        try simp only [AE, TY, EN, seval] at h36b
        simp only [AE, TY, EN, seval, h35a, h35b, h35c, h36a, h36b]
        refine hK _ _ _ ?_
        clear hK K
        refine AW_re (BR := BR) FM (by rw [hN]; kernel_rfl) (by kernel_rfl) ?_
        intro K hK
        simp only [AE, TY, EN, seval]
        refine hK _ _ _ (show AW _ _ _ _ _ from ?_)
        refine AW_re (BR := BR) FM (by rw [hN]; kernel_rfl) (by kernel_rfl) ?_
        intro K hK
        simp only [AE, TY, EN, seval]
        refine hK _ _ _ (show cutK _ _ _ from cutL ⟨_, _, _, rfl, h⟩ (Le_can [(0, some 0)] [] hρ (by kernel_rfl) ?_ ?_))
        · simp only [AL, AE, TY, EN, seval]
        · simp only [AL, AE, TY, EN, seval]
      · refine AW_exit (show cutK _ _ _ from cutL ⟨_, _, rfl, h⟩ (Le_can [(0, some 0)] [] hρ (by kernel_rfl) ?_ ?_))
        · simp only [AL, AE, TY, EN, seval]
        · simp only [AL, AE, TY, EN, seval]
  · rintro S ⟨v7, v8, rfl, h⟩
    unfold l_markGateS_j1 at h
    refine AW_rs (BR := BR) FM (by rw [hN]; kernel_rfl) (by kernel_rfl) ?_
    intro K hK
    simp only [AE, TY, EN, seval]
    refine hK _ _ _ ?_
    clear hK K
    injection h with h
    subst h
    refine AW_le (Le_can (lt := [(4, .int .i64 v8)]) (lr := [(0, .row 57 4 (encL EIIII v7))]) (b' := 64) [(0, some 0)] [] hρ (by kernel_rfl) ?_ ?_) (AW_ret (end_q [0] (.inr rfl) (by kernel_rfl) (by kernel_rfl) ?_))
    · simp only [AL, AE, TY, EN, seval]
    · simp only [AL, AE, TY, EN, seval]
    · simp only [AE, TY, EN, Try.results60, seval]
/- laws.markCircuit -/
def l_markCircuit (a1 : Int) (a2 : List (Int × Int × Int × Int)) (a3 : Int) : Option (Int × List (Int × Int × Int × Int)) :=
  bO (l_markGateS a2 a3) fun x1 => gd (decide (x1.2.length = a2.length)) (some (x1.1, x1.2))
set_option maxHeartbeats 4000000 in
theorem l_markCircuit_ok {a1 : Int} {a2 : List (Int × Int × Int × Int)} {a3 : Int} {r : Int × List (Int × Int × Int × Int)} (h : l_markCircuit a1 a2 a3 = some r) :
    Spec Try.prog 66 [.agg [.int .i64 a1, .own 0 a2.length], .int .i64 a3] [.row 57 4 (encL EIIII a2)] (.int .i64 r.1) [.row 57 4 (encL EIIII r.2)] := by
  unfold l_markCircuit at h
  refine spec_of Try.func66 rfl (by kernel_rfl) (by simp only [Try.ntmps66, List.length_cons, List.length_nil, Nat.reduceAdd, Nat.reduceLeDiff]) ?_
  intro C hN hρ
  rw [Try.ntmps66] at hN
  unfold st0
  simp only [tmps0, Nat.zero_add, Nat.reduceAdd]
  refine AW_rs (BR := BR) FM (by rw [hN]; kernel_rfl) (by kernel_rfl) ?_
  intro K hK
  simp only [AE, TY, EN, seval]
  refine hK _ _ _ ?_
  clear hK K
  refine AW_rs (BR := BR) FM (by rw [hN]; kernel_rfl) (by kernel_rfl) ?_
  intro K hK
  obtain ⟨x1, h1, h⟩ := bO_inv h
  simp only [AE, TY, EN, seval]
  obtain ⟨h2, h⟩ := gd_inv h
  replace h2 := of_decide_eq_true h2
  refine rR_p [0] (l_markGateS_ok h1) (by simp only [AL, AE, TY, EN, seval, h2]) (by simp only [AL, AE, TY, EN, seval, h2]) (by kernel_rfl) (by simp only [AE, TY, EN, solidO, List.mem_cons, List.not_mem_nil, or_false, forall_eq_or_imp, forall_eq, seval]) (by simp only [List.length_cons, List.length_nil, Nat.zero_add, Nat.reduceAdd, Nat.reduceLeDiff, Nat.le_refl]) (by simp only [List.length_cons, List.length_nil, Nat.zero_add, Nat.reduceAdd, Nat.reduceSub, Nat.reduceLeDiff, Nat.sub_self, Nat.zero_le]) (by intro j hj; exact absurd hj (Nat.not_lt_zero _)) ?_
  simp only [AE, TY, EN, seval, h2]
  refine hK _ _ _ ?_
  clear hK K
  refine AW_rs (BR := BR) FM (by rw [hN]; kernel_rfl) (by kernel_rfl) ?_
  intro K hK
  simp only [AE, TY, EN, seval, h2]
  refine hK _ _ _ ?_
  clear hK K
  injection h with h
  subst h
  refine AW_le (Le_can (lt := [(4, .int .i64 x1.1)]) (lr := [(0, .row 57 4 (encL EIIII x1.2))]) (b' := 64) [(0, some 0)] [] hρ (by kernel_rfl) ?_ ?_) (AW_ret (end_q [0] (.inr rfl) (by kernel_rfl) (by kernel_rfl) ?_))
  · simp only [AL, AE, TY, EN, seval, h2]
  · simp only [AL, AE, TY, EN, seval, h2]
  · simp only [AE, TY, EN, Try.results66, seval]
/- laws.FnExactCircuitTableau -/
def l_FnExactCircuitTableau_j3 (x5 : Int × List (Int × Int × Int × Int) × Bool) (x17 : Int × List (Int × Int × Int × Int)) (v3 : Bool) : Option Bool :=
  br v3 (some false) (bO (l_heldTableau x5.1 x17.2 1) fun x23 => br (decide (x23 < 0)) (some false) (br (x23 != x17.1) (some false) (some true)))
def l_FnExactCircuitTableau_j2 (a1 : Int) (a2 : List (Int × Int × Int × Int)) (x3 : Int × List (Int × Int × Int × Int) × Bool) (x5 : Int × List (Int × Int × Int × Int) × Bool) (v2 : Bool) : Option Bool :=
  br v2 (some false) (bO (l_markTableau x5.1 x5.2.1 1) fun x17 => gd (decide (x17.2.length = x5.2.1.length)) (bO (l_heldTableau x5.1 x17.2 1) fun x18 => br (decide (x18 < 0)) (some false) (br (x18 != x17.1) (some false) (bO (l_toCircuit a1 a2) fun x19 => bO (i_CircuitTableau x19.1 x19.2) fun x20 => bO (l_eqTableau x20.1 x20.2.1 x3.1 x3.2.1) fun x21 => bO (br (!x21) (some true) (some (x20.2.2 != x3.2.2))) fun x22 => l_FnExactCircuitTableau_j3 x5 x17 x22))))
def l_FnExactCircuitTableau_j1 (a1 : Int) (a2 : List (Int × Int × Int × Int)) (x3 : Int × List (Int × Int × Int × Int) × Bool) (x4 : Int × List (Int × Int × Int × Int)) (x5 : Int × List (Int × Int × Int × Int) × Bool) (v1 : Bool) : Option Bool :=
  br v1 (some false) (bO (l_toCircuit a1 a2) fun x8 => bO (l_eqCircuit x4.1 x4.2 x8.1 x8.2) fun x9 => br (!x9) (some false) (bO (l_markCircuit x4.1 x4.2 1) fun x10 => gd (decide (x10.2.length = x4.2.length)) (bO (br (decide (x10.1 < 0)) (some true) (bO (l_eqTableau x5.1 x5.2.1 x3.1 x3.2.1) fun x11 => some (!x11))) fun x12 => bO (br x12 (some true) (some (x5.2.2 != x3.2.2))) fun x13 => l_FnExactCircuitTableau_j2 a1 a2 x3 x5 x13)))
def l_FnExactCircuitTableau (a1 : Int) (a2 : List (Int × Int × Int × Int)) : Option Bool :=
  bO (l_szCircuit a1 a2 1048576) fun x1 => br (decide (x1 < 0)) (some true) (bO (l_toCircuit a1 a2) fun x2 => bO (s_CircuitTableau x2.1 x2.2) fun x3 => bO (l_toCircuit a1 a2) fun x4 => bO (i_CircuitTableau x4.1 x4.2) fun x5 => bO (l_eqTableau x5.1 x5.2.1 x3.1 x3.2.1) fun x6 => bO (br (!x6) (some true) (some (x5.2.2 != x3.2.2))) fun x7 => l_FnExactCircuitTableau_j1 a1 a2 x3 x4 x5 x7)
set_option maxHeartbeats 4000000 in
theorem l_FnExactCircuitTableau_ok {a1 : Int} {a2 : List (Int × Int × Int × Int)} {r : Bool} (h : l_FnExactCircuitTableau a1 a2 = some r) :
    Spec Try.prog 14 [.agg [.int .i64 a1, .sl (encL EIIII a2) a2.length]] [] (.bool r) [] := by
  unfold l_FnExactCircuitTableau at h
  refine spec_of Try.func14 rfl (by kernel_rfl) (by simp only [Try.ntmps14, List.length_cons, List.length_nil, Nat.reduceAdd, Nat.reduceLeDiff]) ?_
  intro C hN hρ
  rw [Try.ntmps14] at hN
  unfold st0
  simp only [tmps0, Nat.zero_add, Nat.reduceAdd]
  refine AW_rs (BR := BR) FM (by rw [hN]; kernel_rfl) (by kernel_rfl) ?_
  intro K hK
  simp only [AE, TY, EN, seval]
  refine hK _ _ _ ?_
  clear hK K
  refine AW_rs (BR := BR) FM (by rw [hN]; kernel_rfl) (by kernel_rfl) ?_
  intro K hK
  simp only [AE, TY, EN, seval]
  refine hK _ _ _ ?_
  clear hK K
  refine AW_rs (BR := BR) FM (by rw [hN]; kernel_rfl) (by kernel_rfl) ?_
  intro K hK
  obtain ⟨x1, h1, h⟩ := bO_inv h
  simp only [AE, TY, EN, seval]
  refine rC_p (l_szCircuit_ok h1) (by simp only [AL, AE, TY, EN, seval]) (by simp only [List.length_cons, List.length_nil, Nat.zero_add, Nat.reduceAdd, Nat.reduceLeDiff, Nat.zero_le]) (by intro j hj; exact absurd hj (Nat.not_lt_zero _)) ?_
  simp only [AE, TY, EN, seval]
  refine hK _ _ _ ?_
  clear hK K
  refine AW_seq ?_
  refine AW_rs (BR := BR) FM (by rw [hN]; kernel_rfl) (by kernel_rfl) ?_
  intro K hK
  simp only [AE, TY, EN, seval]
  refine hK _ _ _ ?_
  clear hK K
  refine AW_condK (a := .bool (decide (x1 < 0))) (by simp only [AE, TY, EN, seval]) (brK h (fun hc1 h => ?_) (fun hc1 h => ?_))
  · refine AW_rs (BR := BR) FM (by rw [hN]; kernel_rfl) (by kernel_rfl) ?_
    intro K hK
    simp only [AE, TY, EN, seval]
    refine hK _ _ _ ?_
    clear hK K
    injection h with h
    subst h
    refine AW_le (Le_can (lt := [(2, .bool true)]) (lr := []) (b' := 64) [] [] hρ (by kernel_rfl) ?_ ?_) (AW_ret (end_q [] (.inr rfl) (by kernel_rfl) (by kernel_rfl) ?_))
    · simp only [AL, AE, TY, EN, seval]
    · simp only [AL, AE, TY, EN, seval]
    · simp only [AE, TY, EN, Try.results14, seval]
  · refine AW_skip (show AW _ _ _ _ _ from ?_)
    refine AW_rs (BR := BR) FM (by rw [hN]; kernel_rfl) (by kernel_rfl) ?_
    intro K hK
    obtain ⟨x2, h2, h⟩ := bO_inv h
    simp only [AE, TY, EN, seval]
    refine rC_p (l_toCircuit_ok h2) (by simp only [AL, AE, TY, EN, seval]) (by simp only [List.length_cons, List.length_nil, Nat.zero_add, Nat.reduceAdd, Nat.reduceLeDiff, Nat.zero_le]) (site_1 (by simp only [AE, TY, EN, seval])) ?_
    obtain ⟨x3, h3, h⟩ := bO_inv h
    simp only [AE, TY, EN, seval]
    refine rC_l (s_CircuitTableau_ok h3) (by simp only [AL, AE, TY, EN, seval]) (by simp only [AL, EF, and_self]) (by simp only [List.length_cons, List.length_nil, Nat.zero_add, Nat.reduceAdd, Nat.reduceLeDiff, Nat.zero_le]) (site_1 (by simp only [AE, TY, EN, seval])) ?_
    simp only [AE, TY, EN, seval]
    refine hK _ _ _ ?_
    clear hK K
    refine AW_rs (BR := BR) FM (by rw [hN]; kernel_rfl) (by kernel_rfl) ?_
    intro K hK
    obtain ⟨x4, h4, h⟩ := bO_inv h
    simp only [AE, TY, EN, seval]
    refine rC_p (l_toCircuit_ok h4) (by simp only [AL, AE, TY, EN, seval]) (by simp only [List.length_cons, List.length_nil, Nat.zero_add, Nat.reduceAdd, Nat.reduceLeDiff, Nat.zero_le]) (site_1 (by simp only [AE, TY, EN, seval])) ?_
    simp only [AE, TY, EN, seval]
    refine hK _ _ _ ?_
    clear hK K
    refine AW_rs (BR := BR) FM (by rw [hN]; kernel_rfl) (by kernel_rfl) ?_
    intro K hK
    obtain ⟨x5, h5, h⟩ := bO_inv h
    simp only [AE, TY, EN, seval]
    refine rC_l (i_CircuitTableau_ok h5) (by simp only [AL, AE, TY, EN, seval]) (by simp only [AL, EF, and_self]) (by simp only [List.length_cons, List.length_nil, Nat.zero_add, Nat.reduceAdd, Nat.reduceLeDiff, Nat.zero_le]) (site_1 (by simp only [AE, TY, EN, seval])) ?_
    simp only [AE, TY, EN, seval]
    refine hK _ _ _ ?_
    clear hK K
    refine AW_seq ?_
    refine AW_rsJ (BR := BR) (fun S => ∃ (v1 : Bool), S = ⟨mkT [(1, .ptr 32 0), (4, .ptr 33 0), (5, .bool x3.2.2), (6, .ptr 34 0), (7, .ptr 35 0), (8, .bool x5.2.2), (40, .bool v1)], mkR [(32, .box 91 [.int .i64 a1, .sl (encL EIIII a2) a2.length]), (33, .box 33 [.int .i64 x3.1, .own 36 x3.2.1.length]), (34, .box 95 [.int .i64 x4.1, .own 37 x4.2.length]), (35, .box 33 [.int .i64 x5.1, .own 38 x5.2.1.length]), (36, .row 28 4 (encL EIIII x3.2.1)), (37, .row 57 4 (encL EIIII x4.2)), (38, .row 28 4 (encL EIIII x5.2.1))], 64⟩ ∧ l_FnExactCircuitTableau_j1 a1 a2 x3 x4 x5 v1 = some r) FM (by rw [hN]; kernel_rfl) (by kernel_rfl) ?_ ?_
    · intro K hK
      obtain ⟨x6, h6, h⟩ := bO_inv h
      simp only [AE, TY, EN, seval]
      refine rC_l (l_eqTableau_ok h6) (by simp only [AL, AE, TY, EN, seval]) (by simp only [AL, EF, and_self]) (by simp only [List.length_cons, List.length_nil, Nat.zero_add, Nat.reduceAdd, Nat.reduceLeDiff, Nat.zero_le]) (by intro j hj; exact absurd hj (Nat.not_lt_zero _)) ?_
      obtain ⟨x7, hv1, h⟩ := bO_inv h
      rcases br_inv hv1 with ⟨hc2, hv1⟩ | ⟨hc2, hv1⟩
      · cases hv1
        simp only [AE, TY, EN, seval, hc2]
        refine hK _ _ _ (show cutK _ _ _ from cutL ⟨_, rfl, h⟩ (Le_can [(32, some 64), (33, some 4256), (34, some 5216), (35, some 6288), (36, some 4192), (37, some 5200), (38, some 6224)] [] hρ (by kernel_rfl) ?_ ?_))
        · simp only [AL, AE, TY, EN, seval, hc2]
        · simp only [AL, AE, TY, EN, seval, hc2]
      · cases hv1
        simp only [AE, TY, EN, seval, hc2]
        refine hK _ _ _ (show cutK _ _ _ from cutL ⟨_, rfl, h⟩ (Le_can [(32, some 64), (33, some 4256), (34, some 5216), (35, some 6288), (36, some 4192), (37, some 5200), (38, some 6224)] [] hρ (by kernel_rfl) ?_ ?_))
        · simp only [AL, AE, TY, EN, seval, hc2]
        · simp only [AL, AE, TY, EN, seval, hc2]
    · rintro S ⟨v1, rfl, h⟩
      unfold l_FnExactCircuitTableau_j1 at h
      refine AW_condK (a := .bool v1) (by simp only [AE, TY, EN, seval]) (brK h (fun hc3 h => ?_) (fun hc3 h => ?_))
      · refine AW_rs (BR := BR) FM (by rw [hN]; kernel_rfl) (by kernel_rfl) ?_
        intro K hK
        simp only [AE, TY, EN, seval]
        refine hK _ _ _ ?_
        clear hK K
        injection h with h
        subst h
        refine AW_le (Le_can (lt := [(2, .bool false)]) (lr := []) (b' := 64) [] [] hρ (by kernel_rfl) ?_ ?_) (AW_ret (end_q [] (.inr rfl) (by kernel_rfl) (by kernel_rfl) ?_))
        · simp only [AL, AE, TY, EN, seval]
        · simp only [AL, AE, TY, EN, seval]
        · simp only [AE, TY, EN, Try.results14, seval]
      · refine AW_skip (show AW _ _ _ _ _ from ?_)
        refine AW_seq ?_
        refine AW_rs (BR := BR) FM (by rw [hN]; kernel_rfl) (by kernel_rfl) ?_
        intro K hK
        obtain ⟨x8, h7, h⟩ := bO_inv h
        simp only [AE, TY, EN, seval]
        refine rC_p (l_toCircuit_ok h7) (by simp only [AL, AE, TY, EN, seval]) (by simp only [List.length_cons, List.length_nil, Nat.zero_add, Nat.reduceAdd, Nat.reduceLeDiff, Nat.zero_le]) (site_1 (by simp only [AE, TY, EN, seval])) ?_
        obtain ⟨x9, h8, h⟩ := bO_inv h
        simp only [AE, TY, EN, seval]
        refine rC_l (l_eqCircuit_ok h8) (by simp only [AL, AE, TY, EN, seval]) (by simp only [AL, EF, and_self]) (by simp only [List.length_cons, List.length_nil, Nat.zero_add, Nat.reduceAdd, Nat.reduceLeDiff, Nat.zero_le]) (by intro j hj; exact absurd hj (Nat.not_lt_zero _)) ?_
        simp only [AE, TY, EN, seval]
        refine hK _ _ _ ?_
        clear hK K
        refine AW_condK (a := .bool (!x9)) (by simp only [AE, TY, EN, seval]) (brK h (fun hc4 h => ?_) (fun hc4 h => ?_))
        · refine AW_rs (BR := BR) FM (by rw [hN]; kernel_rfl) (by kernel_rfl) ?_
          intro K hK
          simp only [AE, TY, EN, seval]
          refine hK _ _ _ ?_
          clear hK K
          injection h with h
          subst h
          refine AW_le (Le_can (lt := [(2, .bool false)]) (lr := []) (b' := 64) [] [] hρ (by kernel_rfl) ?_ ?_) (AW_ret (end_q [] (.inr rfl) (by kernel_rfl) (by kernel_rfl) ?_))
          · simp only [AL, AE, TY, EN, seval]
          · simp only [AL, AE, TY, EN, seval]
          · simp only [AE, TY, EN, Try.results14, seval]
        · refine AW_skip (show AW _ _ _ _ _ from ?_)
          refine AW_rs (BR := BR) FM (by rw [hN]; kernel_rfl) (by kernel_rfl) ?_
          intro K hK
          simp only [AE, TY, EN, seval]
          refine hK _ _ _ ?_
          clear hK K
          refine AW_rs (BR := BR) FM (by rw [hN]; kernel_rfl) (by kernel_rfl) ?_
          intro K hK
          obtain ⟨x10, h9, h⟩ := bO_inv h
          simp only [AE, TY, EN, seval]
          obtain ⟨h10, h⟩ := gd_inv h
          replace h10 := of_decide_eq_true h10
          refine rR_p [37] (l_markCircuit_ok h9) (by simp only [AL, AE, TY, EN, seval, h10]) (by simp only [AL, AE, TY, EN, seval, h10]) (by kernel_rfl) (by simp only [AE, TY, EN, solidO, List.mem_cons, List.not_mem_nil, or_false, forall_eq_or_imp, forall_eq, seval]) (by simp only [List.length_cons, List.length_nil, Nat.zero_add, Nat.reduceAdd, Nat.reduceLeDiff, Nat.le_refl]) (by simp only [List.length_cons, List.length_nil, Nat.zero_add, Nat.reduceAdd, Nat.reduceSub, Nat.reduceLeDiff, Nat.sub_self, Nat.zero_le]) (by intro j hj; exact absurd hj (Nat.not_lt_zero _)) ?_
          simp only [AE, TY, EN, seval, h10]
          refine hK _ _ _ ?_
          clear hK K
          refine AW_seq ?_
          refine AW_rsJ (BR := BR) (fun S => ∃ (v2 : Bool), S = ⟨mkT [(1, .ptr 32 0), (4, .ptr 33 0), (5, .bool x3.2.2), (7, .ptr 34 0), (61, .bool v2)], mkR [(32, .box 91 [.int .i64 a1, .sl (encL EIIII a2) a2.length]), (33, .box 33 [.int .i64 x3.1, .own 35 x3.2.1.length]), (34, .box 33 [.int .i64 x5.1, .own 36 x5.2.1.length]), (35, .row 28 4 (encL EIIII x3.2.1)), (36, .row 28 4 (encL EIIII x5.2.1))], 64⟩ ∧ l_FnExactCircuitTableau_j2 a1 a2 x3 x5 v2 = some r) FM (by rw [hN]; kernel_rfl) (by kernel_rfl) ?_ ?_
          · intro K hK
            obtain ⟨x12, hv2, h⟩ := bO_inv h
            rcases br_inv hv2 with ⟨hc5, hv2⟩ | ⟨hc5, hv2⟩
            · cases hv2
              obtain ⟨x14, hv4, h⟩ := bO_inv h
              replace hv4 := br_t hv4
              cases hv4
              try dsimp only at h
              simp only [AE, TY, EN, seval, hc5, h10]
              refine hK _ _ _ (show cutK _ _ _ from cutL ⟨_, rfl, h⟩ (Le_can [(32, some 32), (33, some 33), (34, some 35), (35, some 36), (36, some 38)] [] hρ (by kernel_rfl) ?_ ?_))
              · simp only [AL, AE, TY, EN, seval, hc5, h10]
              · simp only [AL, AE, TY, EN, seval, hc5, h10]
            · obtain ⟨x15, h12, hv2⟩ := bO_inv hv2
              simp only [AE, TY, EN, seval, hc5, h10]
              refine rC_l (l_eqTableau_ok h12) (by simp only [AL, AE, TY, EN, seval, hc5, h10]) (by simp only [AL, EF, and_self]) (by simp only [List.length_cons, List.length_nil, Nat.zero_add, Nat.reduceAdd, Nat.reduceLeDiff, Nat.zero_le]) (by intro j hj; exact absurd hj (Nat.not_lt_zero _)) ?_
              cases hv2
              obtain ⟨x16, hv5, h⟩ := bO_inv h
              rcases br_inv hv5 with ⟨hc7, hv5⟩ | ⟨hc7, hv5⟩
              · cases hv5
                simp only [AE, TY, EN, seval, hc5, hc7, h10]
                refine hK _ _ _ (show cutK _ _ _ from cutL ⟨_, rfl, h⟩ (Le_can [(32, some 32), (33, some 33), (34, some 35), (35, some 36), (36, some 38)] [] hρ (by kernel_rfl) ?_ ?_))
                · simp only [AL, AE, TY, EN, seval, hc5, hc7, h10]
                · simp only [AL, AE, TY, EN, seval, hc5, hc7, h10]
              · cases hv5
                simp only [AE, TY, EN, seval, hc5, hc7, h10]
                refine hK _ _ _ (show cutK _ _ _ from cutL ⟨_, rfl, h⟩ (Le_can [(32, some 32), (33, some 33), (34, some 35), (35, some 36), (36, some 38)] [] hρ (by kernel_rfl) ?_ ?_))
                · simp only [AL, AE, TY, EN, seval, hc5, hc7, h10]
                · simp only [AL, AE, TY, EN, seval, hc5, hc7, h10]
          · rintro S ⟨v2, rfl, h⟩
            unfold l_FnExactCircuitTableau_j2 at h
            refine AW_condK (a := .bool v2) (by simp only [AE, TY, EN, seval, h10]) (brK h (fun hc8 h => ?_) (fun hc8 h => ?_))
            · refine AW_rs (BR := BR) FM (by rw [hN]; kernel_rfl) (by kernel_rfl) ?_
              intro K hK
              simp only [AE, TY, EN, seval, h10]
              refine hK _ _ _ ?_
              clear hK K
              injection h with h
              subst h
              refine AW_le (Le_can (lt := [(2, .bool false)]) (lr := []) (b' := 64) [] [] hρ (by kernel_rfl) ?_ ?_) (AW_ret (end_q [] (.inr rfl) (by kernel_rfl) (by kernel_rfl) ?_))
              · simp only [AL, AE, TY, EN, seval, h10]
              · simp only [AL, AE, TY, EN, seval, h10]
              · simp only [AE, TY, EN, Try.results14, seval]
            · refine AW_skip (show AW _ _ _ _ _ from ?_)
              refine AW_rs (BR := BR) FM (by rw [hN]; kernel_rfl) (by kernel_rfl) ?_
              intro K hK
              simp only [AE, TY, EN, seval, h10]
              refine hK _ _ _ ?_
              clear hK K
              refine AW_rs (BR := BR) FM (by rw [hN]; kernel_rfl) (by kernel_rfl) ?_
              intro K hK
              obtain ⟨x17, h13, h⟩ := bO_inv h
              simp only [AE, TY, EN, seval, h10]
              obtain ⟨h14, h⟩ := gd_inv h
              replace h14 := of_decide_eq_true h14
              refine rR_p [36] (l_markTableau_ok h13) (by simp only [AL, AE, TY, EN, seval, h10, h14]) (by simp only [AL, AE, TY, EN, seval, h10, h14]) (by kernel_rfl) (by simp only [AE, TY, EN, solidO, List.mem_cons, List.not_mem_nil, or_false, forall_eq_or_imp, forall_eq, seval]) (by simp only [List.length_cons, List.length_nil, Nat.zero_add, Nat.reduceAdd, Nat.reduceLeDiff, Nat.le_refl]) (by simp only [List.length_cons, List.length_nil, Nat.zero_add, Nat.reduceAdd, Nat.reduceSub, Nat.reduceLeDiff, Nat.sub_self, Nat.zero_le]) (by intro j hj; exact absurd hj (Nat.not_lt_zero _)) ?_
              simp only [AE, TY, EN, seval, h10, h14]
              refine hK _ _ _ ?_
              clear hK K
              refine AW_rs (BR := BR) FM (by rw [hN]; kernel_rfl) (by kernel_rfl) ?_
              intro K hK
              simp only [AE, TY, EN, seval, h10, h14]
              refine hK _ _ _ ?_
              clear hK K
              refine AW_rs (BR := BR) FM (by rw [hN]; kernel_rfl) (by kernel_rfl) ?_
              intro K hK
              obtain ⟨x18, h15, h⟩ := bO_inv h
              simp only [AE, TY, EN, seval, h10, h14]
              refine rC_l (l_heldTableau_ok h15) (by simp only [AL, AE, TY, EN, seval, h10, h14]) (by simp only [AL, EF, and_self]) (by simp only [List.length_cons, List.length_nil, Nat.zero_add, Nat.reduceAdd, Nat.reduceLeDiff, Nat.zero_le]) (by intro j hj; exact absurd hj (Nat.not_lt_zero _)) ?_
              simp only [AE, TY, EN, seval, h10, h14]
              refine hK _ _ _ ?_
              clear hK K
              refine AW_seq ?_
              refine AW_rs (BR := BR) FM (by rw [hN]; kernel_rfl) (by kernel_rfl) ?_
              intro K hK
              simp only [AE, TY, EN, seval, h10, h14]
              refine hK _ _ _ ?_
              clear hK K
              refine AW_condK (a := .bool (decide (x18 < 0))) (by simp only [AE, TY, EN, seval, h10, h14]) (brK h (fun hc9 h => ?_) (fun hc9 h => ?_))
              · refine AW_rs (BR := BR) FM (by rw [hN]; kernel_rfl) (by kernel_rfl) ?_
                intro K hK
                simp only [AE, TY, EN, seval, h10, h14]
                refine hK _ _ _ ?_
                clear hK K
                injection h with h
                subst h
                refine AW_le (Le_can (lt := [(2, .bool false)]) (lr := []) (b' := 64) [] [] hρ (by kernel_rfl) ?_ ?_) (AW_ret (end_q [] (.inr rfl) (by kernel_rfl) (by kernel_rfl) ?_))
                · simp only [AL, AE, TY, EN, seval, h10, h14]
                · simp only [AL, AE, TY, EN, seval, h10, h14]
                · simp only [AE, TY, EN, Try.results14, seval]
              · refine AW_skip (show AW _ _ _ _ _ from ?_)
                refine AW_seq ?_
                refine AW_rs (BR := BR) FM (by rw [hN]; kernel_rfl) (by kernel_rfl) ?_
                intro K hK
                simp only [AE, TY, EN, seval, h10, h14]
                refine hK _ _ _ ?_
                clear hK K
                refine AW_condK (a := .bool (x18 != x17.1)) (by simp only [AE, TY, EN, seval, h10, h14]) (brK h (fun hc10 h => ?_) (fun hc10 h => ?_))
                · refine AW_rs (BR := BR) FM (by rw [hN]; kernel_rfl) (by kernel_rfl) ?_
                  intro K hK
                  simp only [AE, TY, EN, seval, h10, h14]
                  refine hK _ _ _ ?_
                  clear hK K
                  injection h with h
                  subst h
                  refine AW_le (Le_can (lt := [(2, .bool false)]) (lr := []) (b' := 64) [] [] hρ (by kernel_rfl) ?_ ?_) (AW_ret (end_q [] (.inr rfl) (by kernel_rfl) (by kernel_rfl) ?_))
                  · simp only [AL, AE, TY, EN, seval, h10, h14]
                  · simp only [AL, AE, TY, EN, seval, h10, h14]
                  · simp only [AE, TY, EN, Try.results14, seval]
                · refine AW_skip (show AW _ _ _ _ _ from ?_)
                  refine AW_rs (BR := BR) FM (by rw [hN]; kernel_rfl) (by kernel_rfl) ?_
                  intro K hK
                  obtain ⟨x19, h16, h⟩ := bO_inv h
                  simp only [AE, TY, EN, seval, h10, h14]
                  refine rC_p (l_toCircuit_ok h16) (by simp only [AL, AE, TY, EN, seval, h10, h14]) (by simp only [List.length_cons, List.length_nil, Nat.zero_add, Nat.reduceAdd, Nat.reduceLeDiff, Nat.zero_le]) (site_1 (by simp only [AE, TY, EN, seval])) ?_
                  obtain ⟨x20, h17, h⟩ := bO_inv h
                  simp only [AE, TY, EN, seval, h10, h14]
                  refine rC_l (i_CircuitTableau_ok h17) (by simp only [AL, AE, TY, EN, seval, h10, h14]) (by simp only [AL, EF, and_self]) (by simp only [List.length_cons, List.length_nil, Nat.zero_add, Nat.reduceAdd, Nat.reduceLeDiff, Nat.zero_le]) (site_1 (by simp only [AE, TY, EN, seval])) ?_
                  simp only [AE, TY, EN, seval, h10, h14]
                  refine hK _ _ _ ?_
                  clear hK K
                  refine AW_seq ?_
                  refine AW_rsJ (BR := BR) (fun S => ∃ (v3 : Bool), S = ⟨mkT [(7, .ptr 32 0), (10, .int .i64 x17.1), (87, .bool v3)], mkR [(32, .box 33 [.int .i64 x5.1, .own 33 x17.2.length]), (33, .row 28 4 (encL EIIII x17.2))], 64⟩ ∧ l_FnExactCircuitTableau_j3 x5 x17 v3 = some r) FM (by rw [hN]; kernel_rfl) (by kernel_rfl) ?_ ?_
                  · intro K hK
                    obtain ⟨x21, h18, h⟩ := bO_inv h
                    simp only [AE, TY, EN, seval, h10, h14]
                    refine rC_l (l_eqTableau_ok h18) (by simp only [AL, AE, TY, EN, seval, h10, h14]) (by simp only [AL, EF, and_self]) (by simp only [List.length_cons, List.length_nil, Nat.zero_add, Nat.reduceAdd, Nat.reduceLeDiff, Nat.zero_le]) (by intro j hj; exact absurd hj (Nat.not_lt_zero _)) ?_
                    obtain ⟨x22, hv6, h⟩ := bO_inv h
                    rcases br_inv hv6 with ⟨hc11, hv6⟩ | ⟨hc11, hv6⟩
                    · cases hv6
                      simp only [AE, TY, EN, seval, hc11, h10, h14]
                      refine hK _ _ _ (show cutK _ _ _ from cutL ⟨_, rfl, h⟩ (Le_can [(32, some 34), (33, some 36)] [] hρ (by kernel_rfl) ?_ ?_))
                      · simp only [AL, AE, TY, EN, seval, hc11, h10, h14]
                      · simp only [AL, AE, TY, EN, seval, hc11, h10, h14]
                    · cases hv6
                      simp only [AE, TY, EN, seval, hc11, h10, h14]
                      refine hK _ _ _ (show cutK _ _ _ from cutL ⟨_, rfl, h⟩ (Le_can [(32, some 34), (33, some 36)] [] hρ (by kernel_rfl) ?_ ?_))
                      · simp only [AL, AE, TY, EN, seval, hc11, h10, h14]
                      · simp only [AL, AE, TY, EN, seval, hc11, h10, h14]
                  · rintro S ⟨v3, rfl, h⟩
                    unfold l_FnExactCircuitTableau_j3 at h
                    refine AW_condK (a := .bool v3) (by simp only [AE, TY, EN, seval, h10, h14]) (brK h (fun hc12 h => ?_) (fun hc12 h => ?_))
                    · refine AW_rs (BR := BR) FM (by rw [hN]; kernel_rfl) (by kernel_rfl) ?_
                      intro K hK
                      simp only [AE, TY, EN, seval, h10, h14]
                      refine hK _ _ _ ?_
                      clear hK K
                      injection h with h
                      subst h
                      refine AW_le (Le_can (lt := [(2, .bool false)]) (lr := []) (b' := 64) [] [] hρ (by kernel_rfl) ?_ ?_) (AW_ret (end_q [] (.inr rfl) (by kernel_rfl) (by kernel_rfl) ?_))
                      · simp only [AL, AE, TY, EN, seval, h10, h14]
                      · simp only [AL, AE, TY, EN, seval, h10, h14]
                      · simp only [AE, TY, EN, Try.results14, seval]
                    · refine AW_skip (show AW _ _ _ _ _ from ?_)
                      refine AW_rs (BR := BR) FM (by rw [hN]; kernel_rfl) (by kernel_rfl) ?_
                      intro K hK
                      simp only [AE, TY, EN, seval, h10, h14]
                      refine hK _ _ _ ?_
                      clear hK K
                      refine AW_rs (BR := BR) FM (by rw [hN]; kernel_rfl) (by kernel_rfl) ?_
                      intro K hK
                      obtain ⟨x23, h19, h⟩ := bO_inv h
                      simp only [AE, TY, EN, seval, h10, h14]
                      refine rC_l (l_heldTableau_ok h19) (by simp only [AL, AE, TY, EN, seval, h10, h14]) (by simp only [AL, EF, and_self]) (by simp only [List.length_cons, List.length_nil, Nat.zero_add, Nat.reduceAdd, Nat.reduceLeDiff, Nat.zero_le]) (by intro j hj; exact absurd hj (Nat.not_lt_zero _)) ?_
                      simp only [AE, TY, EN, seval, h10, h14]
                      refine hK _ _ _ ?_
                      clear hK K
                      refine AW_seq ?_
                      refine AW_rs (BR := BR) FM (by rw [hN]; kernel_rfl) (by kernel_rfl) ?_
                      intro K hK
                      simp only [AE, TY, EN, seval, h10, h14]
                      refine hK _ _ _ ?_
                      clear hK K
                      refine AW_condK (a := .bool (decide (x23 < 0))) (by simp only [AE, TY, EN, seval, h10, h14]) (brK h (fun hc13 h => ?_) (fun hc13 h => ?_))
                      · refine AW_rs (BR := BR) FM (by rw [hN]; kernel_rfl) (by kernel_rfl) ?_
                        intro K hK
                        simp only [AE, TY, EN, seval, h10, h14]
                        refine hK _ _ _ ?_
                        clear hK K
                        injection h with h
                        subst h
                        refine AW_le (Le_can (lt := [(2, .bool false)]) (lr := []) (b' := 64) [] [] hρ (by kernel_rfl) ?_ ?_) (AW_ret (end_q [] (.inr rfl) (by kernel_rfl) (by kernel_rfl) ?_))
                        · simp only [AL, AE, TY, EN, seval, h10, h14]
                        · simp only [AL, AE, TY, EN, seval, h10, h14]
                        · simp only [AE, TY, EN, Try.results14, seval]
                      · refine AW_skip (show AW _ _ _ _ _ from ?_)
                        refine AW_seq ?_
                        refine AW_rs (BR := BR) FM (by rw [hN]; kernel_rfl) (by kernel_rfl) ?_
                        intro K hK
                        simp only [AE, TY, EN, seval, h10, h14]
                        refine hK _ _ _ ?_
                        clear hK K
                        refine AW_condK (a := .bool (x23 != x17.1)) (by simp only [AE, TY, EN, seval, h10, h14]) (brK h (fun hc14 h => ?_) (fun hc14 h => ?_))
                        · refine AW_rs (BR := BR) FM (by rw [hN]; kernel_rfl) (by kernel_rfl) ?_
                          intro K hK
                          simp only [AE, TY, EN, seval, h10, h14]
                          refine hK _ _ _ ?_
                          clear hK K
                          injection h with h
                          subst h
                          refine AW_le (Le_can (lt := [(2, .bool false)]) (lr := []) (b' := 64) [] [] hρ (by kernel_rfl) ?_ ?_) (AW_ret (end_q [] (.inr rfl) (by kernel_rfl) (by kernel_rfl) ?_))
                          · simp only [AL, AE, TY, EN, seval, h10, h14]
                          · simp only [AL, AE, TY, EN, seval, h10, h14]
                          · simp only [AE, TY, EN, Try.results14, seval]
                        · refine AW_skip (show AW _ _ _ _ _ from ?_)
                          refine AW_rs (BR := BR) FM (by rw [hN]; kernel_rfl) (by kernel_rfl) ?_
                          intro K hK
                          simp only [AE, TY, EN, seval, h10, h14]
                          refine hK _ _ _ ?_
                          clear hK K
                          injection h with h
                          subst h
                          refine AW_le (Le_can (lt := [(2, .bool true)]) (lr := []) (b' := 64) [] [] hρ (by kernel_rfl) ?_ ?_) (AW_ret (end_q [] (.inr rfl) (by kernel_rfl) (by kernel_rfl) ?_))
                          · simp only [AL, AE, TY, EN, seval, h10, h14]
                          · simp only [AL, AE, TY, EN, seval, h10, h14]
                          · simp only [AE, TY, EN, Try.results14, seval]
end Go.Proofs.Ytfpfalknddfejaa
