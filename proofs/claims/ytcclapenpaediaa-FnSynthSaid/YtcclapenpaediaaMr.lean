/- Models of functions, and that the functions do what the models say; printed by a program. -/
import Derived.Test.YtcclapenpaediaaGn
import Derived.Test.YtcclapenpaediaaMh
import Derived.Test.YtcclapenpaediaaMu
import Derived.Test.YtcclapenpaediaaMb
namespace Go.Proofs.Ytcclapenpaediaa
open Go.RowKit
set_option maxRecDepth 100000
set_option linter.unusedVariables false
set_option linter.unusedSimpArgs false
set_option linter.defProp false
/- spec.l26Copy -/
def s_l26Copy (a1 : Int) (a2 : LQ) : Option (Int × LQ) :=
  gd (decide (([] : LQ).length + a2.length ≤ 16777216)) (some (a1, a2))
set_option maxHeartbeats 4000000 in
theorem s_l26Copy_ok {a1 : Int} {a2 : LQ} {r : Int × LQ} (h : s_l26Copy a1 a2 = some r) :
    Spec Try.prog 76 [.agg [.int .i64 a1, .sl (encL EIIII a2) a2.length]] [] (.agg [.int .i64 r.1, .own 0 r.2.length]) [.row 113 4 (encL EIIII r.2)] := by
  unfold s_l26Copy at h
  refine spec_of Try.func76 rfl (by kernel_rfl) (by simp only [Try.ntmps76, List.length_cons, List.length_nil, Nat.reduceAdd, Nat.reduceLeDiff]) ?_
  intro C hN hρ
  rw [Try.ntmps76] at hN
  unfold st0
  simp only [tmps0, Nat.zero_add, Nat.reduceAdd]
  refine AW_rs (BR := BR) FM (by rw [hN]; kernel_rfl) (by kernel_rfl) ?_
  intro K hK
  simp only [EV, seval]
  refine hK _ _ _ ?_
  clear hK K
  refine AW_rsT (BR := BR) [(1, [64]), (5, [1120, 1168])] (by kernel_rfl) FM (by rw [hN]; kernel_rfl) (by kernel_rfl) ?_
  intro K hK
  obtain ⟨h1, h⟩ := gd_inv h
  replace h1 := of_decide_eq_true h1
  try simp only [EV, seval] at h1
  have h2 := encL_len EIIIIl a2
  simp only [AE, AT, TY, EN, seval, h1, h2]
  refine hK _ _ _ ?_
  clear hK K
  injection h with h
  subst h
  refine AW_le (Le_can (lt := [(2, .ptr 32 0)]) (lr := [(32, .box 31 [.int .i64 a1, .own 33 a2.length]), (33, .row 113 4 (encL EIIII a2))]) (b' := 64) [(32, some 80), (33, some 1168)] [] hρ (by kernel_rfl) ?_ ?_) (AW_ret (end_q [33] (.inr rfl) (by kernel_rfl) (by kernel_rfl) ?_))
  · simp only [AL, EV, seval, h1, h2]
  · simp only [AL, EV, seval, h1, h2]
  · simp only [EV, Try.results76, seval]
/- spec.l28X -/
def s_l28X (a1 : Int) (a2 : Int) (a3 : Int) (a4 : Int) (a5 : Int) : Option Bool :=
  gd (decide (¬ (IntKind.wrap .u64 a5) < 0)) (some ((bits .and .i64 (Int.fdiv a2 (2 ^ min (Int.toNat (IntKind.wrap .u64 a5)) (IntKind.bits .i64))) 1) == 1))
set_option maxHeartbeats 4000000 in
theorem s_l28X_ok {a1 : Int} {a2 : Int} {a3 : Int} {a4 : Int} {a5 : Int} {r : Bool} (h : s_l28X a1 a2 a3 a4 a5 = some r) :
    Spec Try.prog 126 [.agg [.int .i64 a1, .int .i64 a2, .int .i64 a3, .int .i64 a4], .int .i64 a5] [] (.bool r) [] := by
  unfold s_l28X at h
  refine spec_of Try.func126 rfl (by kernel_rfl) (by simp only [Try.ntmps126, List.length_cons, List.length_nil, Nat.reduceAdd, Nat.reduceLeDiff]) ?_
  intro C hN hρ
  rw [Try.ntmps126] at hN
  unfold st0
  simp only [tmps0, Nat.zero_add, Nat.reduceAdd]
  refine AW_rs (BR := BR) FM (by rw [hN]; kernel_rfl) (by kernel_rfl) ?_
  intro K hK
  simp only [EV, seval]
  refine hK _ _ _ ?_
  clear hK K
  refine AW_rs (BR := BR) FM (by rw [hN]; kernel_rfl) (by kernel_rfl) ?_
  intro K hK
  obtain ⟨h1, h⟩ := gd_inv h
  replace h1 := of_decide_eq_true h1
  simp only [EV, seval, h1]
  refine hK _ _ _ ?_
  clear hK K
  injection h with h
  subst h
  refine AW_le (Le_can (lt := [(4, .bool ((bits .and .i64 (Int.fdiv a2 (2 ^ min (Int.toNat (IntKind.wrap .u64 a5)) (IntKind.bits .i64))) 1) == 1))]) (lr := []) (b' := 64) [] [] hρ (by kernel_rfl) ?_ ?_) (AW_ret (end_q [] (.inr rfl) (by kernel_rfl) (by kernel_rfl) ?_))
  · simp only [AL, EV, seval, h1]
  · simp only [AL, EV, seval, h1]
  · simp only [EV, Try.results126, seval]
/- spec.l28Z -/
def s_l28Z (a1 : Int) (a2 : Int) (a3 : Int) (a4 : Int) (a5 : Int) : Option Bool :=
  gd (decide (¬ (IntKind.wrap .u64 a5) < 0)) (some ((bits .and .i64 (Int.fdiv a3 (2 ^ min (Int.toNat (IntKind.wrap .u64 a5)) (IntKind.bits .i64))) 1) == 1))
set_option maxHeartbeats 4000000 in
theorem s_l28Z_ok {a1 : Int} {a2 : Int} {a3 : Int} {a4 : Int} {a5 : Int} {r : Bool} (h : s_l28Z a1 a2 a3 a4 a5 = some r) :
    Spec Try.prog 127 [.agg [.int .i64 a1, .int .i64 a2, .int .i64 a3, .int .i64 a4], .int .i64 a5] [] (.bool r) [] := by
  unfold s_l28Z at h
  refine spec_of Try.func127 rfl (by kernel_rfl) (by simp only [Try.ntmps127, List.length_cons, List.length_nil, Nat.reduceAdd, Nat.reduceLeDiff]) ?_
  intro C hN hρ
  rw [Try.ntmps127] at hN
  unfold st0
  simp only [tmps0, Nat.zero_add, Nat.reduceAdd]
  refine AW_rs (BR := BR) FM (by rw [hN]; kernel_rfl) (by kernel_rfl) ?_
  intro K hK
  simp only [EV, seval]
  refine hK _ _ _ ?_
  clear hK K
  refine AW_rs (BR := BR) FM (by rw [hN]; kernel_rfl) (by kernel_rfl) ?_
  intro K hK
  obtain ⟨h1, h⟩ := gd_inv h
  replace h1 := of_decide_eq_true h1
  simp only [EV, seval, h1]
  refine hK _ _ _ ?_
  clear hK K
  injection h with h
  subst h
  refine AW_le (Le_can (lt := [(4, .bool ((bits .and .i64 (Int.fdiv a3 (2 ^ min (Int.toNat (IntKind.wrap .u64 a5)) (IntKind.bits .i64))) 1) == 1))]) (lr := []) (b' := 64) [] [] hρ (by kernel_rfl) ?_ ?_) (AW_ret (end_q [] (.inr rfl) (by kernel_rfl) (by kernel_rfl) ?_))
  · simp only [AL, EV, seval, h1]
  · simp only [AL, EV, seval, h1]
  · simp only [EV, Try.results127, seval]
/- spec.l28Do -/
def s_l28Do_j1 (v2 : Int) (v3 : LQ) (v4 : LQ) : Option (Int × LQ × LQ) :=
  some (v2, v3, v4)
def s_l28Do (a1 : Int) (a2 : LQ) (a3 : LQ) (a4 : Int) (a5 : Int) (a6 : Int) (a7 : Int) : Option (Int × LQ × LQ) :=
  bO (s_TableauApplyGate a1 a2 a4 a5 a6 a7) fun x1 => br x1.2.2 (gd (decide (a3.length + ([(a4, a5, a6, a7)]).length ≤ 16777216)) (s_l28Do_j1 x1.1 x1.2.1 (a3 ++ ([(a4, a5, a6, a7)])))) (s_l28Do_j1 a1 a2 a3)
set_option maxHeartbeats 4000000 in
theorem s_l28Do_ok {a1 : Int} {a2 : LQ} {a3 : LQ} {a4 : Int} {a5 : Int} {a6 : Int} {a7 : Int} {r : Int × LQ × LQ} (h : s_l28Do a1 a2 a3 a4 a5 a6 a7 = some r) :
    Spec Try.prog 128 [.ptr 0 0, .agg [.int .i64 a4, .int .i64 a5, .int .i64 a6, .int .i64 a7]] [.box 100 [.int .i64 a1, .sl (encL EIIII a2) a2.length, .own 1 a3.length], .row 49 4 (encL EIIII a3)] (.tup []) [.box 100 [.int .i64 r.1, .sl (encL EIIII r.2.1) r.2.1.length, .own 2 r.2.2.length], .gone, .row 49 4 (encL EIIII r.2.2)] := by
  unfold s_l28Do at h
  refine spec_of Try.func128 rfl (by kernel_rfl) (by simp only [Try.ntmps128, List.length_cons, List.length_nil, Nat.reduceAdd, Nat.reduceLeDiff]) ?_
  intro C hN hρ
  rw [Try.ntmps128] at hN
  unfold st0
  simp only [tmps0, Nat.zero_add, Nat.reduceAdd]
  refine AW_endK (fun S => ∃ (v2 : Int) (v3 : LQ) (v4 : LQ), S = ⟨mkT [], mkR [(0, .box 100 [.int .i64 v2, .sl (encL EIIII v3) v3.length, .own 32 v4.length]), (1, .gone), (32, .row 49 4 (encL EIIII v4))], 64⟩ ∧ s_l28Do_j1 v2 v3 v4 = some r) ?_ ?_
  · refine AW_rs (BR := BR) FM (by rw [hN]; kernel_rfl) (by kernel_rfl) ?_
    intro K hK
    simp only [EV, seval]
    refine hK _ _ _ ?_
    clear hK K
    refine AW_rs (BR := BR) FM (by rw [hN]; kernel_rfl) (by kernel_rfl) ?_
    intro K hK
    obtain ⟨x1, h1, h⟩ := bO_inv h
    simp only [EV, seval]
    refine rC_p (s_TableauApplyGate_ok h1) (by simp only [AL, EV, seval]) (le_d rfl) (site_1 (by simp only [EV, seval])) ?_
    simp only [EV, seval]
    refine hK _ _ _ ?_
    clear hK K
    refine AW_rs (BR := BR) FM (by rw [hN]; kernel_rfl) (by kernel_rfl) ?_
    intro K hK
    simp only [EV, seval]
    refine hK _ _ _ ?_
    clear hK K
    refine AW_condK (a := .bool x1.2.2) (by simp only [EV, seval]) (brK h (fun hc1 h => ?_) (fun hc1 h => ?_))
    · refine AW_rs (BR := BR) FM (by rw [hN]; kernel_rfl) (by kernel_rfl) ?_
      intro K hK
      simp only [EV, seval]
      refine hK _ _ _ ?_
      clear hK K
      refine AW_re (BR := BR) FM (by rw [hN]; kernel_rfl) (by kernel_rfl) ?_
      intro K hK
      obtain ⟨h2, h⟩ := gd_inv h
      replace h2 := of_decide_eq_true h2
      try simp only [EV, seval] at h2
      simp only [EV, seval, h2]
      refine hK _ _ _ (show cutK _ _ _ from cutL ⟨_, _, _, rfl, h⟩ (Le_can [(0, some 0), (1, some 1), (32, some 4272)] [1168] hρ (by kernel_rfl) ?_ ?_))
      · simp only [AL, EV, seval, h2]
      · simp only [AL, EV, seval, h2]
    · refine AW_skip (show cutK _ _ _ from cutL ⟨_, _, _, rfl, h⟩ (Le_can [(0, some 0), (1, some 1), (32, some 1)] [] hρ (by kernel_rfl) ?_ ?_))
      · simp only [AL, EV, seval]
      · simp only [AL, EV, seval]
  · rintro S ⟨v2, v3, v4, rfl, h⟩
    unfold s_l28Do_j1 at h
    injection h with h
    subst h
    refine ⟨_, Le_can (lt := []) (lr := [(0, .box 100 [.int .i64 v2, .sl (encL EIIII v3) v3.length, .own 32 v4.length]), (1, .gone), (32, .row 49 4 (encL EIIII v4))]) (b' := 64) [(0, some 0), (1, some 1), (32, some 32)] [] hρ (by kernel_rfl) ?_ ?_, end_q [0, 1, 32] (.inl rfl) (by kernel_rfl) (by kernel_rfl) ?_⟩
    · simp only [AL, EV, seval]
    · simp only [AL, EV, seval]
    · simp only [EV, Try.results128, seval]
/- spec.l14Cx -/
def s_l14Cx (a1 : Int) (a2 : Int) : Option (Int × Int × Int × Int) :=
  some (9, a1, a2, 0)
set_option maxHeartbeats 4000000 in
theorem s_l14Cx_ok {a1 : Int} {a2 : Int} {r : Int × Int × Int × Int} (h : s_l14Cx a1 a2 = some r) :
    Spec Try.prog 129 [.int .i64 a1, .int .i64 a2] [] (.agg [.int .i64 r.1, .int .i64 r.2.1, .int .i64 r.2.2.1, .int .i64 r.2.2.2]) [] := by
  unfold s_l14Cx at h
  refine spec_of Try.func129 rfl (by kernel_rfl) (by simp only [Try.ntmps129, List.length_cons, List.length_nil, Nat.reduceAdd, Nat.reduceLeDiff]) ?_
  intro C hN hρ
  rw [Try.ntmps129] at hN
  unfold st0
  simp only [tmps0, Nat.zero_add, Nat.reduceAdd]
  refine AW_rs (BR := BR) FM (by rw [hN]; kernel_rfl) (by kernel_rfl) ?_
  intro K hK
  simp only [EV, seval]
  refine hK _ _ _ ?_
  clear hK K
  refine AW_rs (BR := BR) FM (by rw [hN]; kernel_rfl) (by kernel_rfl) ?_
  intro K hK
  simp only [EV, seval]
  refine hK _ _ _ ?_
  clear hK K
  injection h with h
  subst h
  refine AW_le (Le_can (lt := [(4, .ptr 32 0)]) (lr := [(32, .box 49 [.int .i64 9, .int .i64 a1, .int .i64 a2, .int .i64 0])]) (b' := 64) [(32, some 64)] [] hρ (by kernel_rfl) ?_ ?_) (AW_ret (end_q [] (.inr rfl) (by kernel_rfl) (by kernel_rfl) ?_))
  · simp only [AL, EV, seval]
  · simp only [AL, EV, seval]
  · simp only [EV, Try.results129, seval]
/- spec.l28First -/
def s_l28First_j7 (v16 : Int) (kl1 : Int → (LQ) → (LQ) → Int → Option (Int × LQ × LQ)) (v18 : Int) (v19 : LQ) (v20 : LQ) : Option (Int × LQ × LQ) :=
  kl1 v18 v19 v20 (IntKind.wrap .i64 (v16 + 1))
def s_l28First_j8 (v13 : Int) (v14 : LQ) (v15 : LQ) (v16 : Int) (kl1 : Int → (LQ) → (LQ) → Int → Option (Int × LQ × LQ)) (q3 : Int × Int × Int × Int) (v17 : Bool) : Option (Int × LQ × LQ) :=
  br v17 (bO (s_l14One 5 v16) fun x21 => bO (s_l28Do v13 v14 v15 x21.1 x21.2.1 x21.2.2.1 x21.2.2.2) fun x22 => s_l28First_j7 v16 kl1 x22.1 x22.2.1 x22.2.2) (bO (s_l28Z q3.1 q3.2.1 q3.2.2.1 q3.2.2.2 v16) fun x23 => br x23 (bO (s_l14One 4 v16) fun x24 => bO (s_l28Do v13 v14 v15 x24.1 x24.2.1 x24.2.2.1 x24.2.2.2) fun x25 => s_l28First_j7 v16 kl1 x25.1 x25.2.1 x25.2.2) (s_l28First_j7 v16 kl1 v13 v14 v15))
def s_l28First_j16 (v47 : Int) (kl3 : Int → (LQ) → (LQ) → Int → Option (Int × LQ × LQ)) (v48 : Int) (v49 : LQ) (v50 : LQ) : Option (Int × LQ × LQ) :=
  kl3 v48 v49 v50 (IntKind.wrap .i64 (v47 + 1))
def s_l28First_j1 (v51 : Int) (v52 : LQ) (v53 : LQ) : Option (Int × LQ × LQ) :=
  some (v51, v52, v53)
def s_l28First_l3 (a1 : Int) (a4 : Int) : Nat → Int → (LQ) → (LQ) → Int → Option (Int × LQ × LQ)
  | 0, _, _, _, _ => none
  | n3 + 1, v44, v45, v46, v47 =>
  br (decide (v47 < a1)) (bO (geti v45 a4) fun q10 => bO (s_l28X q10.1 q10.2.1 q10.2.2.1 q10.2.2.2 v47) fun x40 => br x40 (bO (s_l14Cx a4 v47) fun x41 => bO (s_l28Do v44 v45 v46 x41.1 x41.2.1 x41.2.2.1 x41.2.2.2) fun x42 => s_l28First_j16 v47 (s_l28First_l3 a1 a4 n3) x42.1 x42.2.1 x42.2.2) (s_l28First_j16 v47 (s_l28First_l3 a1 a4 n3) v44 v45 v46)) (s_l28First_j1 v44 v45 v46)
def s_l28First_j13 (a1 : Int) (a4 : Int) (v30 : Int) (v31 : LQ) (v32 : LQ) : Option (Int × LQ × LQ) :=
  s_l28First_l3 a1 a4 FU v30 v31 v32 (IntKind.wrap .i64 (a4 + 1))
def s_l28First_j9 (a1 : Int) (a4 : Int) (v21 : Int) (v22 : LQ) (v23 : LQ) (v29 : Int) : Option (Int × LQ × LQ) :=
  br (v29 != a4) (bO (s_l28Do v21 v22 v23 11 a4 v29 0) fun x33 => s_l28First_j13 a1 a4 x33.1 x33.2.1 x33.2.2) (s_l28First_j13 a1 a4 v21 v22 v23)
def s_l28First_j12 (a1 : Int) (a4 : Int) (v21 : Int) (v22 : LQ) (v23 : LQ) (v27 : Int) (kl2 : Int → Option (Int × LQ × LQ)) (v28 : Bool) : Option (Int × LQ × LQ) :=
  br v28 (kl2 (IntKind.wrap .i64 (v27 + 1))) (s_l28First_j9 a1 a4 v21 v22 v23 v27)
def s_l28First_l2 (a1 : Int) (a4 : Int) (v21 : Int) (v22 : LQ) (v23 : LQ) : Nat → Int → Option (Int × LQ × LQ)
  | 0, _ => none
  | n2 + 1, v27 =>
  bO (br (decide (v27 < (IntKind.wrap .i64 (a1 - 1)))) (bO (geti v22 a4) fun q6 => bO (s_l28X q6.1 q6.2.1 q6.2.2.1 q6.2.2.2 v27) fun x30 => some (!x30)) (some false)) fun x31 => s_l28First_j12 a1 a4 v21 v22 v23 v27 (s_l28First_l2 a1 a4 v21 v22 v23 n2) x31
def s_l28First_j2 (a1 : Int) (a4 : Int) (v21 : Int) (v22 : LQ) (v23 : LQ) : Option (Int × LQ × LQ) :=
  s_l28First_l2 a1 a4 v21 v22 v23 FU a4
def s_l28First_l1 (a1 : Int) (a4 : Int) : Nat → Int → (LQ) → (LQ) → Int → Option (Int × LQ × LQ)
  | 0, _, _, _, _ => none
  | n1 + 1, v13, v14, v15, v16 =>
  br (decide (v16 < a1)) (bO (geti v14 a4) fun q3 => bO (s_l28X q3.1 q3.2.1 q3.2.2.1 q3.2.2.2 v16) fun x17 => bO (br x17 (bO (s_l28Z q3.1 q3.2.1 q3.2.2.1 q3.2.2.2 v16) fun x18 => some x18) (some false)) fun x19 => s_l28First_j8 v13 v14 v15 v16 (s_l28First_l1 a1 a4 n1) q3 x19) (s_l28First_j2 a1 a4 v13 v14 v15)
def s_l28First (a1 : Int) (a2 : LQ) (a3 : LQ) (a4 : Int) : Option (Int × LQ × LQ) :=
  s_l28First_l1 a1 a4 FU a1 a2 a3 a4
set_option maxHeartbeats 4000000 in
theorem s_l28First_ok {a1 : Int} {a2 : LQ} {a3 : LQ} {a4 : Int} {r : Int × LQ × LQ} (h : s_l28First a1 a2 a3 a4 = some r) :
    Spec Try.prog 77 [.ptr 0 0, .int .i64 a4] [.box 100 [.int .i64 a1, .sl (encL EIIII a2) a2.length, .own 1 a3.length], .row 49 4 (encL EIIII a3)] (.tup []) [.box 100 [.int .i64 r.1, .sl (encL EIIII r.2.1) r.2.1.length, .own 2 r.2.2.length], .gone, .row 49 4 (encL EIIII r.2.2)] := by
  unfold s_l28First at h
  refine spec_of Try.func77 rfl (by kernel_rfl) (by simp only [Try.ntmps77, List.length_cons, List.length_nil, Nat.reduceAdd, Nat.reduceLeDiff]) ?_
  intro C hN hρ
  rw [Try.ntmps77] at hN
  unfold st0
  simp only [tmps0, Nat.zero_add, Nat.reduceAdd]
  refine AW_endK (fun S => ∃ (v51 : Int) (v52 : LQ) (v53 : LQ), S = ⟨mkT [], mkR [(0, .box 100 [.int .i64 v51, .sl (encL EIIII v52) v52.length, .own 32 v53.length]), (1, .gone), (32, .row 49 4 (encL EIIII v53))], 64⟩ ∧ s_l28First_j1 v51 v52 v53 = some r) ?_ ?_
  · refine AW_rs (BR := BR) FM (by rw [hN]; kernel_rfl) (by kernel_rfl) ?_
    intro K hK
    simp only [EV, seval]
    refine hK _ _ _ ?_
    clear hK K
    refine AW_cutK (fun S => ∃ (v21 : Int) (v22 : LQ) (v23 : LQ), S = ⟨mkT [(0, .ptr 0 0), (1, .int .i64 a4), (4, .int .i64 a1)], mkR [(0, .box 100 [.int .i64 v21, .sl (encL EIIII v22) v22.length, .own 32 v23.length]), (1, .gone), (32, .row 49 4 (encL EIIII v23))], 64⟩ ∧ s_l28First_j2 a1 a4 v21 v22 v23 = some r) ?_ ?_
    · refine AW_rs (BR := BR) FM (by rw [hN]; kernel_rfl) (by kernel_rfl) ?_
      intro K hK
      simp only [EV, seval]
      refine hK _ _ _ ?_
      clear hK K
      refine AW_block ?_
      refine AW_loopF (fun n S => ∃ (v13 : Int) (v14 : LQ) (v15 : LQ) (v16 : Int), S = ⟨mkT [(0, .ptr 0 0), (1, .int .i64 a4), (4, .int .i64 a1), (5, .int .i64 v16)], mkR [(0, .box 100 [.int .i64 v13, .sl (encL EIIII v14) v14.length, .own 32 v15.length]), (1, .gone), (32, .row 49 4 (encL EIIII v15))], 64⟩ ∧ s_l28First_l1 a1 a4 n v13 v14 v15 v16 = some r) FU ?_ ?_ ?_
      · refine cutL ⟨_, _, _, _, rfl, h⟩ (Le_can [(0, some 0), (1, some 1), (32, some 1)] [] hρ (by kernel_rfl) ?_ ?_)
        · simp only [AL, EV, seval]
        · simp only [AL, EV, seval]
      · rintro S ⟨_, _, _, _, _, h⟩; rw [s_l28First_l1] at h; cases h
      · rintro n1 S ⟨v13, v14, v15, v16, rfl, h⟩
        rw [s_l28First_l1] at h
        refine AW_seq ?_
        refine AW_rs (BR := BR) FM (by rw [hN]; kernel_rfl) (by kernel_rfl) ?_
        intro K hK
        simp only [EV, seval]
        refine hK _ _ _ ?_
        clear hK K
        refine AW_condK (a := .bool (decide (v16 < a1))) (by simp only [EV, seval]) (brK h (fun hc9 h => ?_) (fun hc9 h => ?_))
        · refine AW_skip (show AW _ _ _ _ _ from ?_)
          refine AW_cutK (fun S => ∃ (v18 : Int) (v19 : LQ) (v20 : LQ), S = ⟨mkT [(0, .ptr 0 0), (1, .int .i64 a4), (4, .int .i64 a1), (5, .int .i64 v16)], mkR [(0, .box 100 [.int .i64 v18, .sl (encL EIIII v19) v19.length, .own 32 v20.length]), (1, .gone), (32, .row 49 4 (encL EIIII v20))], 64⟩ ∧ s_l28First_j7 v16 (s_l28First_l1 a1 a4 n1) v18 v19 v20 = some r) ?_ ?_
          · refine AW_block ?_
            refine AW_rs (BR := BR) FM (by rw [hN]; kernel_rfl) (by kernel_rfl) ?_
            intro K hK
            obtain ⟨q3, h19, h⟩ := bO_inv h
            obtain ⟨⟨h20a, h20b⟩, h20c⟩ := geti_E EIIIIl h19
            try simp only [EV, seval] at h20c
            simp only [EV, seval, h20a, h20b, h20c]
            refine hK _ _ _ ?_
            clear hK K
            refine AW_rsJ (BR := BR) (fun S => ∃ (v17 : Bool), S = ⟨mkT [(0, .ptr 0 0), (1, .int .i64 a4), (4, .int .i64 a1), (5, .int .i64 v16), (6, .ptr 33 0), (34, .bool v17)], mkR [(0, .box 100 [.int .i64 v13, .sl (encL EIIII v14) v14.length, .own 32 v15.length]), (1, .gone), (32, .row 49 4 (encL EIIII v15)), (33, .box 113 [.int .i64 q3.1, .int .i64 q3.2.1, .int .i64 q3.2.2.1, .int .i64 q3.2.2.2])], 64⟩ ∧ s_l28First_j8 v13 v14 v15 v16 (s_l28First_l1 a1 a4 n1) q3 v17 = some r) FM (by rw [hN]; kernel_rfl) (by kernel_rfl) ?_ ?_
            · intro K hK
              obtain ⟨x17, h21, h⟩ := bO_inv h
              simp only [EV, seval]
              refine rC_p (s_l28X_ok h21) (by simp only [AL, EV, seval]) (le_d rfl) (no_j rfl) ?_
              obtain ⟨x19, hv3, h⟩ := bO_inv h
              rcases br_inv hv3 with ⟨hc10, hv3⟩ | ⟨hc10, hv3⟩
              · obtain ⟨x20, h23, hv3⟩ := bO_inv hv3
                simp only [EV, seval, hc10]
                refine rC_p (s_l28Z_ok h23) (by simp only [AL, EV, seval, hc10]) (le_d rfl) (no_j rfl) ?_
                cases hv3
                simp only [EV, seval, hc10]
                refine hK _ _ _ (show cutK _ _ _ from cutL ⟨_, rfl, h⟩ (Le_can [(0, some 0), (1, some 1), (32, some 32), (33, some 1216)] [] hρ (by kernel_rfl) ?_ ?_))
                · simp only [AL, EV, seval, hc10]
                · simp only [AL, EV, seval, hc10]
              · cases hv3
                simp only [EV, seval, hc10]
                refine hK _ _ _ (show cutK _ _ _ from cutL ⟨_, rfl, h⟩ (Le_can [(0, some 0), (1, some 1), (32, some 32), (33, some 1216)] [] hρ (by kernel_rfl) ?_ ?_))
                · simp only [AL, EV, seval, hc10]
                · simp only [AL, EV, seval, hc10]
            · rintro S ⟨v17, rfl, h⟩
              unfold s_l28First_j8 at h
              refine AW_condK (a := .bool v17) (by simp only [EV, seval, h20a, h20b, h20c]) (brK h (fun hc11 h => ?_) (fun hc11 h => ?_))
              · refine AW_re (BR := BR) FM (by rw [hN]; kernel_rfl) (by kernel_rfl) ?_
                intro K hK
                obtain ⟨x21, h24, h⟩ := bO_inv h
                simp only [EV, seval]
                refine rC_p (s_l14One_ok h24) (by simp only [AL, EV, seval]) (le_d rfl) (no_j rfl) ?_
                obtain ⟨x22, h25, h⟩ := bO_inv h
                simp only [EV, seval]
                refine rR_p [0, 32] (s_l28Do_ok h25) (by simp only [AL, EV, seval]) (by simp only [AL, EV, seval]) (by kernel_rfl) (by simp only [EV, solidO, List.mem_cons, List.not_mem_nil, or_false, forall_eq_or_imp, forall_eq, seval]) (le_d rfl) (le_d rfl) (site_1 (by simp only [EV, seval])) ?_
                simp only [EV, seval]
                refine hK _ _ _ (show cutK _ _ _ from cutL ⟨_, _, _, rfl, h⟩ (Le_can [(0, some 0), (1, some 1), (32, some 112)] [] hρ (by kernel_rfl) ?_ ?_))
                · simp only [AL, EV, seval]
                · simp only [AL, EV, seval]
              · refine AW_rs (BR := BR) FM (by rw [hN]; kernel_rfl) (by kernel_rfl) ?_
                intro K hK
                obtain ⟨x23, h26, h⟩ := bO_inv h
                simp only [EV, seval]
                refine rC_p (s_l28Z_ok h26) (by simp only [AL, EV, seval]) (le_d rfl) (no_j rfl) ?_
                simp only [EV, seval]
                refine hK _ _ _ ?_
                clear hK K
                refine AW_condK (a := .bool x23) (by simp only [EV, seval]) (brK h (fun hc12 h => ?_) (fun hc12 h => ?_))
                · refine AW_re (BR := BR) FM (by rw [hN]; kernel_rfl) (by kernel_rfl) ?_
                  intro K hK
                  obtain ⟨x24, h27, h⟩ := bO_inv h
                  simp only [EV, seval]
                  refine rC_p (s_l14One_ok h27) (by simp only [AL, EV, seval]) (le_d rfl) (no_j rfl) ?_
                  obtain ⟨x25, h28, h⟩ := bO_inv h
                  simp only [EV, seval]
                  refine rR_p [0, 32] (s_l28Do_ok h28) (by simp only [AL, EV, seval]) (by simp only [AL, EV, seval]) (by kernel_rfl) (by simp only [EV, solidO, List.mem_cons, List.not_mem_nil, or_false, forall_eq_or_imp, forall_eq, seval]) (le_d rfl) (le_d rfl) (site_1 (by simp only [EV, seval])) ?_
                  simp only [EV, seval]
                  refine hK _ _ _ (show cutK _ _ _ from cutL ⟨_, _, _, rfl, h⟩ (Le_can [(0, some 0), (1, some 1), (32, some 1136)] [] hρ (by kernel_rfl) ?_ ?_))
                  · simp only [AL, EV, seval]
                  · simp only [AL, EV, seval]
                · refine AW_skip (show cutK _ _ _ from cutL ⟨_, _, _, rfl, h⟩ (Le_can [(0, some 0), (1, some 1), (32, some 32)] [] hρ (by kernel_rfl) ?_ ?_))
                  · simp only [AL, EV, seval]
                  · simp only [AL, EV, seval]
          · rintro S ⟨v18, v19, v20, rfl, h⟩
            unfold s_l28First_j7 at h
            refine AW_re (BR := BR) FM (by rw [hN]; kernel_rfl) (by kernel_rfl) ?_
            intro K hK
            simp only [EV, seval]
            refine hK _ _ _ (show cutK _ _ _ from cutL ⟨_, _, _, _, rfl, h⟩ (Le_can [(0, some 0), (1, some 1), (32, some 32)] [] hρ (by kernel_rfl) ?_ ?_))
            · simp only [AL, EV, seval]
            · simp only [AL, EV, seval]
        · refine AW_exit (show cutK _ _ _ from cutL ⟨_, _, _, rfl, h⟩ (Le_can [(0, some 0), (1, some 1), (32, some 32)] [] hρ (by kernel_rfl) ?_ ?_))
          · simp only [AL, EV, seval]
          · simp only [AL, EV, seval]
    · rintro S ⟨v21, v22, v23, rfl, h⟩
      unfold s_l28First_j2 at h
      refine AW_rs (BR := BR) FM (by rw [hN]; kernel_rfl) (by kernel_rfl) ?_
      intro K hK
      simp only [EV, seval]
      refine hK _ _ _ ?_
      clear hK K
      refine AW_cutK (fun S => ∃ (v29 : Int), S = ⟨mkT [(0, .ptr 0 0), (1, .int .i64 a4), (4, .int .i64 a1), (7, .int .i64 v29)], mkR [(0, .box 100 [.int .i64 v21, .sl (encL EIIII v22) v22.length, .own 32 v23.length]), (1, .gone), (32, .row 49 4 (encL EIIII v23))], 64⟩ ∧ s_l28First_j9 a1 a4 v21 v22 v23 v29 = some r) ?_ ?_
      · refine AW_block ?_
        refine AW_loopF (fun n S => ∃ (v27 : Int), S = ⟨mkT [(0, .ptr 0 0), (1, .int .i64 a4), (4, .int .i64 a1), (7, .int .i64 v27)], mkR [(0, .box 100 [.int .i64 v21, .sl (encL EIIII v22) v22.length, .own 32 v23.length]), (1, .gone), (32, .row 49 4 (encL EIIII v23))], 64⟩ ∧ s_l28First_l2 a1 a4 v21 v22 v23 n v27 = some r) FU ?_ ?_ ?_
        · refine cutL ⟨_, rfl, h⟩ (Le_can [(0, some 0), (1, some 1), (32, some 32)] [] hρ (by kernel_rfl) ?_ ?_)
          · simp only [AL, EV, seval]
          · simp only [AL, EV, seval]
        · rintro S ⟨_, _, h⟩; rw [s_l28First_l2] at h; cases h
        · rintro n2 S ⟨v27, rfl, h⟩
          rw [s_l28First_l2] at h
          refine AW_seq ?_
          refine AW_rsJ (BR := BR) (fun S => ∃ (v28 : Bool), S = ⟨mkT [(0, .ptr 0 0), (1, .int .i64 a4), (4, .int .i64 a1), (7, .int .i64 v27), (63, .bool v28)], mkR [(0, .box 100 [.int .i64 v21, .sl (encL EIIII v22) v22.length, .own 32 v23.length]), (1, .gone), (32, .row 49 4 (encL EIIII v23))], 64⟩ ∧ s_l28First_j12 a1 a4 v21 v22 v23 v27 (s_l28First_l2 a1 a4 v21 v22 v23 n2) v28 = some r) FM (by rw [hN]; kernel_rfl) (by kernel_rfl) ?_ ?_
          · intro K hK
            obtain ⟨x31, hv6, h⟩ := bO_inv h
            rcases br_inv hv6 with ⟨hc17, hv6⟩ | ⟨hc17, hv6⟩
            · obtain ⟨q7, h38, hv6⟩ := bO_inv hv6
              obtain ⟨⟨h39a, h39b⟩, h39c⟩ := geti_E EIIIIl h38
              try simp only [EV, seval] at h39c
              obtain ⟨x32, h40, hv6⟩ := bO_inv hv6
              simp only [EV, seval, hc17, h39a, h39b, h39c]
              refine rC_p (s_l28X_ok h40) (by simp only [AL, EV, seval, hc17, h39a, h39b, h39c]) (le_d rfl) (no_j rfl) ?_
              cases hv6
              simp only [EV, seval, hc17, h39a, h39b, h39c]
              refine hK _ _ _ (show cutK _ _ _ from cutL ⟨_, rfl, h⟩ (Le_can [(0, some 0), (1, some 1), (32, some 32)] [] hρ (by kernel_rfl) ?_ ?_))
              · simp only [AL, EV, seval, hc17, h39a, h39b, h39c]
              · simp only [AL, EV, seval, hc17, h39a, h39b, h39c]
            · cases hv6
              simp only [EV, seval, hc17]
              refine hK _ _ _ (show cutK _ _ _ from cutL ⟨_, rfl, h⟩ (Le_can [(0, some 0), (1, some 1), (32, some 32)] [] hρ (by kernel_rfl) ?_ ?_))
              · simp only [AL, EV, seval, hc17]
              · simp only [AL, EV, seval, hc17]
          · rintro S ⟨v28, rfl, h⟩
            unfold s_l28First_j12 at h
            refine AW_condK (a := .bool v28) (by simp only [EV, seval]) (brK h (fun hc18 h => ?_) (fun hc18 h => ?_))
            · refine AW_skip (show AW _ _ _ _ _ from ?_)
              refine AW_block ?_
              refine AW_re (BR := BR) FM (by rw [hN]; kernel_rfl) (by kernel_rfl) ?_
              intro K hK
              simp only [EV, seval]
              refine hK _ _ _ (show cutK _ _ _ from cutL ⟨_, rfl, h⟩ (Le_can [(0, some 0), (1, some 1), (32, some 32)] [] hρ (by kernel_rfl) ?_ ?_))
              · simp only [AL, EV, seval]
              · simp only [AL, EV, seval]
            · refine AW_exit (show cutK _ _ _ from cutL ⟨_, rfl, h⟩ (Le_can [(0, some 0), (1, some 1), (32, some 32)] [] hρ (by kernel_rfl) ?_ ?_))
              · simp only [AL, EV, seval]
              · simp only [AL, EV, seval]
      · rintro S ⟨v29, rfl, h⟩
        unfold s_l28First_j9 at h
        refine AW_cutK (fun S => ∃ (v30 : Int) (v31 : LQ) (v32 : LQ), S = ⟨mkT [(0, .ptr 0 0), (1, .int .i64 a4), (4, .int .i64 a1)], mkR [(0, .box 100 [.int .i64 v30, .sl (encL EIIII v31) v31.length, .own 32 v32.length]), (1, .gone), (32, .row 49 4 (encL EIIII v32))], 64⟩ ∧ s_l28First_j13 a1 a4 v30 v31 v32 = some r) ?_ ?_
        · refine AW_rs (BR := BR) FM (by rw [hN]; kernel_rfl) (by kernel_rfl) ?_
          intro K hK
          simp only [EV, seval]
          refine hK _ _ _ ?_
          clear hK K
          refine AW_condK (a := .bool (v29 != a4)) (by simp only [EV, seval]) (brK h (fun hc19 h => ?_) (fun hc19 h => ?_))
          · refine AW_re (BR := BR) FM (by rw [hN]; kernel_rfl) (by kernel_rfl) ?_
            intro K hK
            obtain ⟨x33, h41, h⟩ := bO_inv h
            simp only [EV, seval]
            refine rR_p [0, 32] (s_l28Do_ok h41) (by simp only [AL, EV, seval]) (by simp only [AL, EV, seval]) (by kernel_rfl) (by simp only [EV, solidO, List.mem_cons, List.not_mem_nil, or_false, forall_eq_or_imp, forall_eq, seval]) (le_d rfl) (le_d rfl) (site_1 (by simp only [EV, seval])) ?_
            simp only [EV, seval]
            refine hK _ _ _ (show cutK _ _ _ from cutL ⟨_, _, _, rfl, h⟩ (Le_can [(0, some 0), (1, some 1), (32, some 1152)] [] hρ (by kernel_rfl) ?_ ?_))
            · simp only [AL, EV, seval]
            · simp only [AL, EV, seval]
          · refine AW_skip (show cutK _ _ _ from cutL ⟨_, _, _, rfl, h⟩ (Le_can [(0, some 0), (1, some 1), (32, some 32)] [] hρ (by kernel_rfl) ?_ ?_))
            · simp only [AL, EV, seval]
            · simp only [AL, EV, seval]
        · rintro S ⟨v30, v31, v32, rfl, h⟩
          unfold s_l28First_j13 at h
          refine AW_rs (BR := BR) FM (by rw [hN]; kernel_rfl) (by kernel_rfl) ?_
          intro K hK
          simp only [EV, seval]
          refine hK _ _ _ ?_
          clear hK K
          refine AW_block ?_
          refine AW_loopF (fun n S => ∃ (v44 : Int) (v45 : LQ) (v46 : LQ) (v47 : Int), S = ⟨mkT [(0, .ptr 0 0), (1, .int .i64 a4), (4, .int .i64 a1), (7, .int .i64 v47)], mkR [(0, .box 100 [.int .i64 v44, .sl (encL EIIII v45) v45.length, .own 32 v46.length]), (1, .gone), (32, .row 49 4 (encL EIIII v46))], 64⟩ ∧ s_l28First_l3 a1 a4 n v44 v45 v46 v47 = some r) FU ?_ ?_ ?_
          · refine cutL ⟨_, _, _, _, rfl, h⟩ (Le_can [(0, some 0), (1, some 1), (32, some 32)] [] hρ (by kernel_rfl) ?_ ?_)
            · simp only [AL, EV, seval]
            · simp only [AL, EV, seval]
          · rintro S ⟨_, _, _, _, _, h⟩; rw [s_l28First_l3] at h; cases h
          · rintro n3 S ⟨v44, v45, v46, v47, rfl, h⟩
            rw [s_l28First_l3] at h
            refine AW_seq ?_
            refine AW_rs (BR := BR) FM (by rw [hN]; kernel_rfl) (by kernel_rfl) ?_
            intro K hK
            simp only [EV, seval]
            refine hK _ _ _ ?_
            clear hK K
            refine AW_condK (a := .bool (decide (v47 < a1))) (by simp only [EV, seval]) (brK h (fun hc24 h => ?_) (fun hc24 h => ?_))
            · refine AW_skip (show AW _ _ _ _ _ from ?_)
              refine AW_cutK (fun S => ∃ (v48 : Int) (v49 : LQ) (v50 : LQ), S = ⟨mkT [(0, .ptr 0 0), (1, .int .i64 a4), (4, .int .i64 a1), (7, .int .i64 v47)], mkR [(0, .box 100 [.int .i64 v48, .sl (encL EIIII v49) v49.length, .own 32 v50.length]), (1, .gone), (32, .row 49 4 (encL EIIII v50))], 64⟩ ∧ s_l28First_j16 v47 (s_l28First_l3 a1 a4 n3) v48 v49 v50 = some r) ?_ ?_
              · refine AW_block ?_
                refine AW_rs (BR := BR) FM (by rw [hN]; kernel_rfl) (by kernel_rfl) ?_
                intro K hK
                obtain ⟨q10, h52, h⟩ := bO_inv h
                obtain ⟨⟨h53a, h53b⟩, h53c⟩ := geti_E EIIIIl h52
                try simp only [EV, seval] at h53c
                obtain ⟨x40, h54, h⟩ := bO_inv h
                simp only [EV, seval, h53a, h53b, h53c]
                refine rC_p (s_l28X_ok h54) (by simp only [AL, EV, seval, h53a, h53b, h53c]) (le_d rfl) (no_j rfl) ?_
                simp only [EV, seval, h53a, h53b, h53c]
                refine hK _ _ _ ?_
                clear hK K
                refine AW_condK (a := .bool x40) (by simp only [EV, seval, h53a, h53b, h53c]) (brK h (fun hc25 h => ?_) (fun hc25 h => ?_))
                · refine AW_re (BR := BR) FM (by rw [hN]; kernel_rfl) (by kernel_rfl) ?_
                  intro K hK
                  obtain ⟨x41, h55, h⟩ := bO_inv h
                  simp only [EV, seval]
                  refine rC_p (s_l14Cx_ok h55) (by simp only [AL, EV, seval]) (le_d rfl) (no_j rfl) ?_
                  obtain ⟨x42, h56, h⟩ := bO_inv h
                  simp only [EV, seval]
                  refine rR_p [0, 32] (s_l28Do_ok h56) (by simp only [AL, EV, seval]) (by simp only [AL, EV, seval]) (by kernel_rfl) (by simp only [EV, solidO, List.mem_cons, List.not_mem_nil, or_false, forall_eq_or_imp, forall_eq, seval]) (le_d rfl) (le_d rfl) (site_1 (by simp only [EV, seval])) ?_
                  simp only [EV, seval]
                  refine hK _ _ _ (show cutK _ _ _ from cutL ⟨_, _, _, rfl, h⟩ (Le_can [(0, some 0), (1, some 1), (32, some 2176)] [] hρ (by kernel_rfl) ?_ ?_))
                  · simp only [AL, EV, seval]
                  · simp only [AL, EV, seval]
                · refine AW_skip (show cutK _ _ _ from cutL ⟨_, _, _, rfl, h⟩ (Le_can [(0, some 0), (1, some 1), (32, some 32)] [] hρ (by kernel_rfl) ?_ ?_))
                  · simp only [AL, EV, seval, h53a, h53b, h53c]
                  · simp only [AL, EV, seval, h53a, h53b, h53c]
              · rintro S ⟨v48, v49, v50, rfl, h⟩
                unfold s_l28First_j16 at h
                refine AW_re (BR := BR) FM (by rw [hN]; kernel_rfl) (by kernel_rfl) ?_
                intro K hK
                simp only [EV, seval]
                refine hK _ _ _ (show cutK _ _ _ from cutL ⟨_, _, _, _, rfl, h⟩ (Le_can [(0, some 0), (1, some 1), (32, some 32)] [] hρ (by kernel_rfl) ?_ ?_))
                · simp only [AL, EV, seval]
                · simp only [AL, EV, seval]
            · refine AW_exit (show cutK _ _ _ from cutL ⟨_, _, _, rfl, h⟩ (Le_can [(0, some 0), (1, some 1), (32, some 32)] [] hρ (by kernel_rfl) ?_ ?_))
              · simp only [AL, EV, seval]
              · simp only [AL, EV, seval]
  · rintro S ⟨v51, v52, v53, rfl, h⟩
    unfold s_l28First_j1 at h
    injection h with h
    subst h
    refine ⟨_, Le_can (lt := []) (lr := [(0, .box 100 [.int .i64 v51, .sl (encL EIIII v52) v52.length, .own 32 v53.length]), (1, .gone), (32, .row 49 4 (encL EIIII v53))]) (b' := 64) [(0, some 0), (1, some 1), (32, some 32)] [] hρ (by kernel_rfl) ?_ ?_, end_q [0, 1, 32] (.inl rfl) (by kernel_rfl) (by kernel_rfl) ?_⟩
    · simp only [AL, EV, seval]
    · simp only [AL, EV, seval]
    · simp only [EV, Try.results77, seval]
/- spec.l28Second -/
def s_l28Second_j7 (v17 : Int) (kl1 : Int → (LQ) → (LQ) → Int → Option (Int × LQ × LQ)) (v19 : Int) (v20 : LQ) (v21 : LQ) : Option (Int × LQ × LQ) :=
  kl1 v19 v20 v21 (IntKind.wrap .i64 (v17 + 1))
def s_l28Second_j8 (v14 : Int) (v15 : LQ) (v16 : LQ) (v17 : Int) (kl1 : Int → (LQ) → (LQ) → Int → Option (Int × LQ × LQ)) (q3 : Int × Int × Int × Int) (v18 : Bool) : Option (Int × LQ × LQ) :=
  br v18 (bO (s_l14One 5 v17) fun x25 => bO (s_l28Do v14 v15 v16 x25.1 x25.2.1 x25.2.2.1 x25.2.2.2) fun x26 => bO (s_l14One 4 v17) fun x27 => bO (s_l28Do x26.1 x26.2.1 x26.2.2 x27.1 x27.2.1 x27.2.2.1 x27.2.2.2) fun x28 => s_l28Second_j7 v17 kl1 x28.1 x28.2.1 x28.2.2) (bO (s_l28X q3.1 q3.2.1 q3.2.2.1 q3.2.2.2 v17) fun x29 => br x29 (bO (s_l14One 4 v17) fun x30 => bO (s_l28Do v14 v15 v16 x30.1 x30.2.1 x30.2.2.1 x30.2.2.2) fun x31 => s_l28Second_j7 v17 kl1 x31.1 x31.2.1 x31.2.2) (s_l28Second_j7 v17 kl1 v14 v15 v16))
def s_l28Second_j12 (v39 : Int) (kl2 : Int → (LQ) → (LQ) → Int → Option (Int × LQ × LQ)) (v40 : Int) (v41 : LQ) (v42 : LQ) : Option (Int × LQ × LQ) :=
  kl2 v40 v41 v42 (IntKind.wrap .i64 (v39 + 1))
def s_l28Second_j1 (v52 : Int) (v53 : LQ) (v54 : LQ) : Option (Int × LQ × LQ) :=
  some (v52, v53, v54)
def s_l28Second_j14 (a1 : Int) (a4 : Int) (v49 : Int) (v50 : LQ) (v51 : LQ) : Option (Int × LQ × LQ) :=
  bO (geti v50 (IntKind.wrap .i64 (a1 + a4))) fun q9 => br (q9.2.2.2 == 2) (bO (s_l14One 1 a4) fun x50 => bO (s_l28Do v49 v50 v51 x50.1 x50.2.1 x50.2.2.1 x50.2.2.2) fun x51 => s_l28Second_j1 x51.1 x51.2.1 x51.2.2) (s_l28Second_j1 v49 v50 v51)
def s_l28Second_j13 (a1 : Int) (a4 : Int) (v46 : Int) (v47 : LQ) (v48 : LQ) : Option (Int × LQ × LQ) :=
  bO (geti v47 a4) fun q8 => br (q8.2.2.2 == 2) (bO (s_l14One 3 a4) fun x48 => bO (s_l28Do v46 v47 v48 x48.1 x48.2.1 x48.2.2.1 x48.2.2.2) fun x49 => s_l28Second_j14 a1 a4 x49.1 x49.2.1 x49.2.2) (s_l28Second_j14 a1 a4 v46 v47 v48)
def s_l28Second_j9 (a1 : Int) (a4 : Int) (v43 : Int) (v44 : LQ) (v45 : LQ) : Option (Int × LQ × LQ) :=
  bO (geti v44 (IntKind.wrap .i64 (a1 + a4))) fun q7 => bO (s_l28X q7.1 q7.2.1 q7.2.2.1 q7.2.2.2 a4) fun x41 => br x41 (bO (s_l14One 4 a4) fun x42 => bO (s_l28Do v43 v44 v45 x42.1 x42.2.1 x42.2.2.1 x42.2.2.2) fun x43 => bO (s_l14One 5 a4) fun x44 => bO (s_l28Do x43.1 x43.2.1 x43.2.2 x44.1 x44.2.1 x44.2.2.1 x44.2.2.2) fun x45 => bO (s_l14One 4 a4) fun x46 => bO (s_l28Do x45.1 x45.2.1 x45.2.2 x46.1 x46.2.1 x46.2.2.1 x46.2.2.2) fun x47 => s_l28Second_j13 a1 a4 x47.1 x47.2.1 x47.2.2) (s_l28Second_j13 a1 a4 v43 v44 v45)
def s_l28Second_l2 (a1 : Int) (a4 : Int) : Nat → Int → (LQ) → (LQ) → Int → Option (Int × LQ × LQ)
  | 0, _, _, _, _ => none
  | n2 + 1, v36, v37, v38, v39 =>
  br (decide (v39 < a1)) (bO (geti v37 (IntKind.wrap .i64 (a1 + a4))) fun q6 => bO (s_l28Z q6.1 q6.2.1 q6.2.2.1 q6.2.2.2 v39) fun x38 => br x38 (bO (s_l14Cx v39 a4) fun x39 => bO (s_l28Do v36 v37 v38 x39.1 x39.2.1 x39.2.2.1 x39.2.2.2) fun x40 => s_l28Second_j12 v39 (s_l28Second_l2 a1 a4 n2) x40.1 x40.2.1 x40.2.2) (s_l28Second_j12 v39 (s_l28Second_l2 a1 a4 n2) v36 v37 v38)) (s_l28Second_j9 a1 a4 v36 v37 v38)
def s_l28Second_j2 (a1 : Int) (a4 : Int) (v22 : Int) (v23 : LQ) (v24 : LQ) : Option (Int × LQ × LQ) :=
  s_l28Second_l2 a1 a4 FU v22 v23 v24 (IntKind.wrap .i64 (a4 + 1))
def s_l28Second_l1 (a1 : Int) (a4 : Int) : Nat → Int → (LQ) → (LQ) → Int → Option (Int × LQ × LQ)
  | 0, _, _, _, _ => none
  | n1 + 1, v14, v15, v16, v17 =>
  br (decide (v17 < a1)) (bO (geti v15 (IntKind.wrap .i64 (a1 + a4))) fun q3 => bO (s_l28X q3.1 q3.2.1 q3.2.2.1 q3.2.2.2 v17) fun x21 => bO (br x21 (bO (s_l28Z q3.1 q3.2.1 q3.2.2.1 q3.2.2.2 v17) fun x22 => some x22) (some false)) fun x23 => s_l28Second_j8 v14 v15 v16 v17 (s_l28Second_l1 a1 a4 n1) q3 x23) (s_l28Second_j2 a1 a4 v14 v15 v16)
def s_l28Second (a1 : Int) (a2 : LQ) (a3 : LQ) (a4 : Int) : Option (Int × LQ × LQ) :=
  s_l28Second_l1 a1 a4 FU a1 a2 a3 (IntKind.wrap .i64 (a4 + 1))
set_option maxHeartbeats 4000000 in
theorem s_l28Second_ok {a1 : Int} {a2 : LQ} {a3 : LQ} {a4 : Int} {r : Int × LQ × LQ} (h : s_l28Second a1 a2 a3 a4 = some r) :
    Spec Try.prog 78 [.ptr 0 0, .int .i64 a4] [.box 100 [.int .i64 a1, .sl (encL EIIII a2) a2.length, .own 1 a3.length], .row 49 4 (encL EIIII a3)] (.tup []) [.box 100 [.int .i64 r.1, .sl (encL EIIII r.2.1) r.2.1.length, .own 2 r.2.2.length], .gone, .row 49 4 (encL EIIII r.2.2)] := by
  unfold s_l28Second at h
  refine spec_of Try.func78 rfl (by kernel_rfl) (by simp only [Try.ntmps78, List.length_cons, List.length_nil, Nat.reduceAdd, Nat.reduceLeDiff]) ?_
  intro C hN hρ
  rw [Try.ntmps78] at hN
  unfold st0
  simp only [tmps0, Nat.zero_add, Nat.reduceAdd]
  refine AW_endK (fun S => ∃ (v52 : Int) (v53 : LQ) (v54 : LQ), S = ⟨mkT [], mkR [(0, .box 100 [.int .i64 v52, .sl (encL EIIII v53) v53.length, .own 32 v54.length]), (1, .gone), (32, .row 49 4 (encL EIIII v54))], 64⟩ ∧ s_l28Second_j1 v52 v53 v54 = some r) ?_ ?_
  · refine AW_rs (BR := BR) FM (by rw [hN]; kernel_rfl) (by kernel_rfl) ?_
    intro K hK
    simp only [EV, seval]
    refine hK _ _ _ ?_
    clear hK K
    refine AW_cutK (fun S => ∃ (v22 : Int) (v23 : LQ) (v24 : LQ), S = ⟨mkT [(0, .ptr 0 0), (1, .int .i64 a4), (4, .int .i64 a1)], mkR [(0, .box 100 [.int .i64 v22, .sl (encL EIIII v23) v23.length, .own 32 v24.length]), (1, .gone), (32, .row 49 4 (encL EIIII v24))], 64⟩ ∧ s_l28Second_j2 a1 a4 v22 v23 v24 = some r) ?_ ?_
    · refine AW_rs (BR := BR) FM (by rw [hN]; kernel_rfl) (by kernel_rfl) ?_
      intro K hK
      simp only [EV, seval]
      refine hK _ _ _ ?_
      clear hK K
      refine AW_block ?_
      refine AW_loopF (fun n S => ∃ (v14 : Int) (v15 : LQ) (v16 : LQ) (v17 : Int), S = ⟨mkT [(0, .ptr 0 0), (1, .int .i64 a4), (4, .int .i64 a1), (5, .int .i64 v17)], mkR [(0, .box 100 [.int .i64 v14, .sl (encL EIIII v15) v15.length, .own 32 v16.length]), (1, .gone), (32, .row 49 4 (encL EIIII v16))], 64⟩ ∧ s_l28Second_l1 a1 a4 n v14 v15 v16 v17 = some r) FU ?_ ?_ ?_
      · refine cutL ⟨_, _, _, _, rfl, h⟩ (Le_can [(0, some 0), (1, some 1), (32, some 1)] [] hρ (by kernel_rfl) ?_ ?_)
        · simp only [AL, EV, seval]
        · simp only [AL, EV, seval]
      · rintro S ⟨_, _, _, _, _, h⟩; rw [s_l28Second_l1] at h; cases h
      · rintro n1 S ⟨v14, v15, v16, v17, rfl, h⟩
        rw [s_l28Second_l1] at h
        refine AW_seq ?_
        refine AW_rs (BR := BR) FM (by rw [hN]; kernel_rfl) (by kernel_rfl) ?_
        intro K hK
        simp only [EV, seval]
        refine hK _ _ _ ?_
        clear hK K
        refine AW_condK (a := .bool (decide (v17 < a1))) (by simp only [EV, seval]) (brK h (fun hc9 h => ?_) (fun hc9 h => ?_))
        · refine AW_skip (show AW _ _ _ _ _ from ?_)
          refine AW_cutK (fun S => ∃ (v19 : Int) (v20 : LQ) (v21 : LQ), S = ⟨mkT [(0, .ptr 0 0), (1, .int .i64 a4), (4, .int .i64 a1), (5, .int .i64 v17)], mkR [(0, .box 100 [.int .i64 v19, .sl (encL EIIII v20) v20.length, .own 32 v21.length]), (1, .gone), (32, .row 49 4 (encL EIIII v21))], 64⟩ ∧ s_l28Second_j7 v17 (s_l28Second_l1 a1 a4 n1) v19 v20 v21 = some r) ?_ ?_
          · refine AW_block ?_
            refine AW_rs (BR := BR) FM (by rw [hN]; kernel_rfl) (by kernel_rfl) ?_
            intro K hK
            obtain ⟨q3, h23, h⟩ := bO_inv h
            obtain ⟨⟨h24a, h24b⟩, h24c⟩ := geti_E EIIIIl h23
            try simp only [EV, seval] at h24c
            simp only [EV, seval, h24a, h24b, h24c]
            refine hK _ _ _ ?_
            clear hK K
            refine AW_rsJ (BR := BR) (fun S => ∃ (v18 : Bool), S = ⟨mkT [(0, .ptr 0 0), (1, .int .i64 a4), (4, .int .i64 a1), (5, .int .i64 v17), (6, .ptr 33 0), (37, .bool v18)], mkR [(0, .box 100 [.int .i64 v14, .sl (encL EIIII v15) v15.length, .own 32 v16.length]), (1, .gone), (32, .row 49 4 (encL EIIII v16)), (33, .box 113 [.int .i64 q3.1, .int .i64 q3.2.1, .int .i64 q3.2.2.1, .int .i64 q3.2.2.2])], 64⟩ ∧ s_l28Second_j8 v14 v15 v16 v17 (s_l28Second_l1 a1 a4 n1) q3 v18 = some r) FM (by rw [hN]; kernel_rfl) (by kernel_rfl) ?_ ?_
            · intro K hK
              obtain ⟨x21, h25, h⟩ := bO_inv h
              simp only [EV, seval]
              refine rC_p (s_l28X_ok h25) (by simp only [AL, EV, seval]) (le_d rfl) (no_j rfl) ?_
              obtain ⟨x23, hv3, h⟩ := bO_inv h
              rcases br_inv hv3 with ⟨hc10, hv3⟩ | ⟨hc10, hv3⟩
              · obtain ⟨x24, h27, hv3⟩ := bO_inv hv3
                simp only [EV, seval, hc10]
                refine rC_p (s_l28Z_ok h27) (by simp only [AL, EV, seval, hc10]) (le_d rfl) (no_j rfl) ?_
                cases hv3
                simp only [EV, seval, hc10]
                refine hK _ _ _ (show cutK _ _ _ from cutL ⟨_, rfl, h⟩ (Le_can [(0, some 0), (1, some 1), (32, some 32), (33, some 1248)] [] hρ (by kernel_rfl) ?_ ?_))
                · simp only [AL, EV, seval, hc10]
                · simp only [AL, EV, seval, hc10]
              · cases hv3
                simp only [EV, seval, hc10]
                refine hK _ _ _ (show cutK _ _ _ from cutL ⟨_, rfl, h⟩ (Le_can [(0, some 0), (1, some 1), (32, some 32), (33, some 1248)] [] hρ (by kernel_rfl) ?_ ?_))
                · simp only [AL, EV, seval, hc10]
                · simp only [AL, EV, seval, hc10]
            · rintro S ⟨v18, rfl, h⟩
              unfold s_l28Second_j8 at h
              refine AW_condK (a := .bool v18) (by simp only [EV, seval, h24a, h24b, h24c]) (brK h (fun hc11 h => ?_) (fun hc11 h => ?_))
              · refine AW_rs (BR := BR) FM (by rw [hN]; kernel_rfl) (by kernel_rfl) ?_
                intro K hK
                obtain ⟨x25, h28, h⟩ := bO_inv h
                simp only [EV, seval]
                refine rC_p (s_l14One_ok h28) (by simp only [AL, EV, seval]) (le_d rfl) (no_j rfl) ?_
                obtain ⟨x26, h29, h⟩ := bO_inv h
                simp only [EV, seval]
                refine rR_p [0, 32] (s_l28Do_ok h29) (by simp only [AL, EV, seval]) (by simp only [AL, EV, seval]) (by kernel_rfl) (by simp only [EV, solidO, List.mem_cons, List.not_mem_nil, or_false, forall_eq_or_imp, forall_eq, seval]) (le_d rfl) (le_d rfl) (site_1 (by simp only [EV, seval])) ?_
                simp only [EV, seval]
                refine hK _ _ _ ?_
                clear hK K
                refine AW_re (BR := BR) FM (by rw [hN]; kernel_rfl) (by kernel_rfl) ?_
                intro K hK
                obtain ⟨x27, h30, h⟩ := bO_inv h
                simp only [EV, seval]
                refine rC_p (s_l14One_ok h30) (by simp only [AL, EV, seval]) (le_d rfl) (no_j rfl) ?_
                obtain ⟨x28, h31, h⟩ := bO_inv h
                simp only [EV, seval]
                refine rR_p [0, 112] (s_l28Do_ok h31) (by simp only [AL, EV, seval]) (by simp only [AL, EV, seval]) (by kernel_rfl) (by simp only [EV, solidO, List.mem_cons, List.not_mem_nil, or_false, forall_eq_or_imp, forall_eq, seval]) (le_d rfl) (le_d rfl) (site_1 (by simp only [EV, seval])) ?_
                simp only [EV, seval]
                refine hK _ _ _ (show cutK _ _ _ from cutL ⟨_, _, _, rfl, h⟩ (Le_can [(0, some 0), (1, some 1), (32, some 1136)] [] hρ (by kernel_rfl) ?_ ?_))
                · simp only [AL, EV, seval]
                · simp only [AL, EV, seval]
              · refine AW_rs (BR := BR) FM (by rw [hN]; kernel_rfl) (by kernel_rfl) ?_
                intro K hK
                obtain ⟨x29, h32, h⟩ := bO_inv h
                simp only [EV, seval]
                refine rC_p (s_l28X_ok h32) (by simp only [AL, EV, seval]) (le_d rfl) (no_j rfl) ?_
                simp only [EV, seval]
                refine hK _ _ _ ?_
                clear hK K
                refine AW_condK (a := .bool x29) (by simp only [EV, seval]) (brK h (fun hc12 h => ?_) (fun hc12 h => ?_))
                · refine AW_re (BR := BR) FM (by rw [hN]; kernel_rfl) (by kernel_rfl) ?_
                  intro K hK
                  obtain ⟨x30, h33, h⟩ := bO_inv h
                  simp only [EV, seval]
                  refine rC_p (s_l14One_ok h33) (by simp only [AL, EV, seval]) (le_d rfl) (no_j rfl) ?_
                  obtain ⟨x31, h34, h⟩ := bO_inv h
                  simp only [EV, seval]
                  refine rR_p [0, 32] (s_l28Do_ok h34) (by simp only [AL, EV, seval]) (by simp only [AL, EV, seval]) (by kernel_rfl) (by simp only [EV, solidO, List.mem_cons, List.not_mem_nil, or_false, forall_eq_or_imp, forall_eq, seval]) (le_d rfl) (le_d rfl) (site_1 (by simp only [EV, seval])) ?_
                  simp only [EV, seval]
                  refine hK _ _ _ (show cutK _ _ _ from cutL ⟨_, _, _, rfl, h⟩ (Le_can [(0, some 0), (1, some 1), (32, some 1136)] [] hρ (by kernel_rfl) ?_ ?_))
                  · simp only [AL, EV, seval]
                  · simp only [AL, EV, seval]
                · refine AW_skip (show cutK _ _ _ from cutL ⟨_, _, _, rfl, h⟩ (Le_can [(0, some 0), (1, some 1), (32, some 32)] [] hρ (by kernel_rfl) ?_ ?_))
                  · simp only [AL, EV, seval]
                  · simp only [AL, EV, seval]
          · rintro S ⟨v19, v20, v21, rfl, h⟩
            unfold s_l28Second_j7 at h
            refine AW_re (BR := BR) FM (by rw [hN]; kernel_rfl) (by kernel_rfl) ?_
            intro K hK
            simp only [EV, seval]
            refine hK _ _ _ (show cutK _ _ _ from cutL ⟨_, _, _, _, rfl, h⟩ (Le_can [(0, some 0), (1, some 1), (32, some 32)] [] hρ (by kernel_rfl) ?_ ?_))
            · simp only [AL, EV, seval]
            · simp only [AL, EV, seval]
        · refine AW_exit (show cutK _ _ _ from cutL ⟨_, _, _, rfl, h⟩ (Le_can [(0, some 0), (1, some 1), (32, some 32)] [] hρ (by kernel_rfl) ?_ ?_))
          · simp only [AL, EV, seval]
          · simp only [AL, EV, seval]
    · rintro S ⟨v22, v23, v24, rfl, h⟩
      unfold s_l28Second_j2 at h
      refine AW_cutK (fun S => ∃ (v43 : Int) (v44 : LQ) (v45 : LQ), S = ⟨mkT [(0, .ptr 0 0), (1, .int .i64 a4), (4, .int .i64 a1)], mkR [(0, .box 100 [.int .i64 v43, .sl (encL EIIII v44) v44.length, .own 32 v45.length]), (1, .gone), (32, .row 49 4 (encL EIIII v45))], 64⟩ ∧ s_l28Second_j9 a1 a4 v43 v44 v45 = some r) ?_ ?_
      · refine AW_rs (BR := BR) FM (by rw [hN]; kernel_rfl) (by kernel_rfl) ?_
        intro K hK
        simp only [EV, seval]
        refine hK _ _ _ ?_
        clear hK K
        refine AW_block ?_
        refine AW_loopF (fun n S => ∃ (v36 : Int) (v37 : LQ) (v38 : LQ) (v39 : Int), S = ⟨mkT [(0, .ptr 0 0), (1, .int .i64 a4), (4, .int .i64 a1), (7, .int .i64 v39)], mkR [(0, .box 100 [.int .i64 v36, .sl (encL EIIII v37) v37.length, .own 32 v38.length]), (1, .gone), (32, .row 49 4 (encL EIIII v38))], 64⟩ ∧ s_l28Second_l2 a1 a4 n v36 v37 v38 v39 = some r) FU ?_ ?_ ?_
        · refine cutL ⟨_, _, _, _, rfl, h⟩ (Le_can [(0, some 0), (1, some 1), (32, some 32)] [] hρ (by kernel_rfl) ?_ ?_)
          · simp only [AL, EV, seval]
          · simp only [AL, EV, seval]
        · rintro S ⟨_, _, _, _, _, h⟩; rw [s_l28Second_l2] at h; cases h
        · rintro n2 S ⟨v36, v37, v38, v39, rfl, h⟩
          rw [s_l28Second_l2] at h
          refine AW_seq ?_
          refine AW_rs (BR := BR) FM (by rw [hN]; kernel_rfl) (by kernel_rfl) ?_
          intro K hK
          simp only [EV, seval]
          refine hK _ _ _ ?_
          clear hK K
          refine AW_condK (a := .bool (decide (v39 < a1))) (by simp only [EV, seval]) (brK h (fun hc17 h => ?_) (fun hc17 h => ?_))
          · refine AW_skip (show AW _ _ _ _ _ from ?_)
            refine AW_cutK (fun S => ∃ (v40 : Int) (v41 : LQ) (v42 : LQ), S = ⟨mkT [(0, .ptr 0 0), (1, .int .i64 a4), (4, .int .i64 a1), (7, .int .i64 v39)], mkR [(0, .box 100 [.int .i64 v40, .sl (encL EIIII v41) v41.length, .own 32 v42.length]), (1, .gone), (32, .row 49 4 (encL EIIII v42))], 64⟩ ∧ s_l28Second_j12 v39 (s_l28Second_l2 a1 a4 n2) v40 v41 v42 = some r) ?_ ?_
            · refine AW_block ?_
              refine AW_rs (BR := BR) FM (by rw [hN]; kernel_rfl) (by kernel_rfl) ?_
              intro K hK
              obtain ⟨q6, h45, h⟩ := bO_inv h
              obtain ⟨⟨h46a, h46b⟩, h46c⟩ := geti_E EIIIIl h45
              try simp only [EV, seval] at h46c
              obtain ⟨x38, h47, h⟩ := bO_inv h
              simp only [EV, seval, h46a, h46b, h46c]
              refine rC_p (s_l28Z_ok h47) (by simp only [AL, EV, seval, h46a, h46b, h46c]) (le_d rfl) (no_j rfl) ?_
              simp only [EV, seval, h46a, h46b, h46c]
              refine hK _ _ _ ?_
              clear hK K
              refine AW_condK (a := .bool x38) (by simp only [EV, seval, h46a, h46b, h46c]) (brK h (fun hc18 h => ?_) (fun hc18 h => ?_))
              · refine AW_re (BR := BR) FM (by rw [hN]; kernel_rfl) (by kernel_rfl) ?_
                intro K hK
                obtain ⟨x39, h48, h⟩ := bO_inv h
                simp only [EV, seval]
                refine rC_p (s_l14Cx_ok h48) (by simp only [AL, EV, seval]) (le_d rfl) (no_j rfl) ?_
                obtain ⟨x40, h49, h⟩ := bO_inv h
                simp only [EV, seval]
                refine rR_p [0, 32] (s_l28Do_ok h49) (by simp only [AL, EV, seval]) (by simp only [AL, EV, seval]) (by kernel_rfl) (by simp only [EV, solidO, List.mem_cons, List.not_mem_nil, or_false, forall_eq_or_imp, forall_eq, seval]) (le_d rfl) (le_d rfl) (site_1 (by simp only [EV, seval])) ?_
                simp only [EV, seval]
                refine hK _ _ _ (show cutK _ _ _ from cutL ⟨_, _, _, rfl, h⟩ (Le_can [(0, some 0), (1, some 1), (32, some 2176)] [] hρ (by kernel_rfl) ?_ ?_))
                · simp only [AL, EV, seval]
                · simp only [AL, EV, seval]
              · refine AW_skip (show cutK _ _ _ from cutL ⟨_, _, _, rfl, h⟩ (Le_can [(0, some 0), (1, some 1), (32, some 32)] [] hρ (by kernel_rfl) ?_ ?_))
                · simp only [AL, EV, seval, h46a, h46b, h46c]
                · simp only [AL, EV, seval, h46a, h46b, h46c]
            · rintro S ⟨v40, v41, v42, rfl, h⟩
              unfold s_l28Second_j12 at h
              refine AW_re (BR := BR) FM (by rw [hN]; kernel_rfl) (by kernel_rfl) ?_
              intro K hK
              simp only [EV, seval]
              refine hK _ _ _ (show cutK _ _ _ from cutL ⟨_, _, _, _, rfl, h⟩ (Le_can [(0, some 0), (1, some 1), (32, some 32)] [] hρ (by kernel_rfl) ?_ ?_))
              · simp only [AL, EV, seval]
              · simp only [AL, EV, seval]
          · refine AW_exit (show cutK _ _ _ from cutL ⟨_, _, _, rfl, h⟩ (Le_can [(0, some 0), (1, some 1), (32, some 32)] [] hρ (by kernel_rfl) ?_ ?_))
            · simp only [AL, EV, seval]
            · simp only [AL, EV, seval]
      · rintro S ⟨v43, v44, v45, rfl, h⟩
        unfold s_l28Second_j9 at h
        refine AW_cutK (fun S => ∃ (v46 : Int) (v47 : LQ) (v48 : LQ), S = ⟨mkT [(0, .ptr 0 0), (1, .int .i64 a4), (4, .int .i64 a1)], mkR [(0, .box 100 [.int .i64 v46, .sl (encL EIIII v47) v47.length, .own 32 v48.length]), (1, .gone), (32, .row 49 4 (encL EIIII v48))], 64⟩ ∧ s_l28Second_j13 a1 a4 v46 v47 v48 = some r) ?_ ?_
        · refine AW_rs (BR := BR) FM (by rw [hN]; kernel_rfl) (by kernel_rfl) ?_
          intro K hK
          obtain ⟨q7, h50, h⟩ := bO_inv h
          obtain ⟨⟨h51a, h51b⟩, h51c⟩ := geti_E EIIIIl h50
          try simp only [EV, seval] at h51c
          obtain ⟨x41, h52, h⟩ := bO_inv h
          simp only [EV, seval, h51a, h51b, h51c]
          refine rC_p (s_l28X_ok h52) (by simp only [AL, EV, seval, h51a, h51b, h51c]) (le_d rfl) (no_j rfl) ?_
          simp only [EV, seval, h51a, h51b, h51c]
          refine hK _ _ _ ?_
          clear hK K
          refine AW_condK (a := .bool x41) (by simp only [EV, seval, h51a, h51b, h51c]) (brK h (fun hc19 h => ?_) (fun hc19 h => ?_))
          · refine AW_rs (BR := BR) FM (by rw [hN]; kernel_rfl) (by kernel_rfl) ?_
            intro K hK
            obtain ⟨x42, h53, h⟩ := bO_inv h
            simp only [EV, seval]
            refine rC_p (s_l14One_ok h53) (by simp only [AL, EV, seval]) (le_d rfl) (no_j rfl) ?_
            obtain ⟨x43, h54, h⟩ := bO_inv h
            simp only [EV, seval]
            refine rR_p [0, 32] (s_l28Do_ok h54) (by simp only [AL, EV, seval]) (by simp only [AL, EV, seval]) (by kernel_rfl) (by simp only [EV, solidO, List.mem_cons, List.not_mem_nil, or_false, forall_eq_or_imp, forall_eq, seval]) (le_d rfl) (le_d rfl) (site_1 (by simp only [EV, seval])) ?_
            simp only [EV, seval]
            refine hK _ _ _ ?_
            clear hK K
            refine AW_rs (BR := BR) FM (by rw [hN]; kernel_rfl) (by kernel_rfl) ?_
            intro K hK
            obtain ⟨x44, h55, h⟩ := bO_inv h
            simp only [EV, seval]
            refine rC_p (s_l14One_ok h55) (by simp only [AL, EV, seval]) (le_d rfl) (no_j rfl) ?_
            obtain ⟨x45, h56, h⟩ := bO_inv h
            simp only [EV, seval]
            refine rR_p [0, 1136] (s_l28Do_ok h56) (by simp only [AL, EV, seval]) (by simp only [AL, EV, seval]) (by kernel_rfl) (by simp only [EV, solidO, List.mem_cons, List.not_mem_nil, or_false, forall_eq_or_imp, forall_eq, seval]) (le_d rfl) (le_d rfl) (site_1 (by simp only [EV, seval])) ?_
            simp only [EV, seval]
            refine hK _ _ _ ?_
            clear hK K
            refine AW_re (BR := BR) FM (by rw [hN]; kernel_rfl) (by kernel_rfl) ?_
            intro K hK
            obtain ⟨x46, h57, h⟩ := bO_inv h
            simp only [EV, seval]
            refine rC_p (s_l14One_ok h57) (by simp only [AL, EV, seval]) (le_d rfl) (no_j rfl) ?_
            obtain ⟨x47, h58, h⟩ := bO_inv h
            simp only [EV, seval]
            refine rR_p [0, 2160] (s_l28Do_ok h58) (by simp only [AL, EV, seval]) (by simp only [AL, EV, seval]) (by kernel_rfl) (by simp only [EV, solidO, List.mem_cons, List.not_mem_nil, or_false, forall_eq_or_imp, forall_eq, seval]) (le_d rfl) (le_d rfl) (site_1 (by simp only [EV, seval])) ?_
            simp only [EV, seval]
            refine hK _ _ _ (show cutK _ _ _ from cutL ⟨_, _, _, rfl, h⟩ (Le_can [(0, some 0), (1, some 1), (32, some 3184)] [] hρ (by kernel_rfl) ?_ ?_))
            · simp only [AL, EV, seval]
            · simp only [AL, EV, seval]
          · refine AW_skip (show cutK _ _ _ from cutL ⟨_, _, _, rfl, h⟩ (Le_can [(0, some 0), (1, some 1), (32, some 32)] [] hρ (by kernel_rfl) ?_ ?_))
            · simp only [AL, EV, seval, h51a, h51b, h51c]
            · simp only [AL, EV, seval, h51a, h51b, h51c]
        · rintro S ⟨v46, v47, v48, rfl, h⟩
          unfold s_l28Second_j13 at h
          refine AW_cutK (fun S => ∃ (v49 : Int) (v50 : LQ) (v51 : LQ), S = ⟨mkT [(0, .ptr 0 0), (1, .int .i64 a4), (4, .int .i64 a1)], mkR [(0, .box 100 [.int .i64 v49, .sl (encL EIIII v50) v50.length, .own 32 v51.length]), (1, .gone), (32, .row 49 4 (encL EIIII v51))], 64⟩ ∧ s_l28Second_j14 a1 a4 v49 v50 v51 = some r) ?_ ?_
          · refine AW_rs (BR := BR) FM (by rw [hN]; kernel_rfl) (by kernel_rfl) ?_
            intro K hK
            obtain ⟨q8, h59, h⟩ := bO_inv h
            obtain ⟨⟨h60a, h60b⟩, h60c⟩ := geti_E EIIIIl h59
            try simp only [EV, seval] at h60c
            simp only [EV, seval, h60a, h60b, h60c]
            refine hK _ _ _ ?_
            clear hK K
            refine AW_condK (a := .bool (q8.2.2.2 == 2)) (by simp only [EV, seval, h60a, h60b, h60c]) (brK h (fun hc20 h => ?_) (fun hc20 h => ?_))
            · refine AW_re (BR := BR) FM (by rw [hN]; kernel_rfl) (by kernel_rfl) ?_
              intro K hK
              obtain ⟨x48, h61, h⟩ := bO_inv h
              simp only [EV, seval]
              refine rC_p (s_l14One_ok h61) (by simp only [AL, EV, seval]) (le_d rfl) (no_j rfl) ?_
              obtain ⟨x49, h62, h⟩ := bO_inv h
              simp only [EV, seval]
              refine rR_p [0, 32] (s_l28Do_ok h62) (by simp only [AL, EV, seval]) (by simp only [AL, EV, seval]) (by kernel_rfl) (by simp only [EV, solidO, List.mem_cons, List.not_mem_nil, or_false, forall_eq_or_imp, forall_eq, seval]) (le_d rfl) (le_d rfl) (site_1 (by simp only [EV, seval])) ?_
              simp only [EV, seval]
              refine hK _ _ _ (show cutK _ _ _ from cutL ⟨_, _, _, rfl, h⟩ (Le_can [(0, some 0), (1, some 1), (32, some 1136)] [] hρ (by kernel_rfl) ?_ ?_))
              · simp only [AL, EV, seval]
              · simp only [AL, EV, seval]
            · refine AW_skip (show cutK _ _ _ from cutL ⟨_, _, _, rfl, h⟩ (Le_can [(0, some 0), (1, some 1), (32, some 32)] [] hρ (by kernel_rfl) ?_ ?_))
              · simp only [AL, EV, seval, h60a, h60b, h60c]
              · simp only [AL, EV, seval, h60a, h60b, h60c]
          · rintro S ⟨v49, v50, v51, rfl, h⟩
            unfold s_l28Second_j14 at h
            refine AW_rs (BR := BR) FM (by rw [hN]; kernel_rfl) (by kernel_rfl) ?_
            intro K hK
            obtain ⟨q9, h63, h⟩ := bO_inv h
            obtain ⟨⟨h64a, h64b⟩, h64c⟩ := geti_E EIIIIl h63
            try simp only [EV, seval] at h64c
            simp only [EV, seval, h64a, h64b, h64c]
            refine hK _ _ _ ?_
            clear hK K
            refine AW_condK (a := .bool (q9.2.2.2 == 2)) (by simp only [EV, seval, h64a, h64b, h64c]) (brK h (fun hc21 h => ?_) (fun hc21 h => ?_))
            · refine AW_re (BR := BR) FM (by rw [hN]; kernel_rfl) (by kernel_rfl) ?_
              intro K hK
              obtain ⟨x50, h65, h⟩ := bO_inv h
              simp only [EV, seval]
              refine rC_p (s_l14One_ok h65) (by simp only [AL, EV, seval]) (le_d rfl) (no_j rfl) ?_
              obtain ⟨x51, h66, h⟩ := bO_inv h
              simp only [EV, seval]
              refine rR_p [0, 32] (s_l28Do_ok h66) (by simp only [AL, EV, seval]) (by simp only [AL, EV, seval]) (by kernel_rfl) (by simp only [EV, solidO, List.mem_cons, List.not_mem_nil, or_false, forall_eq_or_imp, forall_eq, seval]) (le_d rfl) (le_d rfl) (site_1 (by simp only [EV, seval])) ?_
              simp only [EV, seval]
              refine hK _ _ _ (show cutK _ _ _ from cutL ⟨_, _, _, rfl, h⟩ (Le_can [(0, some 0), (1, some 1), (32, some 1136)] [] hρ (by kernel_rfl) ?_ ?_))
              · simp only [AL, EV, seval]
              · simp only [AL, EV, seval]
            · refine AW_skip (show cutK _ _ _ from cutL ⟨_, _, _, rfl, h⟩ (Le_can [(0, some 0), (1, some 1), (32, some 32)] [] hρ (by kernel_rfl) ?_ ?_))
              · simp only [AL, EV, seval, h64a, h64b, h64c]
              · simp only [AL, EV, seval, h64a, h64b, h64c]
  · rintro S ⟨v52, v53, v54, rfl, h⟩
    unfold s_l28Second_j1 at h
    injection h with h
    subst h
    refine ⟨_, Le_can (lt := []) (lr := [(0, .box 100 [.int .i64 v52, .sl (encL EIIII v53) v53.length, .own 32 v54.length]), (1, .gone), (32, .row 49 4 (encL EIIII v54))]) (b' := 64) [(0, some 0), (1, some 1), (32, some 32)] [] hρ (by kernel_rfl) ?_ ?_, end_q [0, 1, 32] (.inl rfl) (by kernel_rfl) (by kernel_rfl) ?_⟩
    · simp only [AL, EV, seval]
    · simp only [AL, EV, seval]
    · simp only [EV, Try.results78, seval]
/- spec.ReduceTableau -/
def s_ReduceTableau_j1 (v13 : Int) (v14 : LQ) (v15 : LQ) : Option (LQ × Bool) :=
  gd (decide (([] : LQ).length + v15.length ≤ 16777216)) (some (v15, true))
def s_ReduceTableau_l1 (a1 : Int) : Nat → Int → Int → (LQ) → (LQ) → Option (LQ × Bool)
  | 0, _, _, _, _ => none
  | n1 + 1, v9, v10, v11, v12 =>
  br (decide (v9 < a1)) (bO (s_l28First v10 v11 v12 v9) fun x7 => bO (s_l28Second x7.1 x7.2.1 x7.2.2 v9) fun x8 => (s_ReduceTableau_l1 a1 n1) (IntKind.wrap .i64 (v9 + 1)) x8.1 x8.2.1 x8.2.2) (s_ReduceTableau_j1 v10 v11 v12)
def s_ReduceTableau (a1 : Int) (a2 : LQ) : Option (LQ × Bool) :=
  bO (s_IsValidTableau a1 a2) fun x1 => br (!x1) (some ([], false)) (bO (s_l26Copy a1 a2) fun x2 => s_ReduceTableau_l1 a1 FU 0 x2.1 x2.2 ([] : LQ))
set_option maxHeartbeats 4000000 in
theorem s_ReduceTableau_ok {a1 : Int} {a2 : LQ} {r : LQ × Bool} (h : s_ReduceTableau a1 a2 = some r) :
    Spec Try.prog 24 [.agg [.int .i64 a1, .sl (encL EIIII a2) a2.length]] [] (.tup [.own 0 r.1.length, .bool r.2]) [.row 49 4 (encL EIIII r.1)] := by
  unfold s_ReduceTableau at h
  refine spec_of Try.func24 rfl (by kernel_rfl) (by simp only [Try.ntmps24, List.length_cons, List.length_nil, Nat.reduceAdd, Nat.reduceLeDiff]) ?_
  intro C hN hρ
  rw [Try.ntmps24] at hN
  unfold st0
  simp only [tmps0, Nat.zero_add, Nat.reduceAdd]
  refine AW_rs (BR := BR) FM (by rw [hN]; kernel_rfl) (by kernel_rfl) ?_
  intro K hK
  simp only [EV, seval]
  refine hK _ _ _ ?_
  clear hK K
  refine AW_seq ?_
  refine AW_rs (BR := BR) FM (by rw [hN]; kernel_rfl) (by kernel_rfl) ?_
  intro K hK
  obtain ⟨x1, h1, h⟩ := bO_inv h
  simp only [EV, seval]
  refine rC_p (s_IsValidTableau_ok h1) (by simp only [AL, EV, seval]) (le_d rfl) (no_j rfl) ?_
  simp only [EV, seval]
  refine hK _ _ _ ?_
  clear hK K
  refine AW_condK (a := .bool (!x1)) (by simp only [EV, seval]) (brK h (fun hc1 h => ?_) (fun hc1 h => ?_))
  · refine AW_rs (BR := BR) FM (by rw [hN]; kernel_rfl) (by kernel_rfl) ?_
    intro K hK
    simp only [EV, seval]
    refine hK _ _ _ ?_
    clear hK K
    injection h with h
    subst h
    refine AW_le (Le_can (lt := [(2, .own 32 0), (3, .bool false)]) (lr := [(32, .row 49 4 (encL EIIII ([])))]) (b' := 64) [(32, some 2112)] [] hρ (by kernel_rfl) ?_ ?_) (AW_ret (end_q [32] (.inr rfl) (by kernel_rfl) (by kernel_rfl) ?_))
    · simp only [AL, EV, seval]
    · simp only [AL, EV, seval]
    · simp only [EV, Try.results24, seval]
  · refine AW_skip (show AW _ _ _ _ _ from ?_)
    refine AW_rs (BR := BR) FM (by rw [hN]; kernel_rfl) (by kernel_rfl) ?_
    intro K hK
    obtain ⟨x2, h2, h⟩ := bO_inv h
    simp only [EV, seval]
    refine rC_p (s_l26Copy_ok h2) (by simp only [AL, EV, seval]) (le_d rfl) (site_1 (by simp only [EV, seval])) ?_
    simp only [EV, seval]
    refine hK _ _ _ ?_
    clear hK K
    refine AW_cutK (fun S => ∃ (v13 : Int) (v14 : LQ) (v15 : LQ), S = ⟨mkT [(4, .ptr 32 0)], mkR [(32, .box 100 [.int .i64 v13, .sl (encL EIIII v14) v14.length, .own 33 v15.length]), (33, .row 49 4 (encL EIIII v15))], 64⟩ ∧ s_ReduceTableau_j1 v13 v14 v15 = some r) ?_ ?_
    · refine AW_rs (BR := BR) FM (by rw [hN]; kernel_rfl) (by kernel_rfl) ?_
      intro K hK
      simp only [EV, seval]
      refine hK _ _ _ ?_
      clear hK K
      refine AW_block ?_
      refine AW_loopF (fun n S => ∃ (v9 : Int) (v10 : Int) (v11 : LQ) (v12 : LQ), S = ⟨mkT [(1, .ptr 32 0), (4, .ptr 33 0), (5, .int .i64 v9)], mkR [(32, .box 31 [.int .i64 a1, .sl (encL EIIII a2) a2.length]), (33, .box 100 [.int .i64 v10, .sl (encL EIIII v11) v11.length, .own 34 v12.length]), (34, .row 49 4 (encL EIIII v12))], 64⟩ ∧ s_ReduceTableau_l1 a1 n v9 v10 v11 v12 = some r) FU ?_ ?_ ?_
      · refine cutL ⟨_, _, _, _, rfl, h⟩ (Le_can [(32, some 64), (33, some 2160), (34, none)] [2128] hρ (by kernel_rfl) ?_ ?_)
        · simp only [AL, EV, seval]
        · simp only [AL, EV, seval]
      · rintro S ⟨_, _, _, _, _, h⟩; rw [s_ReduceTableau_l1] at h; cases h
      · rintro n1 S ⟨v9, v10, v11, v12, rfl, h⟩
        rw [s_ReduceTableau_l1] at h
        refine AW_seq ?_
        refine AW_rs (BR := BR) FM (by rw [hN]; kernel_rfl) (by kernel_rfl) ?_
        intro K hK
        simp only [EV, seval]
        refine hK _ _ _ ?_
        clear hK K
        refine AW_condK (a := .bool (decide (v9 < a1))) (by simp only [EV, seval]) (brK h (fun hc4 h => ?_) (fun hc4 h => ?_))
        · refine AW_skip (show AW _ _ _ _ _ from ?_)
          refine AW_seq ?_
          refine AW_block ?_
          refine AW_rs (BR := BR) FM (by rw [hN]; kernel_rfl) (by kernel_rfl) ?_
          intro K hK
          obtain ⟨x7, h7, h⟩ := bO_inv h
          simp only [EV, seval]
          refine rR_p [33, 34] (s_l28First_ok h7) (by simp only [AL, EV, seval]) (by simp only [AL, EV, seval]) (by kernel_rfl) (by simp only [EV, solidO, List.mem_cons, List.not_mem_nil, or_false, forall_eq_or_imp, forall_eq, seval]) (le_d rfl) (le_d rfl) (site_1 (by simp only [EV, seval])) ?_
          simp only [EV, seval]
          refine hK _ _ _ ?_
          clear hK K
          refine AW_re (BR := BR) FM (by rw [hN]; kernel_rfl) (by kernel_rfl) ?_
          intro K hK
          obtain ⟨x8, h8, h⟩ := bO_inv h
          simp only [EV, seval]
          refine rR_p [33, 1120] (s_l28Second_ok h8) (by simp only [AL, EV, seval]) (by simp only [AL, EV, seval]) (by kernel_rfl) (by simp only [EV, solidO, List.mem_cons, List.not_mem_nil, or_false, forall_eq_or_imp, forall_eq, seval]) (le_d rfl) (le_d rfl) (site_1 (by simp only [EV, seval])) ?_
          simp only [EV, seval]
          refine hK _ _ _ (show AW _ _ _ _ _ from ?_)
          refine AW_re (BR := BR) FM (by rw [hN]; kernel_rfl) (by kernel_rfl) ?_
          intro K hK
          simp only [EV, seval]
          refine hK _ _ _ (show cutK _ _ _ from cutL ⟨_, _, _, _, rfl, h⟩ (Le_can [(32, some 32), (33, some 33), (34, some 2144)] [] hρ (by kernel_rfl) ?_ ?_))
          · simp only [AL, EV, seval]
          · simp only [AL, EV, seval]
        · refine AW_exit (show cutK _ _ _ from cutL ⟨_, _, _, rfl, h⟩ (Le_can [(32, some 33), (33, some 34)] [] hρ (by kernel_rfl) ?_ ?_))
          · simp only [AL, EV, seval]
          · simp only [AL, EV, seval]
    · rintro S ⟨v13, v14, v15, rfl, h⟩
      unfold s_ReduceTableau_j1 at h
      refine AW_rs (BR := BR) FM (by rw [hN]; kernel_rfl) (by kernel_rfl) ?_
      intro K hK
      obtain ⟨h9, h⟩ := gd_inv h
      replace h9 := of_decide_eq_true h9
      try simp only [EV, seval] at h9
      simp only [EV, seval, h9]
      refine hK _ _ _ ?_
      clear hK K
      injection h with h
      subst h
      refine AW_le (Le_can (lt := [(2, .own 32 v15.length), (3, .bool true)]) (lr := [(32, .row 49 4 (encL EIIII v15))]) (b' := 64) [(32, some 144)] [] hρ (by kernel_rfl) ?_ ?_) (AW_ret (end_q [32] (.inr rfl) (by kernel_rfl) (by kernel_rfl) ?_))
      · simp only [AL, EV, seval, h9]
      · simp only [AL, EV, seval, h9]
      · simp only [EV, Try.results24, seval]
/- (impl.reducer).x -/
def i_reducer_x (a1 : Int) (a2 : LQ) (a3 : LQ) (a4 : Int) (a5 : Int) : Option Bool :=
  bO (geti a2 a4) fun q1 => gd (decide (¬ a5 < 0)) (some ((bits .and .i64 (Int.fdiv q1.2.1 (2 ^ min (Int.toNat a5) (IntKind.bits .i64))) 1) == 1))
set_option maxHeartbeats 4000000 in
theorem i_reducer_x_ok {a1 : Int} {a2 : LQ} {a3 : LQ} {a4 : Int} {a5 : Int} {r : Bool} (h : i_reducer_x a1 a2 a3 a4 a5 = some r) :
    Spec Try.prog 132 [.ptr 0 0, .int .i64 a4, .int .i64 a5] [.box 104 [.int .i64 a1, .sl (encL EIIII a2) a2.length, .own 1 a3.length], .row 49 4 (encL EIIII a3)] (.bool r) [.box 104 [.int .i64 a1, .sl (encL EIIII a2) a2.length, .own 1 a3.length], .row 49 4 (encL EIIII a3)] := by
  unfold i_reducer_x at h
  refine spec_of Try.func132 rfl (by kernel_rfl) (by simp only [Try.ntmps132, List.length_cons, List.length_nil, Nat.reduceAdd, Nat.reduceLeDiff]) ?_
  intro C hN hρ
  rw [Try.ntmps132] at hN
  unfold st0
  simp only [tmps0, Nat.zero_add, Nat.reduceAdd]
  refine AW_rs (BR := BR) FM (by rw [hN]; kernel_rfl) (by kernel_rfl) ?_
  intro K hK
  simp only [EV, seval]
  refine hK _ _ _ ?_
  clear hK K
  refine AW_rs (BR := BR) FM (by rw [hN]; kernel_rfl) (by kernel_rfl) ?_
  intro K hK
  obtain ⟨q1, h1, h⟩ := bO_inv h
  obtain ⟨⟨h2a, h2b⟩, h2c⟩ := geti_E EIIIIl h1
  try simp only [EV, seval] at h2c
  obtain ⟨h3, h⟩ := gd_inv h
  replace h3 := of_decide_eq_true h3
  simp only [EV, seval, h2a, h2b, h2c, h3]
  refine hK _ _ _ ?_
  clear hK K
  injection h with h
  subst h
  refine AW_le (Le_can (lt := [(6, .bool ((bits .and .i64 (Int.fdiv q1.2.1 (2 ^ min (Int.toNat a5) (IntKind.bits .i64))) 1) == 1))]) (lr := [(0, .box 104 [.int .i64 a1, .sl (encL EIIII a2) a2.length, .own 1 a3.length]), (1, .row 49 4 (encL EIIII a3))]) (b' := 64) [(0, some 0), (1, some 1)] [] hρ (by kernel_rfl) ?_ ?_) (AW_ret (end_q [0, 1] (.inr rfl) (by kernel_rfl) (by kernel_rfl) ?_))
  · simp only [AL, EV, seval, h2a, h2b, h2c, h3]
  · simp only [AL, EV, seval, h2a, h2b, h2c, h3]
  · simp only [EV, Try.results132, seval]
/- (impl.reducer).z -/
def i_reducer_z (a1 : Int) (a2 : LQ) (a3 : LQ) (a4 : Int) (a5 : Int) : Option Bool :=
  bO (geti a2 a4) fun q1 => gd (decide (¬ a5 < 0)) (some ((bits .and .i64 (Int.fdiv q1.2.2.1 (2 ^ min (Int.toNat a5) (IntKind.bits .i64))) 1) == 1))
set_option maxHeartbeats 4000000 in
theorem i_reducer_z_ok {a1 : Int} {a2 : LQ} {a3 : LQ} {a4 : Int} {a5 : Int} {r : Bool} (h : i_reducer_z a1 a2 a3 a4 a5 = some r) :
    Spec Try.prog 133 [.ptr 0 0, .int .i64 a4, .int .i64 a5] [.box 104 [.int .i64 a1, .sl (encL EIIII a2) a2.length, .own 1 a3.length], .row 49 4 (encL EIIII a3)] (.bool r) [.box 104 [.int .i64 a1, .sl (encL EIIII a2) a2.length, .own 1 a3.length], .row 49 4 (encL EIIII a3)] := by
  unfold i_reducer_z at h
  refine spec_of Try.func133 rfl (by kernel_rfl) (by simp only [Try.ntmps133, List.length_cons, List.length_nil, Nat.reduceAdd, Nat.reduceLeDiff]) ?_
  intro C hN hρ
  rw [Try.ntmps133] at hN
  unfold st0
  simp only [tmps0, Nat.zero_add, Nat.reduceAdd]
  refine AW_rs (BR := BR) FM (by rw [hN]; kernel_rfl) (by kernel_rfl) ?_
  intro K hK
  simp only [EV, seval]
  refine hK _ _ _ ?_
  clear hK K
  refine AW_rs (BR := BR) FM (by rw [hN]; kernel_rfl) (by kernel_rfl) ?_
  intro K hK
  obtain ⟨q1, h1, h⟩ := bO_inv h
  obtain ⟨⟨h2a, h2b⟩, h2c⟩ := geti_E EIIIIl h1
  try simp only [EV, seval] at h2c
  obtain ⟨h3, h⟩ := gd_inv h
  replace h3 := of_decide_eq_true h3
  simp only [EV, seval, h2a, h2b, h2c, h3]
  refine hK _ _ _ ?_
  clear hK K
  injection h with h
  subst h
  refine AW_le (Le_can (lt := [(6, .bool ((bits .and .i64 (Int.fdiv q1.2.2.1 (2 ^ min (Int.toNat a5) (IntKind.bits .i64))) 1) == 1))]) (lr := [(0, .box 104 [.int .i64 a1, .sl (encL EIIII a2) a2.length, .own 1 a3.length]), (1, .row 49 4 (encL EIIII a3))]) (b' := 64) [(0, some 0), (1, some 1)] [] hρ (by kernel_rfl) ?_ ?_) (AW_ret (end_q [0, 1] (.inr rfl) (by kernel_rfl) (by kernel_rfl) ?_))
  · simp only [AL, EV, seval, h2a, h2b, h2c, h3]
  · simp only [AL, EV, seval, h2a, h2b, h2c, h3]
  · simp only [EV, Try.results133, seval]
/- (impl.reducer).emit -/
def i_reducer_emit_j1 (v1 : Int) (v2 : LQ) (v3 : LQ) : Option (Int × LQ × LQ) :=
  some (v1, v2, v3)
def i_reducer_emit (a1 : Int) (a2 : LQ) (a3 : LQ) (a4 : Int) (a5 : Int) (a6 : Int) : Option (Int × LQ × LQ) :=
  bO (i_TableauApplyGate a1 a2 a4 a5 a6 0) fun x1 => gd (decide (a3.length + ([(a4, a5, a6, 0)]).length ≤ 16777216)) (i_reducer_emit_j1 x1.1 x1.2.1 (a3 ++ ([(a4, a5, a6, 0)])))
set_option maxHeartbeats 4000000 in
theorem i_reducer_emit_ok {a1 : Int} {a2 : LQ} {a3 : LQ} {a4 : Int} {a5 : Int} {a6 : Int} {r : Int × LQ × LQ} (h : i_reducer_emit a1 a2 a3 a4 a5 a6 = some r) :
    Spec Try.prog 134 [.ptr 0 0, .int .i64 a4, .int .i64 a5, .int .i64 a6] [.box 104 [.int .i64 a1, .sl (encL EIIII a2) a2.length, .own 1 a3.length], .row 49 4 (encL EIIII a3)] (.tup []) [.box 104 [.int .i64 r.1, .own 2 r.2.1.length, .own 3 r.2.2.length], .gone, .row 113 4 (encL EIIII r.2.1), .row 49 4 (encL EIIII r.2.2)] := by
  unfold i_reducer_emit at h
  refine spec_of Try.func134 rfl (by kernel_rfl) (by simp only [Try.ntmps134, List.length_cons, List.length_nil, Nat.reduceAdd, Nat.reduceLeDiff]) ?_
  intro C hN hρ
  rw [Try.ntmps134] at hN
  unfold st0
  simp only [tmps0, Nat.zero_add, Nat.reduceAdd]
  refine AW_endK (fun S => ∃ (v1 : Int) (v2 : LQ) (v3 : LQ), S = ⟨mkT [], mkR [(0, .box 104 [.int .i64 v1, .own 32 v2.length, .own 33 v3.length]), (1, .gone), (32, .row 113 4 (encL EIIII v2)), (33, .row 49 4 (encL EIIII v3))], 64⟩ ∧ i_reducer_emit_j1 v1 v2 v3 = some r) ?_ ?_
  · refine AW_rs (BR := BR) FM (by rw [hN]; kernel_rfl) (by kernel_rfl) ?_
    intro K hK
    simp only [EV, seval]
    refine hK _ _ _ ?_
    clear hK K
    refine AW_rs (BR := BR) FM (by rw [hN]; kernel_rfl) (by kernel_rfl) ?_
    intro K hK
    obtain ⟨x1, h1, h⟩ := bO_inv h
    simp only [EV, seval]
    refine rC_p (i_TableauApplyGate_ok h1) (by simp only [AL, EV, seval]) (le_d rfl) (site_1 (by simp only [EV, seval])) ?_
    simp only [EV, seval]
    refine hK _ _ _ ?_
    clear hK K
    refine AW_re (BR := BR) FM (by rw [hN]; kernel_rfl) (by kernel_rfl) ?_
    intro K hK
    obtain ⟨h2, h⟩ := gd_inv h
    replace h2 := of_decide_eq_true h2
    try simp only [EV, seval] at h2
    simp only [EV, seval, h2]
    refine hK _ _ _ (show cutK _ _ _ from cutL ⟨_, _, _, rfl, h⟩ (Le_can [(0, some 0), (1, some 1), (32, some 1184), (33, some 2224)] [] hρ (by kernel_rfl) ?_ ?_))
    · simp only [AL, EV, seval, h2]
    · simp only [AL, EV, seval, h2]
  · rintro S ⟨v1, v2, v3, rfl, h⟩
    unfold i_reducer_emit_j1 at h
    injection h with h
    subst h
    refine ⟨_, Le_can (lt := []) (lr := [(0, .box 104 [.int .i64 v1, .own 32 v2.length, .own 33 v3.length]), (1, .gone), (32, .row 113 4 (encL EIIII v2)), (33, .row 49 4 (encL EIIII v3))]) (b' := 64) [(0, some 0), (1, some 1), (32, some 32), (33, some 33)] [] hρ (by kernel_rfl) ?_ ?_, end_q [0, 1, 32, 33] (.inl rfl) (by kernel_rfl) (by kernel_rfl) ?_⟩
    · simp only [AL, EV, seval]
    · simp only [AL, EV, seval]
    · simp only [EV, Try.results134, seval]
/- (impl.reducer).qubit -/
def i_reducer_qubit_j7 (v20 : Int) (v21 : Int) (kl1 : Int → (LQ) → (LQ) → Int → Int → Option (Int × LQ × LQ)) (v24 : Int) (v25 : LQ) (v26 : LQ) : Option (Int × LQ × LQ) :=
  kl1 v24 v25 v26 v20 (IntKind.wrap .i64 (v21 + 1))
def i_reducer_qubit_j8 (a4 : Int) (v17 : Int) (v18 : LQ) (v19 : LQ) (v20 : Int) (v21 : Int) (kl1 : Int → (LQ) → (LQ) → Int → Int → Option (Int × LQ × LQ)) (v22 : Bool) : Option (Int × LQ × LQ) :=
  br v22 (bO (i_reducer_emit v17 v18 v19 5 v21 0) fun x17 => i_reducer_qubit_j7 v20 v21 kl1 x17.1 x17.2.1 x17.2.2) (bO (i_reducer_z v17 v18 v19 a4 v21) fun x18 => br x18 (bO (i_reducer_emit v17 v18 v19 4 v21 0) fun x19 => i_reducer_qubit_j7 v20 v21 kl1 x19.1 x19.2.1 x19.2.2) (i_reducer_qubit_j7 v20 v21 kl1 v17 v18 v19))
def i_reducer_qubit_j17 (v57 : Int) (kl3 : Int → (LQ) → (LQ) → Int → Option (Int × LQ × LQ)) (v59 : Int) (v60 : LQ) (v61 : LQ) : Option (Int × LQ × LQ) :=
  kl3 v59 v60 v61 (IntKind.wrap .i64 (v57 + 1))
def i_reducer_qubit_j23 (v83 : Int) (kl4 : Int → (LQ) → (LQ) → Int → Option (Int × LQ × LQ)) (v86 : Int) (v87 : LQ) (v88 : LQ) : Option (Int × LQ × LQ) :=
  kl4 v86 v87 v88 (IntKind.wrap .i64 (v83 + 1))
def i_reducer_qubit_j24 (v30 : Int) (v80 : Int) (v81 : LQ) (v82 : LQ) (v83 : Int) (kl4 : Int → (LQ) → (LQ) → Int → Option (Int × LQ × LQ)) (v84 : Bool) : Option (Int × LQ × LQ) :=
  br v84 (bO (i_reducer_emit v80 v81 v82 5 v83 0) fun x52 => bO (i_reducer_emit x52.1 x52.2.1 x52.2.2 4 v83 0) fun x53 => i_reducer_qubit_j23 v83 kl4 x53.1 x53.2.1 x53.2.2) (bO (i_reducer_x v80 v81 v82 v30 v83) fun x54 => br x54 (bO (i_reducer_emit v80 v81 v82 4 v83 0) fun x55 => i_reducer_qubit_j23 v83 kl4 x55.1 x55.2.1 x55.2.2) (i_reducer_qubit_j23 v83 kl4 v80 v81 v82))
def i_reducer_qubit_j28 (v108 : Int) (kl5 : Int → (LQ) → (LQ) → Int → Option (Int × LQ × LQ)) (v110 : Int) (v111 : LQ) (v112 : LQ) : Option (Int × LQ × LQ) :=
  kl5 v110 v111 v112 (IntKind.wrap .i64 (v108 + 1))
def i_reducer_qubit_j1 (v125 : Int) (v126 : LQ) (v127 : LQ) : Option (Int × LQ × LQ) :=
  some (v125, v126, v127)
def i_reducer_qubit_j30 (a4 : Int) (v30 : Int) (v121 : Int) (v122 : LQ) (v123 : LQ) : Option (Int × LQ × LQ) :=
  bO (geti v122 v30) fun q2 => br (q2.2.2.2 == 2) (bO (i_reducer_emit v121 v122 v123 1 a4 0) fun x67 => i_reducer_qubit_j1 x67.1 x67.2.1 x67.2.2) (i_reducer_qubit_j1 v121 v122 v123)
def i_reducer_qubit_j29 (a4 : Int) (v30 : Int) (v117 : Int) (v118 : LQ) (v119 : LQ) : Option (Int × LQ × LQ) :=
  bO (geti v118 a4) fun q1 => br (q1.2.2.2 == 2) (bO (i_reducer_emit v117 v118 v119 3 a4 0) fun x66 => i_reducer_qubit_j30 a4 v30 x66.1 x66.2.1 x66.2.2) (i_reducer_qubit_j30 a4 v30 v117 v118 v119)
def i_reducer_qubit_j25 (a4 : Int) (v30 : Int) (v113 : Int) (v114 : LQ) (v115 : LQ) : Option (Int × LQ × LQ) :=
  bO (i_reducer_x v113 v114 v115 v30 a4) fun x62 => br x62 (bO (i_reducer_emit v113 v114 v115 4 a4 0) fun x63 => bO (i_reducer_emit x63.1 x63.2.1 x63.2.2 5 a4 0) fun x64 => bO (i_reducer_emit x64.1 x64.2.1 x64.2.2 4 a4 0) fun x65 => i_reducer_qubit_j29 a4 v30 x65.1 x65.2.1 x65.2.2) (i_reducer_qubit_j29 a4 v30 v113 v114 v115)
def i_reducer_qubit_l5 (a1 : Int) (a4 : Int) (v30 : Int) : Nat → Int → (LQ) → (LQ) → Int → Option (Int × LQ × LQ)
  | 0, _, _, _, _ => none
  | n5 + 1, v105, v106, v107, v108 =>
  br (decide (v108 < a1)) (bO (i_reducer_z v105 v106 v107 v30 v108) fun x60 => br x60 (bO (i_reducer_emit v105 v106 v107 9 v108 a4) fun x61 => i_reducer_qubit_j28 v108 (i_reducer_qubit_l5 a1 a4 v30 n5) x61.1 x61.2.1 x61.2.2) (i_reducer_qubit_j28 v108 (i_reducer_qubit_l5 a1 a4 v30 n5) v105 v106 v107)) (i_reducer_qubit_j25 a4 v30 v105 v106 v107)
def i_reducer_qubit_j18 (a1 : Int) (a4 : Int) (v30 : Int) (v89 : Int) (v90 : LQ) (v91 : LQ) : Option (Int × LQ × LQ) :=
  i_reducer_qubit_l5 a1 a4 v30 FU v89 v90 v91 (IntKind.wrap .i64 (a4 + 1))
def i_reducer_qubit_l4 (a1 : Int) (a4 : Int) (v30 : Int) : Nat → Int → (LQ) → (LQ) → Int → Option (Int × LQ × LQ)
  | 0, _, _, _, _ => none
  | n4 + 1, v80, v81, v82, v83 =>
  br (decide (v83 < a1)) (bO (i_reducer_x v80 v81 v82 v30 v83) fun x48 => bO (br x48 (bO (i_reducer_z v80 v81 v82 v30 v83) fun x49 => some x49) (some false)) fun x50 => i_reducer_qubit_j24 v30 v80 v81 v82 v83 (i_reducer_qubit_l4 a1 a4 v30 n4) x50) (i_reducer_qubit_j18 a1 a4 v30 v80 v81 v82)
def i_reducer_qubit_j14 (a1 : Int) (a4 : Int) (v30 : Int) (v62 : Int) (v63 : LQ) (v64 : LQ) : Option (Int × LQ × LQ) :=
  i_reducer_qubit_l4 a1 a4 v30 FU v62 v63 v64 (IntKind.wrap .i64 (a4 + 1))
def i_reducer_qubit_l3 (a1 : Int) (a4 : Int) (v30 : Int) : Nat → Int → (LQ) → (LQ) → Int → Option (Int × LQ × LQ)
  | 0, _, _, _, _ => none
  | n3 + 1, v54, v55, v56, v57 =>
  br (decide (v57 < a1)) (bO (i_reducer_x v54 v55 v56 a4 v57) fun x32 => br x32 (bO (i_reducer_emit v54 v55 v56 9 a4 v57) fun x33 => i_reducer_qubit_j17 v57 (i_reducer_qubit_l3 a1 a4 v30 n3) x33.1 x33.2.1 x33.2.2) (i_reducer_qubit_j17 v57 (i_reducer_qubit_l3 a1 a4 v30 n3) v54 v55 v56)) (i_reducer_qubit_j14 a1 a4 v30 v54 v55 v56)
def i_reducer_qubit_j13 (a1 : Int) (a4 : Int) (v30 : Int) (v38 : Int) (v39 : LQ) (v40 : LQ) : Option (Int × LQ × LQ) :=
  i_reducer_qubit_l3 a1 a4 v30 FU v38 v39 v40 (IntKind.wrap .i64 (a4 + 1))
def i_reducer_qubit_j9 (a1 : Int) (a4 : Int) (v27 : Int) (v28 : LQ) (v29 : LQ) (v30 : Int) (v36 : Int) : Option (Int × LQ × LQ) :=
  br (v36 != a4) (bO (i_reducer_emit v27 v28 v29 11 a4 v36) fun x27 => i_reducer_qubit_j13 a1 a4 v30 x27.1 x27.2.1 x27.2.2) (i_reducer_qubit_j13 a1 a4 v30 v27 v28 v29)
def i_reducer_qubit_j12 (a1 : Int) (a4 : Int) (v27 : Int) (v28 : LQ) (v29 : LQ) (v30 : Int) (v34 : Int) (kl2 : Int → Option (Int × LQ × LQ)) (v35 : Bool) : Option (Int × LQ × LQ) :=
  br v35 (kl2 (IntKind.wrap .i64 (v34 + 1))) (i_reducer_qubit_j9 a1 a4 v27 v28 v29 v30 v34)
def i_reducer_qubit_l2 (a1 : Int) (a4 : Int) (v27 : Int) (v28 : LQ) (v29 : LQ) (v30 : Int) : Nat → Int → Option (Int × LQ × LQ)
  | 0, _ => none
  | n2 + 1, v34 =>
  bO (br (decide (v34 < (IntKind.wrap .i64 (a1 - 1)))) (bO (i_reducer_x v27 v28 v29 a4 v34) fun x24 => some (!x24)) (some false)) fun x25 => i_reducer_qubit_j12 a1 a4 v27 v28 v29 v30 v34 (i_reducer_qubit_l2 a1 a4 v27 v28 v29 v30 n2) x25
def i_reducer_qubit_j2 (a1 : Int) (a4 : Int) (v27 : Int) (v28 : LQ) (v29 : LQ) (v30 : Int) : Option (Int × LQ × LQ) :=
  i_reducer_qubit_l2 a1 a4 v27 v28 v29 v30 FU a4
def i_reducer_qubit_l1 (a1 : Int) (a4 : Int) : Nat → Int → (LQ) → (LQ) → Int → Int → Option (Int × LQ × LQ)
  | 0, _, _, _, _, _ => none
  | n1 + 1, v17, v18, v19, v20, v21 =>
  br (decide (v21 < a1)) (bO (i_reducer_x v17 v18 v19 a4 v21) fun x13 => bO (br x13 (bO (i_reducer_z v17 v18 v19 a4 v21) fun x14 => some x14) (some false)) fun x15 => i_reducer_qubit_j8 a4 v17 v18 v19 v20 v21 (i_reducer_qubit_l1 a1 a4 n1) x15) (i_reducer_qubit_j2 a1 a4 v17 v18 v19 v20)
def i_reducer_qubit (a1 : Int) (a2 : LQ) (a3 : LQ) (a4 : Int) : Option (Int × LQ × LQ) :=
  i_reducer_qubit_l1 a1 a4 FU a1 a2 a3 (IntKind.wrap .i64 (a4 + a1)) a4
set_option maxHeartbeats 4000000 in
theorem i_reducer_qubit_ok {a1 : Int} {a2 : LQ} {a3 : LQ} {a4 : Int} {r : Int × LQ × LQ} (h : i_reducer_qubit a1 a2 a3 a4 = some r) :
    Spec Try.prog 80 [.ptr 0 0, .int .i64 a4] [.box 104 [.int .i64 a1, .sl (encL EIIII a2) a2.length, .own 1 a3.length], .row 49 4 (encL EIIII a3)] (.tup []) [.box 104 [.int .i64 r.1, .sl (encL EIIII r.2.1) r.2.1.length, .own 2 r.2.2.length], .gone, .row 49 4 (encL EIIII r.2.2)] := by
  unfold i_reducer_qubit at h
  refine spec_of Try.func80 rfl (by kernel_rfl) (by simp only [Try.ntmps80, List.length_cons, List.length_nil, Nat.reduceAdd, Nat.reduceLeDiff]) ?_
  intro C hN hρ
  rw [Try.ntmps80] at hN
  unfold st0
  simp only [tmps0, Nat.zero_add, Nat.reduceAdd]
  refine AW_endK (fun S => ∃ (v125 : Int) (v126 : LQ) (v127 : LQ), S = ⟨mkT [], mkR [(0, .box 104 [.int .i64 v125, .sl (encL EIIII v126) v126.length, .own 32 v127.length]), (1, .gone), (32, .row 49 4 (encL EIIII v127))], 64⟩ ∧ i_reducer_qubit_j1 v125 v126 v127 = some r) ?_ ?_
  · refine AW_rs (BR := BR) FM (by rw [hN]; kernel_rfl) (by kernel_rfl) ?_
    intro K hK
    simp only [EV, seval]
    refine hK _ _ _ ?_
    clear hK K
    refine AW_rs (BR := BR) FM (by rw [hN]; kernel_rfl) (by kernel_rfl) ?_
    intro K hK
    simp only [EV, seval]
    refine hK _ _ _ ?_
    clear hK K
    refine AW_cutK (fun S => ∃ (v27 : Int) (v28 : LQ) (v29 : LQ) (v30 : Int), S = ⟨mkT [(0, .ptr 0 0), (1, .int .i64 a4), (4, .int .i64 a1), (5, .int .i64 v30)], mkR [(0, .box 104 [.int .i64 v27, .sl (encL EIIII v28) v28.length, .own 32 v29.length]), (1, .gone), (32, .row 49 4 (encL EIIII v29))], 64⟩ ∧ i_reducer_qubit_j2 a1 a4 v27 v28 v29 v30 = some r) ?_ ?_
    · refine AW_rs (BR := BR) FM (by rw [hN]; kernel_rfl) (by kernel_rfl) ?_
      intro K hK
      simp only [EV, seval]
      refine hK _ _ _ ?_
      clear hK K
      refine AW_block ?_
      refine AW_loopF (fun n S => ∃ (v17 : Int) (v18 : LQ) (v19 : LQ) (v20 : Int) (v21 : Int), S = ⟨mkT [(0, .ptr 0 0), (1, .int .i64 a4), (4, .int .i64 a1), (5, .int .i64 v20), (6, .int .i64 v21)], mkR [(0, .box 104 [.int .i64 v17, .sl (encL EIIII v18) v18.length, .own 32 v19.length]), (1, .gone), (32, .row 49 4 (encL EIIII v19))], 64⟩ ∧ i_reducer_qubit_l1 a1 a4 n v17 v18 v19 v20 v21 = some r) FU ?_ ?_ ?_
      · refine cutL ⟨_, _, _, _, _, rfl, h⟩ (Le_can [(0, some 0), (1, some 1), (32, some 1)] [] hρ (by kernel_rfl) ?_ ?_)
        · simp only [AL, EV, seval]
        · simp only [AL, EV, seval]
      · rintro S ⟨_, _, _, _, _, _, h⟩; rw [i_reducer_qubit_l1] at h; cases h
      · rintro n1 S ⟨v17, v18, v19, v20, v21, rfl, h⟩
        rw [i_reducer_qubit_l1] at h
        refine AW_seq ?_
        refine AW_rs (BR := BR) FM (by rw [hN]; kernel_rfl) (by kernel_rfl) ?_
        intro K hK
        simp only [EV, seval]
        refine hK _ _ _ ?_
        clear hK K
        refine AW_condK (a := .bool (decide (v21 < a1))) (by simp only [EV, seval]) (brK h (fun hc9 h => ?_) (fun hc9 h => ?_))
        · refine AW_skip (show AW _ _ _ _ _ from ?_)
          refine AW_cutK (fun S => ∃ (v24 : Int) (v25 : LQ) (v26 : LQ), S = ⟨mkT [(0, .ptr 0 0), (1, .int .i64 a4), (4, .int .i64 a1), (5, .int .i64 v20), (6, .int .i64 v21)], mkR [(0, .box 104 [.int .i64 v24, .sl (encL EIIII v25) v25.length, .own 32 v26.length]), (1, .gone), (32, .row 49 4 (encL EIIII v26))], 64⟩ ∧ i_reducer_qubit_j7 v20 v21 (i_reducer_qubit_l1 a1 a4 n1) v24 v25 v26 = some r) ?_ ?_
          · refine AW_block ?_
            refine AW_block ?_
            refine AW_rsJ (BR := BR) (fun S => ∃ (v22 : Bool), S = ⟨mkT [(0, .ptr 0 0), (1, .int .i64 a4), (4, .int .i64 a1), (5, .int .i64 v20), (6, .int .i64 v21), (22, .bool v22)], mkR [(0, .box 104 [.int .i64 v17, .sl (encL EIIII v18) v18.length, .own 32 v19.length]), (1, .gone), (32, .row 49 4 (encL EIIII v19))], 64⟩ ∧ i_reducer_qubit_j8 a4 v17 v18 v19 v20 v21 (i_reducer_qubit_l1 a1 a4 n1) v22 = some r) FM (by rw [hN]; kernel_rfl) (by kernel_rfl) ?_ ?_
            · intro K hK
              obtain ⟨x13, h11, h⟩ := bO_inv h
              simp only [EV, seval]
              refine rR_p [0, 32] (i_reducer_x_ok h11) (by simp only [AL, EV, seval]) (by simp only [AL, EV, seval]) (by kernel_rfl) (by simp only [EV, solidO, List.mem_cons, List.not_mem_nil, or_false, forall_eq_or_imp, forall_eq, seval]) (le_d rfl) (le_d rfl) (no_j rfl) ?_
              obtain ⟨x15, hv3, h⟩ := bO_inv h
              rcases br_inv hv3 with ⟨hc10, hv3⟩ | ⟨hc10, hv3⟩
              · obtain ⟨x16, h13, hv3⟩ := bO_inv hv3
                simp only [EV, seval, hc10]
                refine rR_p [0, 32] (i_reducer_z_ok h13) (by simp only [AL, EV, seval, hc10]) (by simp only [AL, EV, seval, hc10]) (by kernel_rfl) (by simp only [EV, solidO, List.mem_cons, List.not_mem_nil, or_false, forall_eq_or_imp, forall_eq, seval]) (le_d rfl) (le_d rfl) (no_j rfl) ?_
                cases hv3
                simp only [EV, seval, hc10]
                refine hK _ _ _ (show cutK _ _ _ from cutL ⟨_, rfl, h⟩ (Le_can [(0, some 0), (1, some 1), (32, some 32)] [] hρ (by kernel_rfl) ?_ ?_))
                · simp only [AL, EV, seval, hc10]
                · simp only [AL, EV, seval, hc10]
              · cases hv3
                simp only [EV, seval, hc10]
                refine hK _ _ _ (show cutK _ _ _ from cutL ⟨_, rfl, h⟩ (Le_can [(0, some 0), (1, some 1), (32, some 32)] [] hρ (by kernel_rfl) ?_ ?_))
                · simp only [AL, EV, seval, hc10]
                · simp only [AL, EV, seval, hc10]
            · rintro S ⟨v22, rfl, h⟩
              unfold i_reducer_qubit_j8 at h
              refine AW_condK (a := .bool v22) (by simp only [EV, seval]) (brK h (fun hc11 h => ?_) (fun hc11 h => ?_))
              · refine AW_re (BR := BR) FM (by rw [hN]; kernel_rfl) (by kernel_rfl) ?_
                intro K hK
                obtain ⟨x17, h14, h⟩ := bO_inv h
                simp only [EV, seval]
                refine rR_p [0, 32] (i_reducer_emit_ok h14) (by simp only [AL, EV, seval]) (by simp only [AL, EV, seval]) (by kernel_rfl) (by simp only [EV, solidO, List.mem_cons, List.not_mem_nil, or_false, forall_eq_or_imp, forall_eq, seval]) (le_d rfl) (le_d rfl) (site_2 (by simp only [EV, seval])) ?_
                simp only [EV, seval]
                refine hK _ _ _ (show cutK _ _ _ from cutL ⟨_, _, _, rfl, h⟩ (Le_can [(0, some 0), (1, some 1), (32, some 97)] [96] hρ (by kernel_rfl) ?_ ?_))
                · simp only [AL, EV, seval]
                · simp only [AL, EV, seval]
              · refine AW_rs (BR := BR) FM (by rw [hN]; kernel_rfl) (by kernel_rfl) ?_
                intro K hK
                obtain ⟨x18, h15, h⟩ := bO_inv h
                simp only [EV, seval]
                refine rR_p [0, 32] (i_reducer_z_ok h15) (by simp only [AL, EV, seval]) (by simp only [AL, EV, seval]) (by kernel_rfl) (by simp only [EV, solidO, List.mem_cons, List.not_mem_nil, or_false, forall_eq_or_imp, forall_eq, seval]) (le_d rfl) (le_d rfl) (no_j rfl) ?_
                simp only [EV, seval]
                refine hK _ _ _ ?_
                clear hK K
                refine AW_condK (a := .bool x18) (by simp only [EV, seval]) (brK h (fun hc12 h => ?_) (fun hc12 h => ?_))
                · refine AW_re (BR := BR) FM (by rw [hN]; kernel_rfl) (by kernel_rfl) ?_
                  intro K hK
                  obtain ⟨x19, h16, h⟩ := bO_inv h
                  simp only [EV, seval]
                  refine rR_p [0, 32] (i_reducer_emit_ok h16) (by simp only [AL, EV, seval]) (by simp only [AL, EV, seval]) (by kernel_rfl) (by simp only [EV, solidO, List.mem_cons, List.not_mem_nil, or_false, forall_eq_or_imp, forall_eq, seval]) (le_d rfl) (le_d rfl) (site_2 (by simp only [EV, seval])) ?_
                  simp only [EV, seval]
                  refine hK _ _ _ (show cutK _ _ _ from cutL ⟨_, _, _, rfl, h⟩ (Le_can [(0, some 0), (1, some 1), (32, some 1121)] [1120] hρ (by kernel_rfl) ?_ ?_))
                  · simp only [AL, EV, seval]
                  · simp only [AL, EV, seval]
                · refine AW_skip (show cutK _ _ _ from cutL ⟨_, _, _, rfl, h⟩ (Le_can [(0, some 0), (1, some 1), (32, some 32)] [] hρ (by kernel_rfl) ?_ ?_))
                  · simp only [AL, EV, seval]
                  · simp only [AL, EV, seval]
          · rintro S ⟨v24, v25, v26, rfl, h⟩
            unfold i_reducer_qubit_j7 at h
            refine AW_re (BR := BR) FM (by rw [hN]; kernel_rfl) (by kernel_rfl) ?_
            intro K hK
            simp only [EV, seval]
            refine hK _ _ _ (show cutK _ _ _ from cutL ⟨_, _, _, _, _, rfl, h⟩ (Le_can [(0, some 0), (1, some 1), (32, some 32)] [] hρ (by kernel_rfl) ?_ ?_))
            · simp only [AL, EV, seval]
            · simp only [AL, EV, seval]
        · refine AW_exit (show cutK _ _ _ from cutL ⟨_, _, _, _, rfl, h⟩ (Le_can [(0, some 0), (1, some 1), (32, some 32)] [] hρ (by kernel_rfl) ?_ ?_))
          · simp only [AL, EV, seval]
          · simp only [AL, EV, seval]
    · rintro S ⟨v27, v28, v29, v30, rfl, h⟩
      unfold i_reducer_qubit_j2 at h
      refine AW_rs (BR := BR) FM (by rw [hN]; kernel_rfl) (by kernel_rfl) ?_
      intro K hK
      simp only [EV, seval]
      refine hK _ _ _ ?_
      clear hK K
      refine AW_cutK (fun S => ∃ (v36 : Int), S = ⟨mkT [(0, .ptr 0 0), (1, .int .i64 a4), (4, .int .i64 a1), (5, .int .i64 v30), (7, .int .i64 v36)], mkR [(0, .box 104 [.int .i64 v27, .sl (encL EIIII v28) v28.length, .own 32 v29.length]), (1, .gone), (32, .row 49 4 (encL EIIII v29))], 64⟩ ∧ i_reducer_qubit_j9 a1 a4 v27 v28 v29 v30 v36 = some r) ?_ ?_
      · refine AW_block ?_
        refine AW_loopF (fun n S => ∃ (v34 : Int), S = ⟨mkT [(0, .ptr 0 0), (1, .int .i64 a4), (4, .int .i64 a1), (5, .int .i64 v30), (7, .int .i64 v34)], mkR [(0, .box 104 [.int .i64 v27, .sl (encL EIIII v28) v28.length, .own 32 v29.length]), (1, .gone), (32, .row 49 4 (encL EIIII v29))], 64⟩ ∧ i_reducer_qubit_l2 a1 a4 v27 v28 v29 v30 n v34 = some r) FU ?_ ?_ ?_
        · refine cutL ⟨_, rfl, h⟩ (Le_can [(0, some 0), (1, some 1), (32, some 32)] [] hρ (by kernel_rfl) ?_ ?_)
          · simp only [AL, EV, seval]
          · simp only [AL, EV, seval]
        · rintro S ⟨_, _, h⟩; rw [i_reducer_qubit_l2] at h; cases h
        · rintro n2 S ⟨v34, rfl, h⟩
          rw [i_reducer_qubit_l2] at h
          refine AW_seq ?_
          refine AW_rsJ (BR := BR) (fun S => ∃ (v35 : Bool), S = ⟨mkT [(0, .ptr 0 0), (1, .int .i64 a4), (4, .int .i64 a1), (5, .int .i64 v30), (7, .int .i64 v34), (55, .bool v35)], mkR [(0, .box 104 [.int .i64 v27, .sl (encL EIIII v28) v28.length, .own 32 v29.length]), (1, .gone), (32, .row 49 4 (encL EIIII v29))], 64⟩ ∧ i_reducer_qubit_j12 a1 a4 v27 v28 v29 v30 v34 (i_reducer_qubit_l2 a1 a4 v27 v28 v29 v30 n2) v35 = some r) FM (by rw [hN]; kernel_rfl) (by kernel_rfl) ?_ ?_
          · intro K hK
            obtain ⟨x25, hv6, h⟩ := bO_inv h
            rcases br_inv hv6 with ⟨hc17, hv6⟩ | ⟨hc17, hv6⟩
            · obtain ⟨x26, h20, hv6⟩ := bO_inv hv6
              simp only [EV, seval, hc17]
              refine rR_p [0, 32] (i_reducer_x_ok h20) (by simp only [AL, EV, seval, hc17]) (by simp only [AL, EV, seval, hc17]) (by kernel_rfl) (by simp only [EV, solidO, List.mem_cons, List.not_mem_nil, or_false, forall_eq_or_imp, forall_eq, seval]) (le_d rfl) (le_d rfl) (no_j rfl) ?_
              cases hv6
              simp only [EV, seval, hc17]
              refine hK _ _ _ (show cutK _ _ _ from cutL ⟨_, rfl, h⟩ (Le_can [(0, some 0), (1, some 1), (32, some 32)] [] hρ (by kernel_rfl) ?_ ?_))
              · simp only [AL, EV, seval, hc17]
              · simp only [AL, EV, seval, hc17]
            · cases hv6
              simp only [EV, seval, hc17]
              refine hK _ _ _ (show cutK _ _ _ from cutL ⟨_, rfl, h⟩ (Le_can [(0, some 0), (1, some 1), (32, some 32)] [] hρ (by kernel_rfl) ?_ ?_))
              · simp only [AL, EV, seval, hc17]
              · simp only [AL, EV, seval, hc17]
          · rintro S ⟨v35, rfl, h⟩
            unfold i_reducer_qubit_j12 at h
            refine AW_condK (a := .bool v35) (by simp only [EV, seval]) (brK h (fun hc18 h => ?_) (fun hc18 h => ?_))
            · refine AW_skip (show AW _ _ _ _ _ from ?_)
              refine AW_block ?_
              refine AW_re (BR := BR) FM (by rw [hN]; kernel_rfl) (by kernel_rfl) ?_
              intro K hK
              simp only [EV, seval]
              refine hK _ _ _ (show cutK _ _ _ from cutL ⟨_, rfl, h⟩ (Le_can [(0, some 0), (1, some 1), (32, some 32)] [] hρ (by kernel_rfl) ?_ ?_))
              · simp only [AL, EV, seval]
              · simp only [AL, EV, seval]
            · refine AW_exit (show cutK _ _ _ from cutL ⟨_, rfl, h⟩ (Le_can [(0, some 0), (1, some 1), (32, some 32)] [] hρ (by kernel_rfl) ?_ ?_))
              · simp only [AL, EV, seval]
              · simp only [AL, EV, seval]
      · rintro S ⟨v36, rfl, h⟩
        unfold i_reducer_qubit_j9 at h
        refine AW_cutK (fun S => ∃ (v38 : Int) (v39 : LQ) (v40 : LQ), S = ⟨mkT [(0, .ptr 0 0), (1, .int .i64 a4), (4, .int .i64 a1), (5, .int .i64 v30)], mkR [(0, .box 104 [.int .i64 v38, .sl (encL EIIII v39) v39.length, .own 32 v40.length]), (1, .gone), (32, .row 49 4 (encL EIIII v40))], 64⟩ ∧ i_reducer_qubit_j13 a1 a4 v30 v38 v39 v40 = some r) ?_ ?_
        · refine AW_rs (BR := BR) FM (by rw [hN]; kernel_rfl) (by kernel_rfl) ?_
          intro K hK
          simp only [EV, seval]
          refine hK _ _ _ ?_
          clear hK K
          refine AW_condK (a := .bool (v36 != a4)) (by simp only [EV, seval]) (brK h (fun hc19 h => ?_) (fun hc19 h => ?_))
          · refine AW_re (BR := BR) FM (by rw [hN]; kernel_rfl) (by kernel_rfl) ?_
            intro K hK
            obtain ⟨x27, h21, h⟩ := bO_inv h
            simp only [EV, seval]
            refine rR_p [0, 32] (i_reducer_emit_ok h21) (by simp only [AL, EV, seval]) (by simp only [AL, EV, seval]) (by kernel_rfl) (by simp only [EV, solidO, List.mem_cons, List.not_mem_nil, or_false, forall_eq_or_imp, forall_eq, seval]) (le_d rfl) (le_d rfl) (site_2 (by simp only [EV, seval])) ?_
            simp only [EV, seval]
            refine hK _ _ _ (show cutK _ _ _ from cutL ⟨_, _, _, rfl, h⟩ (Le_can [(0, some 0), (1, some 1), (32, some 1137)] [1136] hρ (by kernel_rfl) ?_ ?_))
            · simp only [AL, EV, seval]
            · simp only [AL, EV, seval]
          · refine AW_skip (show cutK _ _ _ from cutL ⟨_, _, _, rfl, h⟩ (Le_can [(0, some 0), (1, some 1), (32, some 32)] [] hρ (by kernel_rfl) ?_ ?_))
            · simp only [AL, EV, seval]
            · simp only [AL, EV, seval]
        · rintro S ⟨v38, v39, v40, rfl, h⟩
          unfold i_reducer_qubit_j13 at h
          refine AW_cutK (fun S => ∃ (v62 : Int) (v63 : LQ) (v64 : LQ), S = ⟨mkT [(0, .ptr 0 0), (1, .int .i64 a4), (4, .int .i64 a1), (5, .int .i64 v30)], mkR [(0, .box 104 [.int .i64 v62, .sl (encL EIIII v63) v63.length, .own 32 v64.length]), (1, .gone), (32, .row 49 4 (encL EIIII v64))], 64⟩ ∧ i_reducer_qubit_j14 a1 a4 v30 v62 v63 v64 = some r) ?_ ?_
          · refine AW_rs (BR := BR) FM (by rw [hN]; kernel_rfl) (by kernel_rfl) ?_
            intro K hK
            simp only [EV, seval]
            refine hK _ _ _ ?_
            clear hK K
            refine AW_block ?_
            refine AW_loopF (fun n S => ∃ (v54 : Int) (v55 : LQ) (v56 : LQ) (v57 : Int), S = ⟨mkT [(0, .ptr 0 0), (1, .int .i64 a4), (4, .int .i64 a1), (5, .int .i64 v30), (7, .int .i64 v57)], mkR [(0, .box 104 [.int .i64 v54, .sl (encL EIIII v55) v55.length, .own 32 v56.length]), (1, .gone), (32, .row 49 4 (encL EIIII v56))], 64⟩ ∧ i_reducer_qubit_l3 a1 a4 v30 n v54 v55 v56 v57 = some r) FU ?_ ?_ ?_
            · refine cutL ⟨_, _, _, _, rfl, h⟩ (Le_can [(0, some 0), (1, some 1), (32, some 32)] [] hρ (by kernel_rfl) ?_ ?_)
              · simp only [AL, EV, seval]
              · simp only [AL, EV, seval]
            · rintro S ⟨_, _, _, _, _, h⟩; rw [i_reducer_qubit_l3] at h; cases h
            · rintro n3 S ⟨v54, v55, v56, v57, rfl, h⟩
              rw [i_reducer_qubit_l3] at h
              refine AW_seq ?_
              refine AW_rs (BR := BR) FM (by rw [hN]; kernel_rfl) (by kernel_rfl) ?_
              intro K hK
              simp only [EV, seval]
              refine hK _ _ _ ?_
              clear hK K
              refine AW_condK (a := .bool (decide (v57 < a1))) (by simp only [EV, seval]) (brK h (fun hc24 h => ?_) (fun hc24 h => ?_))
              · refine AW_skip (show AW _ _ _ _ _ from ?_)
                refine AW_cutK (fun S => ∃ (v59 : Int) (v60 : LQ) (v61 : LQ), S = ⟨mkT [(0, .ptr 0 0), (1, .int .i64 a4), (4, .int .i64 a1), (5, .int .i64 v30), (7, .int .i64 v57)], mkR [(0, .box 104 [.int .i64 v59, .sl (encL EIIII v60) v60.length, .own 32 v61.length]), (1, .gone), (32, .row 49 4 (encL EIIII v61))], 64⟩ ∧ i_reducer_qubit_j17 v57 (i_reducer_qubit_l3 a1 a4 v30 n3) v59 v60 v61 = some r) ?_ ?_
                · refine AW_block ?_
                  refine AW_rs (BR := BR) FM (by rw [hN]; kernel_rfl) (by kernel_rfl) ?_
                  intro K hK
                  obtain ⟨x32, h26, h⟩ := bO_inv h
                  simp only [EV, seval]
                  refine rR_p [0, 32] (i_reducer_x_ok h26) (by simp only [AL, EV, seval]) (by simp only [AL, EV, seval]) (by kernel_rfl) (by simp only [EV, solidO, List.mem_cons, List.not_mem_nil, or_false, forall_eq_or_imp, forall_eq, seval]) (le_d rfl) (le_d rfl) (no_j rfl) ?_
                  simp only [EV, seval]
                  refine hK _ _ _ ?_
                  clear hK K
                  refine AW_condK (a := .bool x32) (by simp only [EV, seval]) (brK h (fun hc25 h => ?_) (fun hc25 h => ?_))
                  · refine AW_re (BR := BR) FM (by rw [hN]; kernel_rfl) (by kernel_rfl) ?_
                    intro K hK
                    obtain ⟨x33, h27, h⟩ := bO_inv h
                    simp only [EV, seval]
                    refine rR_p [0, 32] (i_reducer_emit_ok h27) (by simp only [AL, EV, seval]) (by simp only [AL, EV, seval]) (by kernel_rfl) (by simp only [EV, solidO, List.mem_cons, List.not_mem_nil, or_false, forall_eq_or_imp, forall_eq, seval]) (le_d rfl) (le_d rfl) (site_2 (by simp only [EV, seval])) ?_
                    simp only [EV, seval]
                    refine hK _ _ _ (show cutK _ _ _ from cutL ⟨_, _, _, rfl, h⟩ (Le_can [(0, some 0), (1, some 1), (32, some 2161)] [2160] hρ (by kernel_rfl) ?_ ?_))
                    · simp only [AL, EV, seval]
                    · simp only [AL, EV, seval]
                  · refine AW_skip (show cutK _ _ _ from cutL ⟨_, _, _, rfl, h⟩ (Le_can [(0, some 0), (1, some 1), (32, some 32)] [] hρ (by kernel_rfl) ?_ ?_))
                    · simp only [AL, EV, seval]
                    · simp only [AL, EV, seval]
                · rintro S ⟨v59, v60, v61, rfl, h⟩
                  unfold i_reducer_qubit_j17 at h
                  refine AW_re (BR := BR) FM (by rw [hN]; kernel_rfl) (by kernel_rfl) ?_
                  intro K hK
                  simp only [EV, seval]
                  refine hK _ _ _ (show cutK _ _ _ from cutL ⟨_, _, _, _, rfl, h⟩ (Le_can [(0, some 0), (1, some 1), (32, some 32)] [] hρ (by kernel_rfl) ?_ ?_))
                  · simp only [AL, EV, seval]
                  · simp only [AL, EV, seval]
              · refine AW_exit (show cutK _ _ _ from cutL ⟨_, _, _, rfl, h⟩ (Le_can [(0, some 0), (1, some 1), (32, some 32)] [] hρ (by kernel_rfl) ?_ ?_))
                · simp only [AL, EV, seval]
                · simp only [AL, EV, seval]
          · rintro S ⟨v62, v63, v64, rfl, h⟩
            unfold i_reducer_qubit_j14 at h
            refine AW_cutK (fun S => ∃ (v89 : Int) (v90 : LQ) (v91 : LQ), S = ⟨mkT [(0, .ptr 0 0), (1, .int .i64 a4), (4, .int .i64 a1), (5, .int .i64 v30)], mkR [(0, .box 104 [.int .i64 v89, .sl (encL EIIII v90) v90.length, .own 32 v91.length]), (1, .gone), (32, .row 49 4 (encL EIIII v91))], 64⟩ ∧ i_reducer_qubit_j18 a1 a4 v30 v89 v90 v91 = some r) ?_ ?_
            · refine AW_rs (BR := BR) FM (by rw [hN]; kernel_rfl) (by kernel_rfl) ?_
              intro K hK
              simp only [EV, seval]
              refine hK _ _ _ ?_
              clear hK K
              refine AW_block ?_
              refine AW_loopF (fun n S => ∃ (v80 : Int) (v81 : LQ) (v82 : LQ) (v83 : Int), S = ⟨mkT [(0, .ptr 0 0), (1, .int .i64 a4), (4, .int .i64 a1), (5, .int .i64 v30), (7, .int .i64 v83)], mkR [(0, .box 104 [.int .i64 v80, .sl (encL EIIII v81) v81.length, .own 32 v82.length]), (1, .gone), (32, .row 49 4 (encL EIIII v82))], 64⟩ ∧ i_reducer_qubit_l4 a1 a4 v30 n v80 v81 v82 v83 = some r) FU ?_ ?_ ?_
              · refine cutL ⟨_, _, _, _, rfl, h⟩ (Le_can [(0, some 0), (1, some 1), (32, some 32)] [] hρ (by kernel_rfl) ?_ ?_)
                · simp only [AL, EV, seval]
                · simp only [AL, EV, seval]
              · rintro S ⟨_, _, _, _, _, h⟩; rw [i_reducer_qubit_l4] at h; cases h
              · rintro n4 S ⟨v80, v81, v82, v83, rfl, h⟩
                rw [i_reducer_qubit_l4] at h
                refine AW_seq ?_
                refine AW_rs (BR := BR) FM (by rw [hN]; kernel_rfl) (by kernel_rfl) ?_
                intro K hK
                simp only [EV, seval]
                refine hK _ _ _ ?_
                clear hK K
                refine AW_condK (a := .bool (decide (v83 < a1))) (by simp only [EV, seval]) (brK h (fun hc34 h => ?_) (fun hc34 h => ?_))
                · refine AW_skip (show AW _ _ _ _ _ from ?_)
                  refine AW_cutK (fun S => ∃ (v86 : Int) (v87 : LQ) (v88 : LQ), S = ⟨mkT [(0, .ptr 0 0), (1, .int .i64 a4), (4, .int .i64 a1), (5, .int .i64 v30), (7, .int .i64 v83)], mkR [(0, .box 104 [.int .i64 v86, .sl (encL EIIII v87) v87.length, .own 32 v88.length]), (1, .gone), (32, .row 49 4 (encL EIIII v88))], 64⟩ ∧ i_reducer_qubit_j23 v83 (i_reducer_qubit_l4 a1 a4 v30 n4) v86 v87 v88 = some r) ?_ ?_
                  · refine AW_block ?_
                    refine AW_block ?_
                    refine AW_rsJ (BR := BR) (fun S => ∃ (v84 : Bool), S = ⟨mkT [(0, .ptr 0 0), (1, .int .i64 a4), (4, .int .i64 a1), (5, .int .i64 v30), (7, .int .i64 v83), (87, .bool v84)], mkR [(0, .box 104 [.int .i64 v80, .sl (encL EIIII v81) v81.length, .own 32 v82.length]), (1, .gone), (32, .row 49 4 (encL EIIII v82))], 64⟩ ∧ i_reducer_qubit_j24 v30 v80 v81 v82 v83 (i_reducer_qubit_l4 a1 a4 v30 n4) v84 = some r) FM (by rw [hN]; kernel_rfl) (by kernel_rfl) ?_ ?_
                    · intro K hK
                      obtain ⟨x48, h40, h⟩ := bO_inv h
                      simp only [EV, seval]
                      refine rR_p [0, 32] (i_reducer_x_ok h40) (by simp only [AL, EV, seval]) (by simp only [AL, EV, seval]) (by kernel_rfl) (by simp only [EV, solidO, List.mem_cons, List.not_mem_nil, or_false, forall_eq_or_imp, forall_eq, seval]) (le_d rfl) (le_d rfl) (no_j rfl) ?_
                      obtain ⟨x50, hv9, h⟩ := bO_inv h
                      rcases br_inv hv9 with ⟨hc35, hv9⟩ | ⟨hc35, hv9⟩
                      · obtain ⟨x51, h42, hv9⟩ := bO_inv hv9
                        simp only [EV, seval, hc35]
                        refine rR_p [0, 32] (i_reducer_z_ok h42) (by simp only [AL, EV, seval, hc35]) (by simp only [AL, EV, seval, hc35]) (by kernel_rfl) (by simp only [EV, solidO, List.mem_cons, List.not_mem_nil, or_false, forall_eq_or_imp, forall_eq, seval]) (le_d rfl) (le_d rfl) (no_j rfl) ?_
                        cases hv9
                        simp only [EV, seval, hc35]
                        refine hK _ _ _ (show cutK _ _ _ from cutL ⟨_, rfl, h⟩ (Le_can [(0, some 0), (1, some 1), (32, some 32)] [] hρ (by kernel_rfl) ?_ ?_))
                        · simp only [AL, EV, seval, hc35]
                        · simp only [AL, EV, seval, hc35]
                      · cases hv9
                        simp only [EV, seval, hc35]
                        refine hK _ _ _ (show cutK _ _ _ from cutL ⟨_, rfl, h⟩ (Le_can [(0, some 0), (1, some 1), (32, some 32)] [] hρ (by kernel_rfl) ?_ ?_))
                        · simp only [AL, EV, seval, hc35]
                        · simp only [AL, EV, seval, hc35]
                    · rintro S ⟨v84, rfl, h⟩
                      unfold i_reducer_qubit_j24 at h
                      refine AW_condK (a := .bool v84) (by simp only [EV, seval]) (brK h (fun hc36 h => ?_) (fun hc36 h => ?_))
                      · refine AW_rs (BR := BR) FM (by rw [hN]; kernel_rfl) (by kernel_rfl) ?_
                        intro K hK
                        obtain ⟨x52, h43, h⟩ := bO_inv h
                        simp only [EV, seval]
                        refine rR_p [0, 32] (i_reducer_emit_ok h43) (by simp only [AL, EV, seval]) (by simp only [AL, EV, seval]) (by kernel_rfl) (by simp only [EV, solidO, List.mem_cons, List.not_mem_nil, or_false, forall_eq_or_imp, forall_eq, seval]) (le_d rfl) (le_d rfl) (site_2 (by simp only [EV, seval])) ?_
                        simp only [EV, seval]
                        refine hK _ _ _ ?_
                        clear hK K
                        refine AW_le (Le_can (lt := [(0, .ptr 0 0), (1, .int .i64 a4), (4, .int .i64 a1), (5, .int .i64 v30), (7, .int .i64 v83)]) (lr := [(0, .box 104 [.int .i64 x52.1, .sl (encL EIIII x52.2.1) x52.2.1.length, .own 97 x52.2.2.length]), (1, .gone), (97, .row 49 4 (encL EIIII x52.2.2))]) (b' := 1104) [(0, some 0), (1, some 1), (97, some 97)] [96] hρ (by kernel_rfl) ?_ ?_) ?_
                        · simp only [AL, EV, seval]
                        · simp only [AL, EV, seval]
                        refine AW_re (BR := BR) FM (by rw [hN]; kernel_rfl) (by kernel_rfl) ?_
                        intro K hK
                        obtain ⟨x53, h44, h⟩ := bO_inv h
                        simp only [EV, seval]
                        refine rR_p [0, 97] (i_reducer_emit_ok h44) (by simp only [AL, EV, seval]) (by simp only [AL, EV, seval]) (by kernel_rfl) (by simp only [EV, solidO, List.mem_cons, List.not_mem_nil, or_false, forall_eq_or_imp, forall_eq, seval]) (le_d rfl) (le_d rfl) (site_2 (by simp only [EV, seval])) ?_
                        simp only [EV, seval]
                        refine hK _ _ _ (show cutK _ _ _ from cutL ⟨_, _, _, rfl, h⟩ (Le_can [(0, some 0), (1, some 1), (32, some 1137)] [1136] hρ (by kernel_rfl) ?_ ?_))
                        · simp only [AL, EV, seval]
                        · simp only [AL, EV, seval]
                      · refine AW_rs (BR := BR) FM (by rw [hN]; kernel_rfl) (by kernel_rfl) ?_
                        intro K hK
                        obtain ⟨x54, h45, h⟩ := bO_inv h
                        simp only [EV, seval]
                        refine rR_p [0, 32] (i_reducer_x_ok h45) (by simp only [AL, EV, seval]) (by simp only [AL, EV, seval]) (by kernel_rfl) (by simp only [EV, solidO, List.mem_cons, List.not_mem_nil, or_false, forall_eq_or_imp, forall_eq, seval]) (le_d rfl) (le_d rfl) (no_j rfl) ?_
                        simp only [EV, seval]
                        refine hK _ _ _ ?_
                        clear hK K
                        refine AW_condK (a := .bool x54) (by simp only [EV, seval]) (brK h (fun hc37 h => ?_) (fun hc37 h => ?_))
                        · refine AW_re (BR := BR) FM (by rw [hN]; kernel_rfl) (by kernel_rfl) ?_
                          intro K hK
                          obtain ⟨x55, h46, h⟩ := bO_inv h
                          simp only [EV, seval]
                          refine rR_p [0, 32] (i_reducer_emit_ok h46) (by simp only [AL, EV, seval]) (by simp only [AL, EV, seval]) (by kernel_rfl) (by simp only [EV, solidO, List.mem_cons, List.not_mem_nil, or_false, forall_eq_or_imp, forall_eq, seval]) (le_d rfl) (le_d rfl) (site_2 (by simp only [EV, seval])) ?_
                          simp only [EV, seval]
                          refine hK _ _ _ (show cutK _ _ _ from cutL ⟨_, _, _, rfl, h⟩ (Le_can [(0, some 0), (1, some 1), (32, some 1121)] [1120] hρ (by kernel_rfl) ?_ ?_))
                          · simp only [AL, EV, seval]
                          · simp only [AL, EV, seval]
                        · refine AW_skip (show cutK _ _ _ from cutL ⟨_, _, _, rfl, h⟩ (Le_can [(0, some 0), (1, some 1), (32, some 32)] [] hρ (by kernel_rfl) ?_ ?_))
                          · simp only [AL, EV, seval]
                          · simp only [AL, EV, seval]
                  · rintro S ⟨v86, v87, v88, rfl, h⟩
                    unfold i_reducer_qubit_j23 at h
                    refine AW_re (BR := BR) FM (by rw [hN]; kernel_rfl) (by kernel_rfl) ?_
                    intro K hK
                    simp only [EV, seval]
                    refine hK _ _ _ (show cutK _ _ _ from cutL ⟨_, _, _, _, rfl, h⟩ (Le_can [(0, some 0), (1, some 1), (32, some 32)] [] hρ (by kernel_rfl) ?_ ?_))
                    · simp only [AL, EV, seval]
                    · simp only [AL, EV, seval]
                · refine AW_exit (show cutK _ _ _ from cutL ⟨_, _, _, rfl, h⟩ (Le_can [(0, some 0), (1, some 1), (32, some 32)] [] hρ (by kernel_rfl) ?_ ?_))
                  · simp only [AL, EV, seval]
                  · simp only [AL, EV, seval]
            · rintro S ⟨v89, v90, v91, rfl, h⟩
              unfold i_reducer_qubit_j18 at h
              refine AW_cutK (fun S => ∃ (v113 : Int) (v114 : LQ) (v115 : LQ), S = ⟨mkT [(0, .ptr 0 0), (1, .int .i64 a4), (5, .int .i64 v30)], mkR [(0, .box 104 [.int .i64 v113, .sl (encL EIIII v114) v114.length, .own 32 v115.length]), (1, .gone), (32, .row 49 4 (encL EIIII v115))], 64⟩ ∧ i_reducer_qubit_j25 a4 v30 v113 v114 v115 = some r) ?_ ?_
              · refine AW_rs (BR := BR) FM (by rw [hN]; kernel_rfl) (by kernel_rfl) ?_
                intro K hK
                simp only [EV, seval]
                refine hK _ _ _ ?_
                clear hK K
                refine AW_block ?_
                refine AW_loopF (fun n S => ∃ (v105 : Int) (v106 : LQ) (v107 : LQ) (v108 : Int), S = ⟨mkT [(0, .ptr 0 0), (1, .int .i64 a4), (4, .int .i64 a1), (5, .int .i64 v30), (7, .int .i64 v108)], mkR [(0, .box 104 [.int .i64 v105, .sl (encL EIIII v106) v106.length, .own 32 v107.length]), (1, .gone), (32, .row 49 4 (encL EIIII v107))], 64⟩ ∧ i_reducer_qubit_l5 a1 a4 v30 n v105 v106 v107 v108 = some r) FU ?_ ?_ ?_
                · refine cutL ⟨_, _, _, _, rfl, h⟩ (Le_can [(0, some 0), (1, some 1), (32, some 32)] [] hρ (by kernel_rfl) ?_ ?_)
                  · simp only [AL, EV, seval]
                  · simp only [AL, EV, seval]
                · rintro S ⟨_, _, _, _, _, h⟩; rw [i_reducer_qubit_l5] at h; cases h
                · rintro n5 S ⟨v105, v106, v107, v108, rfl, h⟩
                  rw [i_reducer_qubit_l5] at h
                  refine AW_seq ?_
                  refine AW_rs (BR := BR) FM (by rw [hN]; kernel_rfl) (by kernel_rfl) ?_
                  intro K hK
                  simp only [EV, seval]
                  refine hK _ _ _ ?_
                  clear hK K
                  refine AW_condK (a := .bool (decide (v108 < a1))) (by simp only [EV, seval]) (brK h (fun hc42 h => ?_) (fun hc42 h => ?_))
                  · refine AW_skip (show AW _ _ _ _ _ from ?_)
                    refine AW_cutK (fun S => ∃ (v110 : Int) (v111 : LQ) (v112 : LQ), S = ⟨mkT [(0, .ptr 0 0), (1, .int .i64 a4), (4, .int .i64 a1), (5, .int .i64 v30), (7, .int .i64 v108)], mkR [(0, .box 104 [.int .i64 v110, .sl (encL EIIII v111) v111.length, .own 32 v112.length]), (1, .gone), (32, .row 49 4 (encL EIIII v112))], 64⟩ ∧ i_reducer_qubit_j28 v108 (i_reducer_qubit_l5 a1 a4 v30 n5) v110 v111 v112 = some r) ?_ ?_
                    · refine AW_block ?_
                      refine AW_rs (BR := BR) FM (by rw [hN]; kernel_rfl) (by kernel_rfl) ?_
                      intro K hK
                      obtain ⟨x60, h51, h⟩ := bO_inv h
                      simp only [EV, seval]
                      refine rR_p [0, 32] (i_reducer_z_ok h51) (by simp only [AL, EV, seval]) (by simp only [AL, EV, seval]) (by kernel_rfl) (by simp only [EV, solidO, List.mem_cons, List.not_mem_nil, or_false, forall_eq_or_imp, forall_eq, seval]) (le_d rfl) (le_d rfl) (no_j rfl) ?_
                      simp only [EV, seval]
                      refine hK _ _ _ ?_
                      clear hK K
                      refine AW_condK (a := .bool x60) (by simp only [EV, seval]) (brK h (fun hc43 h => ?_) (fun hc43 h => ?_))
                      · refine AW_re (BR := BR) FM (by rw [hN]; kernel_rfl) (by kernel_rfl) ?_
                        intro K hK
                        obtain ⟨x61, h52, h⟩ := bO_inv h
                        simp only [EV, seval]
                        refine rR_p [0, 32] (i_reducer_emit_ok h52) (by simp only [AL, EV, seval]) (by simp only [AL, EV, seval]) (by kernel_rfl) (by simp only [EV, solidO, List.mem_cons, List.not_mem_nil, or_false, forall_eq_or_imp, forall_eq, seval]) (le_d rfl) (le_d rfl) (site_2 (by simp only [EV, seval])) ?_
                        simp only [EV, seval]
                        refine hK _ _ _ (show cutK _ _ _ from cutL ⟨_, _, _, rfl, h⟩ (Le_can [(0, some 0), (1, some 1), (32, some 2161)] [2160] hρ (by kernel_rfl) ?_ ?_))
                        · simp only [AL, EV, seval]
                        · simp only [AL, EV, seval]
                      · refine AW_skip (show cutK _ _ _ from cutL ⟨_, _, _, rfl, h⟩ (Le_can [(0, some 0), (1, some 1), (32, some 32)] [] hρ (by kernel_rfl) ?_ ?_))
                        · simp only [AL, EV, seval]
                        · simp only [AL, EV, seval]
                    · rintro S ⟨v110, v111, v112, rfl, h⟩
                      unfold i_reducer_qubit_j28 at h
                      refine AW_re (BR := BR) FM (by rw [hN]; kernel_rfl) (by kernel_rfl) ?_
                      intro K hK
                      simp only [EV, seval]
                      refine hK _ _ _ (show cutK _ _ _ from cutL ⟨_, _, _, _, rfl, h⟩ (Le_can [(0, some 0), (1, some 1), (32, some 32)] [] hρ (by kernel_rfl) ?_ ?_))
                      · simp only [AL, EV, seval]
                      · simp only [AL, EV, seval]
                  · refine AW_exit (show cutK _ _ _ from cutL ⟨_, _, _, rfl, h⟩ (Le_can [(0, some 0), (1, some 1), (32, some 32)] [] hρ (by kernel_rfl) ?_ ?_))
                    · simp only [AL, EV, seval]
                    · simp only [AL, EV, seval]
              · rintro S ⟨v113, v114, v115, rfl, h⟩
                unfold i_reducer_qubit_j25 at h
                refine AW_cutK (fun S => ∃ (v117 : Int) (v118 : LQ) (v119 : LQ), S = ⟨mkT [(0, .ptr 0 0), (1, .int .i64 a4), (5, .int .i64 v30)], mkR [(0, .box 104 [.int .i64 v117, .sl (encL EIIII v118) v118.length, .own 32 v119.length]), (1, .gone), (32, .row 49 4 (encL EIIII v119))], 64⟩ ∧ i_reducer_qubit_j29 a4 v30 v117 v118 v119 = some r) ?_ ?_
                · refine AW_rs (BR := BR) FM (by rw [hN]; kernel_rfl) (by kernel_rfl) ?_
                  intro K hK
                  obtain ⟨x62, h53, h⟩ := bO_inv h
                  simp only [EV, seval]
                  refine rR_p [0, 32] (i_reducer_x_ok h53) (by simp only [AL, EV, seval]) (by simp only [AL, EV, seval]) (by kernel_rfl) (by simp only [EV, solidO, List.mem_cons, List.not_mem_nil, or_false, forall_eq_or_imp, forall_eq, seval]) (le_d rfl) (le_d rfl) (no_j rfl) ?_
                  simp only [EV, seval]
                  refine hK _ _ _ ?_
                  clear hK K
                  refine AW_condK (a := .bool x62) (by simp only [EV, seval]) (brK h (fun hc44 h => ?_) (fun hc44 h => ?_))
                  · refine AW_rs (BR := BR) FM (by rw [hN]; kernel_rfl) (by kernel_rfl) ?_
                    intro K hK
                    obtain ⟨x63, h54, h⟩ := bO_inv h
                    simp only [EV, seval]
                    refine rR_p [0, 32] (i_reducer_emit_ok h54) (by simp only [AL, EV, seval]) (by simp only [AL, EV, seval]) (by kernel_rfl) (by simp only [EV, solidO, List.mem_cons, List.not_mem_nil, or_false, forall_eq_or_imp, forall_eq, seval]) (le_d rfl) (le_d rfl) (site_2 (by simp only [EV, seval])) ?_
                    simp only [EV, seval]
                    refine hK _ _ _ ?_
                    clear hK K
                    refine AW_le (Le_can (lt := [(0, .ptr 0 0), (1, .int .i64 a4), (5, .int .i64 v30)]) (lr := [(0, .box 104 [.int .i64 x63.1, .sl (encL EIIII x63.2.1) x63.2.1.length, .own 1121 x63.2.2.length]), (1, .gone), (1121, .row 49 4 (encL EIIII x63.2.2))]) (b' := 2128) [(0, some 0), (1, some 1), (1121, some 1121)] [1120] hρ (by kernel_rfl) ?_ ?_) ?_
                    · simp only [AL, EV, seval]
                    · simp only [AL, EV, seval]
                    refine AW_rs (BR := BR) FM (by rw [hN]; kernel_rfl) (by kernel_rfl) ?_
                    intro K hK
                    obtain ⟨x64, h55, h⟩ := bO_inv h
                    simp only [EV, seval]
                    refine rR_p [0, 1121] (i_reducer_emit_ok h55) (by simp only [AL, EV, seval]) (by simp only [AL, EV, seval]) (by kernel_rfl) (by simp only [EV, solidO, List.mem_cons, List.not_mem_nil, or_false, forall_eq_or_imp, forall_eq, seval]) (le_d rfl) (le_d rfl) (site_2 (by simp only [EV, seval])) ?_
                    simp only [EV, seval]
                    refine hK _ _ _ ?_
                    clear hK K
                    refine AW_le (Le_can (lt := [(0, .ptr 0 0), (1, .int .i64 a4), (5, .int .i64 v30)]) (lr := [(0, .box 104 [.int .i64 x64.1, .sl (encL EIIII x64.2.1) x64.2.1.length, .own 2161 x64.2.2.length]), (1, .gone), (2161, .row 49 4 (encL EIIII x64.2.2))]) (b' := 3168) [(0, some 0), (1, some 1), (2161, some 2161)] [2160] hρ (by kernel_rfl) ?_ ?_) ?_
                    · simp only [AL, EV, seval]
                    · simp only [AL, EV, seval]
                    refine AW_re (BR := BR) FM (by rw [hN]; kernel_rfl) (by kernel_rfl) ?_
                    intro K hK
                    obtain ⟨x65, h56, h⟩ := bO_inv h
                    simp only [EV, seval]
                    refine rR_p [0, 2161] (i_reducer_emit_ok h56) (by simp only [AL, EV, seval]) (by simp only [AL, EV, seval]) (by kernel_rfl) (by simp only [EV, solidO, List.mem_cons, List.not_mem_nil, or_false, forall_eq_or_imp, forall_eq, seval]) (le_d rfl) (le_d rfl) (site_2 (by simp only [EV, seval])) ?_
                    simp only [EV, seval]
                    refine hK _ _ _ (show cutK _ _ _ from cutL ⟨_, _, _, rfl, h⟩ (Le_can [(0, some 0), (1, some 1), (32, some 3201)] [3200] hρ (by kernel_rfl) ?_ ?_))
                    · simp only [AL, EV, seval]
                    · simp only [AL, EV, seval]
                  · refine AW_skip (show cutK _ _ _ from cutL ⟨_, _, _, rfl, h⟩ (Le_can [(0, some 0), (1, some 1), (32, some 32)] [] hρ (by kernel_rfl) ?_ ?_))
                    · simp only [AL, EV, seval]
                    · simp only [AL, EV, seval]
                · rintro S ⟨v117, v118, v119, rfl, h⟩
                  unfold i_reducer_qubit_j29 at h
                  refine AW_cutK (fun S => ∃ (v121 : Int) (v122 : LQ) (v123 : LQ), S = ⟨mkT [(0, .ptr 0 0), (1, .int .i64 a4), (5, .int .i64 v30)], mkR [(0, .box 104 [.int .i64 v121, .sl (encL EIIII v122) v122.length, .own 32 v123.length]), (1, .gone), (32, .row 49 4 (encL EIIII v123))], 64⟩ ∧ i_reducer_qubit_j30 a4 v30 v121 v122 v123 = some r) ?_ ?_
                  · refine AW_rs (BR := BR) FM (by rw [hN]; kernel_rfl) (by kernel_rfl) ?_
                    intro K hK
                    obtain ⟨q1, h57, h⟩ := bO_inv h
                    obtain ⟨⟨h58a, h58b⟩, h58c⟩ := geti_E EIIIIl h57
                    try simp only [EV, seval] at h58c
                    simp only [EV, seval, h58a, h58b, h58c]
                    refine hK _ _ _ ?_
                    clear hK K
                    refine AW_condK (a := .bool (q1.2.2.2 == 2)) (by simp only [EV, seval, h58a, h58b, h58c]) (brK h (fun hc45 h => ?_) (fun hc45 h => ?_))
                    · refine AW_re (BR := BR) FM (by rw [hN]; kernel_rfl) (by kernel_rfl) ?_
                      intro K hK
                      obtain ⟨x66, h59, h⟩ := bO_inv h
                      simp only [EV, seval]
                      refine rR_p [0, 32] (i_reducer_emit_ok h59) (by simp only [AL, EV, seval]) (by simp only [AL, EV, seval]) (by kernel_rfl) (by simp only [EV, solidO, List.mem_cons, List.not_mem_nil, or_false, forall_eq_or_imp, forall_eq, seval]) (le_d rfl) (le_d rfl) (site_2 (by simp only [EV, seval])) ?_
                      simp only [EV, seval]
                      refine hK _ _ _ (show cutK _ _ _ from cutL ⟨_, _, _, rfl, h⟩ (Le_can [(0, some 0), (1, some 1), (32, some 1121)] [1120] hρ (by kernel_rfl) ?_ ?_))
                      · simp only [AL, EV, seval]
                      · simp only [AL, EV, seval]
                    · refine AW_skip (show cutK _ _ _ from cutL ⟨_, _, _, rfl, h⟩ (Le_can [(0, some 0), (1, some 1), (32, some 32)] [] hρ (by kernel_rfl) ?_ ?_))
                      · simp only [AL, EV, seval, h58a, h58b, h58c]
                      · simp only [AL, EV, seval, h58a, h58b, h58c]
                  · rintro S ⟨v121, v122, v123, rfl, h⟩
                    unfold i_reducer_qubit_j30 at h
                    refine AW_rs (BR := BR) FM (by rw [hN]; kernel_rfl) (by kernel_rfl) ?_
                    intro K hK
                    obtain ⟨q2, h60, h⟩ := bO_inv h
                    obtain ⟨⟨h61a, h61b⟩, h61c⟩ := geti_E EIIIIl h60
                    try simp only [EV, seval] at h61c
                    simp only [EV, seval, h61a, h61b, h61c]
                    refine hK _ _ _ ?_
                    clear hK K
                    refine AW_condK (a := .bool (q2.2.2.2 == 2)) (by simp only [EV, seval, h61a, h61b, h61c]) (brK h (fun hc46 h => ?_) (fun hc46 h => ?_))
                    · refine AW_re (BR := BR) FM (by rw [hN]; kernel_rfl) (by kernel_rfl) ?_
                      intro K hK
                      obtain ⟨x67, h62, h⟩ := bO_inv h
                      simp only [EV, seval]
                      refine rR_p [0, 32] (i_reducer_emit_ok h62) (by simp only [AL, EV, seval]) (by simp only [AL, EV, seval]) (by kernel_rfl) (by simp only [EV, solidO, List.mem_cons, List.not_mem_nil, or_false, forall_eq_or_imp, forall_eq, seval]) (le_d rfl) (le_d rfl) (site_2 (by simp only [EV, seval])) ?_
                      simp only [EV, seval]
                      refine hK _ _ _ (show cutK _ _ _ from cutL ⟨_, _, _, rfl, h⟩ (Le_can [(0, some 0), (1, some 1), (32, some 1121)] [1120] hρ (by kernel_rfl) ?_ ?_))
                      · simp only [AL, EV, seval]
                      · simp only [AL, EV, seval]
                    · refine AW_skip (show cutK _ _ _ from cutL ⟨_, _, _, rfl, h⟩ (Le_can [(0, some 0), (1, some 1), (32, some 32)] [] hρ (by kernel_rfl) ?_ ?_))
                      · simp only [AL, EV, seval, h61a, h61b, h61c]
                      · simp only [AL, EV, seval, h61a, h61b, h61c]
  · rintro S ⟨v125, v126, v127, rfl, h⟩
    unfold i_reducer_qubit_j1 at h
    injection h with h
    subst h
    refine ⟨_, Le_can (lt := []) (lr := [(0, .box 104 [.int .i64 v125, .sl (encL EIIII v126) v126.length, .own 32 v127.length]), (1, .gone), (32, .row 49 4 (encL EIIII v127))]) (b' := 64) [(0, some 0), (1, some 1), (32, some 32)] [] hρ (by kernel_rfl) ?_ ?_, end_q [0, 1, 32] (.inl rfl) (by kernel_rfl) (by kernel_rfl) ?_⟩
    · simp only [AL, EV, seval]
    · simp only [AL, EV, seval]
    · simp only [EV, Try.results80, seval]
/- impl.ReduceTableau -/
def i_ReduceTableau_j1 (v13 : Int) (v14 : LQ) (v15 : LQ) : Option (LQ × Bool) :=
  some (v15, true)
def i_ReduceTableau_l1 (a1 : Int) : Nat → Int → Int → (LQ) → (LQ) → Option (LQ × Bool)
  | 0, _, _, _, _ => none
  | n1 + 1, v9, v10, v11, v12 =>
  br (decide (v9 < a1)) (bO (i_reducer_qubit v10 v11 v12 v9) fun x4 => (i_ReduceTableau_l1 a1 n1) (IntKind.wrap .i64 (v9 + 1)) x4.1 x4.2.1 x4.2.2) (i_ReduceTableau_j1 v10 v11 v12)
def i_ReduceTableau (a1 : Int) (a2 : LQ) : Option (LQ × Bool) :=
  bO (i_IsValidTableau a1 a2) fun x1 => br (!x1) (some ([], false)) (gd (decide (([] : LQ).length + a2.length ≤ 16777216)) (i_ReduceTableau_l1 a1 FU 0 a1 a2 ([] : LQ)))
set_option maxHeartbeats 4000000 in
theorem i_ReduceTableau_ok {a1 : Int} {a2 : LQ} {r : LQ × Bool} (h : i_ReduceTableau a1 a2 = some r) :
    Spec Try.prog 25 [.agg [.int .i64 a1, .sl (encL EIIII a2) a2.length]] [] (.tup [.own 0 r.1.length, .bool r.2]) [.row 49 4 (encL EIIII r.1)] := by
  unfold i_ReduceTableau at h
  refine spec_of Try.func25 rfl (by kernel_rfl) (by simp only [Try.ntmps25, List.length_cons, List.length_nil, Nat.reduceAdd, Nat.reduceLeDiff]) ?_
  intro C hN hρ
  rw [Try.ntmps25] at hN
  unfold st0
  simp only [tmps0, Nat.zero_add, Nat.reduceAdd]
  refine AW_rs (BR := BR) FM (by rw [hN]; kernel_rfl) (by kernel_rfl) ?_
  intro K hK
  simp only [EV, seval]
  refine hK _ _ _ ?_
  clear hK K
  refine AW_seq ?_
  refine AW_rs (BR := BR) FM (by rw [hN]; kernel_rfl) (by kernel_rfl) ?_
  intro K hK
  obtain ⟨x1, h1, h⟩ := bO_inv h
  simp only [EV, seval]
  refine rC_p (i_IsValidTableau_ok h1) (by simp only [AL, EV, seval]) (le_d rfl) (no_j rfl) ?_
  simp only [EV, seval]
  refine hK _ _ _ ?_
  clear hK K
  refine AW_condK (a := .bool (!x1)) (by simp only [EV, seval]) (brK h (fun hc1 h => ?_) (fun hc1 h => ?_))
  · refine AW_rs (BR := BR) FM (by rw [hN]; kernel_rfl) (by kernel_rfl) ?_
    intro K hK
    simp only [EV, seval]
    refine hK _ _ _ ?_
    clear hK K
    injection h with h
    subst h
    refine AW_le (Le_can (lt := [(2, .own 32 0), (3, .bool false)]) (lr := [(32, .row 49 4 (encL EIIII ([])))]) (b' := 64) [(32, none)] [] hρ (by kernel_rfl) ?_ ?_) (AW_ret (end_q [32] (.inr rfl) (by kernel_rfl) (by kernel_rfl) ?_))
    · simp only [AL, EV, seval]
    · simp only [AL, EV, seval]
    · simp only [EV, Try.results25, seval]
  · refine AW_skip (show AW _ _ _ _ _ from ?_)
    refine AW_rsT (BR := BR) [(1, [64]), (5, [2144, 2192])] (by kernel_rfl) FM (by rw [hN]; kernel_rfl) (by kernel_rfl) ?_
    intro K hK
    obtain ⟨h2, h⟩ := gd_inv h
    replace h2 := of_decide_eq_true h2
    try simp only [EV, seval] at h2
    have h3 := encL_len EIIIIl a2
    simp only [AE, AT, TY, EN, seval, h2, h3]
    refine hK _ _ _ ?_
    clear hK K
    refine AW_cutK (fun S => ∃ (v13 : Int) (v14 : LQ) (v15 : LQ), S = ⟨mkT [(4, .ptr 32 0)], mkR [(32, .box 104 [.int .i64 v13, .sl (encL EIIII v14) v14.length, .own 33 v15.length]), (33, .row 49 4 (encL EIIII v15))], 64⟩ ∧ i_ReduceTableau_j1 v13 v14 v15 = some r) ?_ ?_
    · refine AW_rs (BR := BR) FM (by rw [hN]; kernel_rfl) (by kernel_rfl) ?_
      intro K hK
      simp only [EV, seval]
      refine hK _ _ _ ?_
      clear hK K
      refine AW_block ?_
      refine AW_loopF (fun n S => ∃ (v9 : Int) (v10 : Int) (v11 : LQ) (v12 : LQ), S = ⟨mkT [(1, .ptr 32 0), (4, .ptr 33 0), (5, .int .i64 v9)], mkR [(32, .box 31 [.int .i64 a1, .sl (encL EIIII a2) a2.length]), (33, .box 104 [.int .i64 v10, .sl (encL EIIII v11) v11.length, .own 34 v12.length]), (34, .row 49 4 (encL EIIII v12))], 64⟩ ∧ i_ReduceTableau_l1 a1 n v9 v10 v11 v12 = some r) FU ?_ ?_ ?_
      · refine cutL ⟨_, _, _, _, rfl, h⟩ (Le_can [(32, some 64), (33, some 2240), (34, none)] [2192] hρ (by kernel_rfl) ?_ ?_)
        · simp only [AL, EV, seval]
        · simp only [AL, EV, seval]
      · rintro S ⟨_, _, _, _, _, h⟩; rw [i_ReduceTableau_l1] at h; cases h
      · rintro n1 S ⟨v9, v10, v11, v12, rfl, h⟩
        rw [i_ReduceTableau_l1] at h
        refine AW_seq ?_
        refine AW_rs (BR := BR) FM (by rw [hN]; kernel_rfl) (by kernel_rfl) ?_
        intro K hK
        simp only [EV, seval]
        refine hK _ _ _ ?_
        clear hK K
        refine AW_condK (a := .bool (decide (v9 < a1))) (by simp only [EV, seval]) (brK h (fun hc4 h => ?_) (fun hc4 h => ?_))
        · refine AW_skip (show AW _ _ _ _ _ from ?_)
          refine AW_seq ?_
          refine AW_block ?_
          refine AW_re (BR := BR) FM (by rw [hN]; kernel_rfl) (by kernel_rfl) ?_
          intro K hK
          obtain ⟨x4, h6, h⟩ := bO_inv h
          simp only [EV, seval]
          refine rR_p [33, 34] (i_reducer_qubit_ok h6) (by simp only [AL, EV, seval]) (by simp only [AL, EV, seval]) (by kernel_rfl) (by simp only [EV, solidO, List.mem_cons, List.not_mem_nil, or_false, forall_eq_or_imp, forall_eq, seval]) (le_d rfl) (le_d rfl) (site_1 (by simp only [EV, seval])) ?_
          simp only [EV, seval]
          refine hK _ _ _ (show AW _ _ _ _ _ from ?_)
          refine AW_re (BR := BR) FM (by rw [hN]; kernel_rfl) (by kernel_rfl) ?_
          intro K hK
          simp only [EV, seval]
          refine hK _ _ _ (show cutK _ _ _ from cutL ⟨_, _, _, _, rfl, h⟩ (Le_can [(32, some 32), (33, some 33), (34, some 1120)] [] hρ (by kernel_rfl) ?_ ?_))
          · simp only [AL, EV, seval]
          · simp only [AL, EV, seval]
        · refine AW_exit (show cutK _ _ _ from cutL ⟨_, _, _, rfl, h⟩ (Le_can [(32, some 33), (33, some 34)] [] hρ (by kernel_rfl) ?_ ?_))
          · simp only [AL, EV, seval]
          · simp only [AL, EV, seval]
    · rintro S ⟨v13, v14, v15, rfl, h⟩
      unfold i_ReduceTableau_j1 at h
      refine AW_rs (BR := BR) FM (by rw [hN]; kernel_rfl) (by kernel_rfl) ?_
      intro K hK
      simp only [EV, seval]
      refine hK _ _ _ ?_
      clear hK K
      injection h with h
      subst h
      refine AW_le (Le_can (lt := [(2, .own 32 v15.length), (3, .bool true)]) (lr := [(32, .row 49 4 (encL EIIII v15))]) (b' := 64) [(32, some 33)] [] hρ (by kernel_rfl) ?_ ?_) (AW_ret (end_q [32] (.inr rfl) (by kernel_rfl) (by kernel_rfl) ?_))
      · simp only [AL, EV, seval]
      · simp only [AL, EV, seval]
      · simp only [EV, Try.results25, seval]
end Go.Proofs.Ytcclapenpaediaa
