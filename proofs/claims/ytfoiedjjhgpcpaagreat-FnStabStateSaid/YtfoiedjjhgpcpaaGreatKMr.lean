/- Models of functions, and that the functions do what the models say; printed by a program. -/
import Derived.Test.YtfoiedjjhgpcpaaGreatK1
import Derived.Test.YtfoiedjjhgpcpaaGreatK3
import Derived.Test.YtfoiedjjhgpcpaaGreatK5
import Derived.Test.YtfoiedjjhgpcpaaGreatK2
namespace Go.Proofs.YtfoiedjjhgpcpaaGreat
open Go.RowKit
set_option maxRecDepth 100000
set_option linter.unusedVariables false
set_option linter.unusedSimpArgs false
set_option linter.defProp false
set_option maxHeartbeats 4000000
/- spec.l28X -/
def s_l28X (a1 a2 a3 a4 a5 : Int) : Option Bool :=
  gd (decide (¬ (IntKind.wrap .u64 a5) < 0)) (some ((bits .and .i64 (Int.fdiv a2 (2 ^ min (Int.toNat (IntKind.wrap .u64 a5)) (IntKind.bits .i64))) 1) == 1))
theorem s_l28X_ok {a1 a2 a3 a4 a5 : Int} {r : Bool} (h : s_l28X a1 a2 a3 a4 a5 = some r) :
    Spec Tryz.prog 116 [.agg [.int .i64 a1, .int .i64 a2, .int .i64 a3, .int .i64 a4], .int .i64 a5] [] (.bool r) [] := by
 unfold s_l28X at h; refine SO Tryz.func116 rfl Tryz.ntmps116 fun C hN hρ => ?_; simp only [st0, tmps0, Nat.zero_add, Nat.reduceAdd]; refine AN hN ?_; refine AR hN fun K hK => ?_; obtain ⟨h1, h⟩ := gd_inv h; replace h1 := of_decide_eq_true h1; simp only [EV, seval, h1]; refine hK _ _ _ ?_; clear hK K; injection h with h; subst h; refine AW_le (Le_can (lt := [(4, .bool ((bits .and .i64 (Int.fdiv a2 (2 ^ min (Int.toNat (IntKind.wrap .u64 a5)) (IntKind.bits .i64))) 1) == 1))]) (lr := []) (b' := 64) [] [] hρ (by kernel_rfl) ?_ ?_) (AW_ret (end_q [] (.inr rfl) (by kernel_rfl) (by kernel_rfl) ?_))
 ·simp only [AL, EV, seval, h1]
 ·simp only [AL, EV, seval, h1]
 ·simp only [EV, Tryz.results116, seval]
/- spec.l28Z -/
def s_l28Z (a1 a2 a3 a4 a5 : Int) : Option Bool :=
  gd (decide (¬ (IntKind.wrap .u64 a5) < 0)) (some ((bits .and .i64 (Int.fdiv a3 (2 ^ min (Int.toNat (IntKind.wrap .u64 a5)) (IntKind.bits .i64))) 1) == 1))
theorem s_l28Z_ok {a1 a2 a3 a4 a5 : Int} {r : Bool} (h : s_l28Z a1 a2 a3 a4 a5 = some r) :
    Spec Tryz.prog 117 [.agg [.int .i64 a1, .int .i64 a2, .int .i64 a3, .int .i64 a4], .int .i64 a5] [] (.bool r) [] := by
 unfold s_l28Z at h; refine SO Tryz.func117 rfl Tryz.ntmps117 fun C hN hρ => ?_; simp only [st0, tmps0, Nat.zero_add, Nat.reduceAdd]; refine AN hN ?_; refine AR hN fun K hK => ?_; obtain ⟨h1, h⟩ := gd_inv h; replace h1 := of_decide_eq_true h1; simp only [EV, seval, h1]; refine hK _ _ _ ?_; clear hK K; injection h with h; subst h; refine AW_le (Le_can (lt := [(4, .bool ((bits .and .i64 (Int.fdiv a3 (2 ^ min (Int.toNat (IntKind.wrap .u64 a5)) (IntKind.bits .i64))) 1) == 1))]) (lr := []) (b' := 64) [] [] hρ (by kernel_rfl) ?_ ?_) (AW_ret (end_q [] (.inr rfl) (by kernel_rfl) (by kernel_rfl) ?_))
 ·simp only [AL, EV, seval, h1]
 ·simp only [AL, EV, seval, h1]
 ·simp only [EV, Tryz.results117, seval]
/- spec.l28Do -/
def s_l28Do_j1 (v2 : Int) (v3 : LQ) (v4 : LQ) : Option (Int × LQ × LQ) :=
  some (v2, v3, v4)
def s_l28Do (a1 : Int) (a2 : LQ) (a3 : LQ) (a4 a5 a6 a7 : Int) : Option (Int × LQ × LQ) :=
  bO (s_TableauApplyGate a1 a2 a4 a5 a6 a7) fun x1 => br x1.2.2 (gd (decide (a3.length + ([(a4, a5, a6, a7)]).length ≤ 16777216)) (s_l28Do_j1 x1.1 x1.2.1 (a3 ++ ([(a4, a5, a6, a7)])))) (s_l28Do_j1 a1 a2 a3)
theorem s_l28Do_ok {a1 : Int} {a2 : LQ} {a3 : LQ} {a4 a5 a6 a7 : Int} {r : Int × LQ × LQ} (h : s_l28Do a1 a2 a3 a4 a5 a6 a7 = some r) :
    Spec Tryz.prog 118 [.ptr 0 0, .agg [.int .i64 a4, .int .i64 a5, .int .i64 a6, .int .i64 a7]] [.box 110 [.int .i64 a1, .sl (encL EIIII a2) a2.length, .own 1 a3.length], .row 79 4 (encL EIIII a3)] (.tup []) [.box 110 [.int .i64 r.1, .sl (encL EIIII r.2.1) r.2.1.length, .own 2 r.2.2.length], .gone, .row 79 4 (encL EIIII r.2.2)] := by
 unfold s_l28Do at h; refine SO Tryz.func118 rfl Tryz.ntmps118 fun C hN hρ => ?_; simp only [st0, tmps0, Nat.zero_add, Nat.reduceAdd]; refine AW_endK (fun S => ∃ (v2 : Int) (v3 : LQ) (v4 : LQ), S = ⟨mkT [], mkR [(0, .box 110 [.int .i64 v2, .sl (encL EIIII v3) v3.length, .own 32 v4.length]), (1, .gone), (32, .row 79 4 (encL EIIII v4))], 64⟩ ∧ s_l28Do_j1 v2 v3 v4 = some r) ?_ ?_
 ·refine AN hN ?_; refine AR hN fun K hK => ?_; obtain ⟨x1, h1, h⟩ := bO_inv h; simp only [EV, seval]; refine rC_p (s_TableauApplyGate_ok h1) (by simp only [AL, EV, seval]) (le_d rfl) (site_1 (by simp only [EV, seval])) ?_; simp only [EV, seval]; refine hK _ _ _ ?_; clear hK K; refine AN hN ?_; refine AB h (fun hc1 h => ?_) fun hc1 h => ?_
  ·refine AN hN ?_; refine AS hN fun K hK => ?_; obtain ⟨h2, h⟩ := gd_inv h; replace h2 := of_decide_eq_true h2; (try simp only [EV, seval] at h2); simp only [EV, seval, h2]; refine hK _ _ _ (show cutK _ _ _ from cutL ⟨_, _, _, rfl, h⟩ (Le_can [(0, some 0), (1, some 1), (32, some 4272)] [1168] hρ (by kernel_rfl) ?_ ?_))
   ·simp only [AL, EV, seval, h2]
   ·simp only [AL, EV, seval, h2]
  ·refine AW_skip (show cutK _ _ _ from cutL ⟨_, _, _, rfl, h⟩ (Le_can [(0, some 0), (1, some 1), (32, some 1)] [] hρ (by kernel_rfl) ?_ ?_))
   ·simp only [AL, EV, seval]
   ·simp only [AL, EV, seval]
 ·rintro S ⟨v2, v3, v4, rfl, h⟩; unfold s_l28Do_j1 at h; injection h with h; subst h; refine ⟨_, Le_can (lt := []) (lr := [(0, .box 110 [.int .i64 v2, .sl (encL EIIII v3) v3.length, .own 32 v4.length]), (1, .gone), (32, .row 79 4 (encL EIIII v4))]) (b' := 64) [(0, some 0), (1, some 1), (32, some 32)] [] hρ (by kernel_rfl) ?_ ?_, end_q [0, 1, 32] (.inl rfl) (by kernel_rfl) (by kernel_rfl) ?_⟩
  ·simp only [AL, EV, seval]
  ·simp only [AL, EV, seval]
  ·simp only [EV, Tryz.results118, seval]
/- spec.l14Cx -/
def s_l14Cx (a1 a2 : Int) : Option (Int × Int × Int × Int) :=
  some (9, a1, a2, 0)
theorem s_l14Cx_ok {a1 a2 : Int} {r : Int × Int × Int × Int} (h : s_l14Cx a1 a2 = some r) :
    Spec Tryz.prog 120 [.int .i64 a1, .int .i64 a2] [] (.agg [.int .i64 r.1, .int .i64 r.2.1, .int .i64 r.2.2.1, .int .i64 r.2.2.2]) [] := by
 unfold s_l14Cx at h; refine SO Tryz.func120 rfl Tryz.ntmps120 fun C hN hρ => ?_; simp only [st0, tmps0, Nat.zero_add, Nat.reduceAdd]; refine AN hN ?_; refine AN hN ?_; injection h with h; subst h; exact AX (b' := 64) [(4, .ptr 32 0)] [(32, .box 79 [.int .i64 9, .int .i64 a1, .int .i64 a2, .int .i64 0])] [(32, some 64)] [] hρ (EQ [])
/- spec.l28First -/
def s_l28First_j7 (v16 : Int) (kl1 : Int → (LQ) → (LQ) → Int → Option (Int × LQ × LQ)) (v18 : Int) (v19 : LQ) (v20 : LQ) : Option (Int × LQ × LQ) :=
  kl1 v18 v19 v20 (IntKind.wrap .i64 (v16 + 1))
def s_l28First_j8 (v13 : Int) (v14 : LQ) (v15 : LQ) (v16 : Int) (kl1 : Int → (LQ) → (LQ) → Int → Option (Int × LQ × LQ)) (q3 : Int × Int × Int × Int) (v17 : Bool) : Option (Int × LQ × LQ) :=
  br v17 (bO (s_l14One 5 v16) fun x21 => bO (s_l28Do v13 v14 v15 x21.1 x21.2.1 x21.2.2.1 x21.2.2.2) fun x22 => s_l28First_j7 v16 kl1 x22.1 x22.2.1 x22.2.2) (bO (s_l28Z q3.1 q3.2.1 q3.2.2.1 q3.2.2.2 v16) fun x23 => br x23 (bO (s_l14One 4 v16) fun x24 => bO (s_l28Do v13 v14 v15 x24.1 x24.2.1 x24.2.2.1 x24.2.2.2) fun x25 => s_l28First_j7 v16 kl1 x25.1 x25.2.1 x25.2.2) (s_l28First_j7 v16 kl1 v13 v14 v15))
def s_l28First_j16 (v47 : Int) (kl3 : Int → (LQ) → (LQ) → Int → Option (Int × LQ × LQ)) (v48 : Int) (v49 : LQ) (v50 : LQ) : Option (Int × LQ × LQ) :=
  kl3 v48 v49 v50 (IntKind.wrap .i64 (v47 + 1))
def s_l28First_j1 (v51 : Int) (v52 : LQ) (v53 : LQ) : Option (Int × LQ × LQ) :=
  some (v51, v52, v53)
def s_l28First_l3 (a1 a4 : Int) : Nat → Int → (LQ) → (LQ) → Int → Option (Int × LQ × LQ)
  | 0, _, _, _, _ => none
  | n3 + 1, v44, v45, v46, v47 =>
  br (decide (v47 < a1)) (bO (geti v45 a4) fun q10 => bO (s_l28X q10.1 q10.2.1 q10.2.2.1 q10.2.2.2 v47) fun x40 => br x40 (bO (s_l14Cx a4 v47) fun x41 => bO (s_l28Do v44 v45 v46 x41.1 x41.2.1 x41.2.2.1 x41.2.2.2) fun x42 => s_l28First_j16 v47 (s_l28First_l3 a1 a4 n3) x42.1 x42.2.1 x42.2.2) (s_l28First_j16 v47 (s_l28First_l3 a1 a4 n3) v44 v45 v46)) (s_l28First_j1 v44 v45 v46)
def s_l28First_j13 (a1 a4 v30 : Int) (v31 : LQ) (v32 : LQ) : Option (Int × LQ × LQ) :=
  s_l28First_l3 a1 a4 FU v30 v31 v32 (IntKind.wrap .i64 (a4 + 1))
def s_l28First_j9 (a1 a4 v21 : Int) (v22 : LQ) (v23 : LQ) (v29 : Int) : Option (Int × LQ × LQ) :=
  br (v29 != a4) (bO (s_l28Do v21 v22 v23 11 a4 v29 0) fun x33 => s_l28First_j13 a1 a4 x33.1 x33.2.1 x33.2.2) (s_l28First_j13 a1 a4 v21 v22 v23)
def s_l28First_j12 (a1 a4 v21 : Int) (v22 : LQ) (v23 : LQ) (v27 : Int) (kl2 : Int → Option (Int × LQ × LQ)) (v28 : Bool) : Option (Int × LQ × LQ) :=
  br v28 (kl2 (IntKind.wrap .i64 (v27 + 1))) (s_l28First_j9 a1 a4 v21 v22 v23 v27)
def s_l28First_l2 (a1 a4 v21 : Int) (v22 : LQ) (v23 : LQ) : Nat → Int → Option (Int × LQ × LQ)
  | 0, _ => none
  | n2 + 1, v27 =>
  bO (br (decide (v27 < (IntKind.wrap .i64 (a1 - 1)))) (bO (geti v22 a4) fun q6 => bO (s_l28X q6.1 q6.2.1 q6.2.2.1 q6.2.2.2 v27) fun x30 => some (!x30)) (some false)) fun x31 => s_l28First_j12 a1 a4 v21 v22 v23 v27 (s_l28First_l2 a1 a4 v21 v22 v23 n2) x31
def s_l28First_j2 (a1 a4 v21 : Int) (v22 : LQ) (v23 : LQ) : Option (Int × LQ × LQ) :=
  s_l28First_l2 a1 a4 v21 v22 v23 FU a4
def s_l28First_l1 (a1 a4 : Int) : Nat → Int → (LQ) → (LQ) → Int → Option (Int × LQ × LQ)
  | 0, _, _, _, _ => none
  | n1 + 1, v13, v14, v15, v16 =>
  br (decide (v16 < a1)) (bO (geti v14 a4) fun q3 => bO (s_l28X q3.1 q3.2.1 q3.2.2.1 q3.2.2.2 v16) fun x17 => bO (br x17 (bO (s_l28Z q3.1 q3.2.1 q3.2.2.1 q3.2.2.2 v16) fun x18 => some x18) (some false)) fun x19 => s_l28First_j8 v13 v14 v15 v16 (s_l28First_l1 a1 a4 n1) q3 x19) (s_l28First_j2 a1 a4 v13 v14 v15)
def s_l28First (a1 : Int) (a2 : LQ) (a3 : LQ) (a4 : Int) : Option (Int × LQ × LQ) :=
  s_l28First_l1 a1 a4 FU a1 a2 a3 a4
theorem s_l28First_ok {a1 : Int} {a2 : LQ} {a3 : LQ} {a4 : Int} {r : Int × LQ × LQ} (h : s_l28First a1 a2 a3 a4 = some r) :
    Spec Tryz.prog 95 [.ptr 0 0, .int .i64 a4] [.box 110 [.int .i64 a1, .sl (encL EIIII a2) a2.length, .own 1 a3.length], .row 79 4 (encL EIIII a3)] (.tup []) [.box 110 [.int .i64 r.1, .sl (encL EIIII r.2.1) r.2.1.length, .own 2 r.2.2.length], .gone, .row 79 4 (encL EIIII r.2.2)] := by
 unfold s_l28First at h; refine SO Tryz.func95 rfl Tryz.ntmps95 fun C hN hρ => ?_; simp only [st0, tmps0, Nat.zero_add, Nat.reduceAdd]; refine AW_endK (fun S => ∃ (v51 : Int) (v52 : LQ) (v53 : LQ), S = ⟨mkT [], mkR [(0, .box 110 [.int .i64 v51, .sl (encL EIIII v52) v52.length, .own 32 v53.length]), (1, .gone), (32, .row 79 4 (encL EIIII v53))], 64⟩ ∧ s_l28First_j1 v51 v52 v53 = some r) ?_ ?_
 ·refine AN hN ?_; refine AW_cutK (fun S => ∃ (v21 : Int) (v22 : LQ) (v23 : LQ), S = ⟨mkT [(0, .ptr 0 0), (1, .int .i64 a4), (4, .int .i64 a1)], mkR [(0, .box 110 [.int .i64 v21, .sl (encL EIIII v22) v22.length, .own 32 v23.length]), (1, .gone), (32, .row 79 4 (encL EIIII v23))], 64⟩ ∧ s_l28First_j2 a1 a4 v21 v22 v23 = some r) ?_ ?_
  ·refine AN hN ?_; refine AW_block ?_; refine AW_loopF (fun n S => ∃ (v13 : Int) (v14 : LQ) (v15 : LQ) (v16 : Int), S = ⟨mkT [(0, .ptr 0 0), (1, .int .i64 a4), (4, .int .i64 a1), (5, .int .i64 v16)], mkR [(0, .box 110 [.int .i64 v13, .sl (encL EIIII v14) v14.length, .own 32 v15.length]), (1, .gone), (32, .row 79 4 (encL EIIII v15))], 64⟩ ∧ s_l28First_l1 a1 a4 n v13 v14 v15 v16 = some r) FU ?_ ?_ ?_
   ·exact AC ⟨_, _, _, _, rfl, h⟩ [(0, some 0), (1, some 1), (32, some 1)] [] hρ
   ·rintro S ⟨_, _, _, _, _, h⟩; rw [s_l28First_l1] at h; cases h
   ·rintro n1 S ⟨v13, v14, v15, v16, rfl, h⟩; rw [s_l28First_l1] at h; refine AW_seq ?_; refine AN hN ?_; refine AB h (fun hc9 h => ?_) fun hc9 h => ?_
    ·refine AW_skip (AK ?_); refine AW_cutK (fun S => ∃ (v18 : Int) (v19 : LQ) (v20 : LQ), S = ⟨mkT [(0, .ptr 0 0), (1, .int .i64 a4), (4, .int .i64 a1), (5, .int .i64 v16)], mkR [(0, .box 110 [.int .i64 v18, .sl (encL EIIII v19) v19.length, .own 32 v20.length]), (1, .gone), (32, .row 79 4 (encL EIIII v20))], 64⟩ ∧ s_l28First_j7 v16 (s_l28First_l1 a1 a4 n1) v18 v19 v20 = some r) ?_ ?_
     ·refine AW_block ?_; refine AR hN fun K hK => ?_; obtain ⟨q3, h19, h⟩ := bO_inv h; obtain ⟨⟨h20a, h20b⟩, h20c⟩ := geti_E EIIIIl h19; (try simp only [EV, seval] at h20c); simp only [EV, seval, h20a, h20b, h20c]; refine hK _ _ _ ?_; clear hK K; refine AJ (fun S => ∃ (v17 : Bool), S = ⟨mkT [(0, .ptr 0 0), (1, .int .i64 a4), (4, .int .i64 a1), (5, .int .i64 v16), (6, .ptr 33 0), (34, .bool v17)], mkR [(0, .box 110 [.int .i64 v13, .sl (encL EIIII v14) v14.length, .own 32 v15.length]), (1, .gone), (32, .row 79 4 (encL EIIII v15)), (33, .box 34 [.int .i64 q3.1, .int .i64 q3.2.1, .int .i64 q3.2.2.1, .int .i64 q3.2.2.2])], 64⟩ ∧ s_l28First_j8 v13 v14 v15 v16 (s_l28First_l1 a1 a4 n1) q3 v17 = some r) hN ?_ ?_
      ·intro K hK; obtain ⟨x17, h21, h⟩ := bO_inv h; simp only [EV, seval]; refine CP (s_l28X_ok h21) ?_; obtain ⟨x19, hv3, h⟩ := bO_inv h; rcases br_inv hv3 with ⟨hc10, hv3⟩ | ⟨hc10, hv3⟩
       ·obtain ⟨x20, h23, hv3⟩ := bO_inv hv3; simp only [EV, seval, hc10]; refine rC_p (s_l28Z_ok h23) (by simp only [AL, EV, seval, hc10]) (le_d rfl) (no_j rfl) ?_; cases hv3; simp only [EV, seval, hc10]; refine hK _ _ _ (show cutK _ _ _ from cutL ⟨_, rfl, h⟩ (Le_can [(0, some 0), (1, some 1), (32, some 32), (33, some 1216)] [] hρ (by kernel_rfl) ?_ ?_))
        ·simp only [AL, EV, seval, hc10]
        ·simp only [AL, EV, seval, hc10]
       ·cases hv3; simp only [EV, seval, hc10]; refine hK _ _ _ (show cutK _ _ _ from cutL ⟨_, rfl, h⟩ (Le_can [(0, some 0), (1, some 1), (32, some 32), (33, some 1216)] [] hρ (by kernel_rfl) ?_ ?_))
        ·simp only [AL, EV, seval, hc10]
        ·simp only [AL, EV, seval, hc10]
      ·rintro S ⟨v17, rfl, h⟩; unfold s_l28First_j8 at h; refine AW_condK (a := .bool v17) (by simp only [EV, seval, h20a, h20b, h20c]) (brK h (fun hc11 h => ?_) (fun hc11 h => ?_))
       ·refine AS hN fun K hK => ?_; obtain ⟨x21, h24, h⟩ := bO_inv h; simp only [EV, seval]; refine CP (s_l14One_ok h24) ?_; obtain ⟨x22, h25, h⟩ := bO_inv h; simp only [EV, seval]; refine rR_p [0, 32] (s_l28Do_ok h25) (by simp only [AL, EV, seval]) (by simp only [AL, EV, seval]) (by kernel_rfl) (by simp only [EV, solidO, List.mem_cons, List.not_mem_nil, or_false, forall_eq_or_imp, forall_eq, seval]) (le_d rfl) (le_d rfl) (site_1 (by simp only [EV, seval])) ?_; simp only [EV, seval]; exact hK _ _ _ (AC ⟨_, _, _, rfl, h⟩ [(0, some 0), (1, some 1), (32, some 112)] [] hρ)
       ·obtain ⟨x23, h26, h⟩ := bO_inv h; refine AP hN (s_l28Z_ok h26) ?_; refine AB h (fun hc12 h => ?_) fun hc12 h => ?_
        ·refine AS hN fun K hK => ?_; obtain ⟨x24, h27, h⟩ := bO_inv h; simp only [EV, seval]; refine CP (s_l14One_ok h27) ?_; obtain ⟨x25, h28, h⟩ := bO_inv h; simp only [EV, seval]; refine rR_p [0, 32] (s_l28Do_ok h28) (by simp only [AL, EV, seval]) (by simp only [AL, EV, seval]) (by kernel_rfl) (by simp only [EV, solidO, List.mem_cons, List.not_mem_nil, or_false, forall_eq_or_imp, forall_eq, seval]) (le_d rfl) (le_d rfl) (site_1 (by simp only [EV, seval])) ?_; simp only [EV, seval]; exact hK _ _ _ (AC ⟨_, _, _, rfl, h⟩ [(0, some 0), (1, some 1), (32, some 1136)] [] hρ)
        ·refine AW_skip (show cutK _ _ _ from cutL ⟨_, _, _, rfl, h⟩ (Le_can [(0, some 0), (1, some 1), (32, some 32)] [] hρ (by kernel_rfl) ?_ ?_))
         ·simp only [AL, EV, seval]
         ·simp only [AL, EV, seval]
     ·rintro S ⟨v18, v19, v20, rfl, h⟩; unfold s_l28First_j7 at h; refine AS hN fun K hK => ?_; simp only [EV, seval]; exact hK _ _ _ (AC ⟨_, _, _, _, rfl, h⟩ [(0, some 0), (1, some 1), (32, some 32)] [] hρ)
    ·exact AW_exit (AC ⟨_, _, _, rfl, h⟩ [(0, some 0), (1, some 1), (32, some 32)] [] hρ)
  ·rintro S ⟨v21, v22, v23, rfl, h⟩; unfold s_l28First_j2 at h; refine AN hN ?_; refine AW_cutK (fun S => ∃ (v29 : Int), S = ⟨mkT [(0, .ptr 0 0), (1, .int .i64 a4), (4, .int .i64 a1), (7, .int .i64 v29)], mkR [(0, .box 110 [.int .i64 v21, .sl (encL EIIII v22) v22.length, .own 32 v23.length]), (1, .gone), (32, .row 79 4 (encL EIIII v23))], 64⟩ ∧ s_l28First_j9 a1 a4 v21 v22 v23 v29 = some r) ?_ ?_
   ·refine AW_block ?_; refine AW_loopF (fun n S => ∃ (v27 : Int), S = ⟨mkT [(0, .ptr 0 0), (1, .int .i64 a4), (4, .int .i64 a1), (7, .int .i64 v27)], mkR [(0, .box 110 [.int .i64 v21, .sl (encL EIIII v22) v22.length, .own 32 v23.length]), (1, .gone), (32, .row 79 4 (encL EIIII v23))], 64⟩ ∧ s_l28First_l2 a1 a4 v21 v22 v23 n v27 = some r) FU ?_ ?_ ?_
    ·exact AC ⟨_, rfl, h⟩ [(0, some 0), (1, some 1), (32, some 32)] [] hρ
    ·rintro S ⟨_, _, h⟩; rw [s_l28First_l2] at h; cases h
    ·rintro n2 S ⟨v27, rfl, h⟩; rw [s_l28First_l2] at h; refine AW_seq ?_; refine AJ (fun S => ∃ (v28 : Bool), S = ⟨mkT [(0, .ptr 0 0), (1, .int .i64 a4), (4, .int .i64 a1), (7, .int .i64 v27), (63, .bool v28)], mkR [(0, .box 110 [.int .i64 v21, .sl (encL EIIII v22) v22.length, .own 32 v23.length]), (1, .gone), (32, .row 79 4 (encL EIIII v23))], 64⟩ ∧ s_l28First_j12 a1 a4 v21 v22 v23 v27 (s_l28First_l2 a1 a4 v21 v22 v23 n2) v28 = some r) hN ?_ ?_
     ·intro K hK; obtain ⟨x31, hv6, h⟩ := bO_inv h; rcases br_inv hv6 with ⟨hc17, hv6⟩ | ⟨hc17, hv6⟩
      ·obtain ⟨q7, h38, hv6⟩ := bO_inv hv6; obtain ⟨⟨h39a, h39b⟩, h39c⟩ := geti_E EIIIIl h38; (try simp only [EV, seval] at h39c); obtain ⟨x32, h40, hv6⟩ := bO_inv hv6; simp only [EV, seval, hc17, h39a, h39b, h39c]; refine rC_p (s_l28X_ok h40) (by simp only [AL, EV, seval, hc17, h39a, h39b, h39c]) (le_d rfl) (no_j rfl) ?_; cases hv6; simp only [EV, seval, hc17, h39a, h39b, h39c]; refine hK _ _ _ (show cutK _ _ _ from cutL ⟨_, rfl, h⟩ (Le_can [(0, some 0), (1, some 1), (32, some 32)] [] hρ (by kernel_rfl) ?_ ?_))
       ·simp only [AL, EV, seval, hc17, h39a, h39b, h39c]
       ·simp only [AL, EV, seval, hc17, h39a, h39b, h39c]
      ·cases hv6; simp only [EV, seval, hc17]; refine hK _ _ _ (show cutK _ _ _ from cutL ⟨_, rfl, h⟩ (Le_can [(0, some 0), (1, some 1), (32, some 32)] [] hρ (by kernel_rfl) ?_ ?_))
       ·simp only [AL, EV, seval, hc17]
       ·simp only [AL, EV, seval, hc17]
     ·rintro S ⟨v28, rfl, h⟩; unfold s_l28First_j12 at h; refine AB h (fun hc18 h => ?_) fun hc18 h => ?_
      ·refine AW_skip (AK ?_); refine AW_block ?_; refine AS hN fun K hK => ?_; simp only [EV, seval]; exact hK _ _ _ (AC ⟨_, rfl, h⟩ [(0, some 0), (1, some 1), (32, some 32)] [] hρ)
      ·exact AW_exit (AC ⟨_, rfl, h⟩ [(0, some 0), (1, some 1), (32, some 32)] [] hρ)
   ·rintro S ⟨v29, rfl, h⟩; unfold s_l28First_j9 at h; refine AW_cutK (fun S => ∃ (v30 : Int) (v31 : LQ) (v32 : LQ), S = ⟨mkT [(0, .ptr 0 0), (1, .int .i64 a4), (4, .int .i64 a1)], mkR [(0, .box 110 [.int .i64 v30, .sl (encL EIIII v31) v31.length, .own 32 v32.length]), (1, .gone), (32, .row 79 4 (encL EIIII v32))], 64⟩ ∧ s_l28First_j13 a1 a4 v30 v31 v32 = some r) ?_ ?_
    ·refine AN hN ?_; refine AB h (fun hc19 h => ?_) fun hc19 h => ?_
     ·refine AS hN fun K hK => ?_; obtain ⟨x33, h41, h⟩ := bO_inv h; simp only [EV, seval]; refine rR_p [0, 32] (s_l28Do_ok h41) (by simp only [AL, EV, seval]) (by simp only [AL, EV, seval]) (by kernel_rfl) (by simp only [EV, solidO, List.mem_cons, List.not_mem_nil, or_false, forall_eq_or_imp, forall_eq, seval]) (le_d rfl) (le_d rfl) (site_1 (by simp only [EV, seval])) ?_; simp only [EV, seval]; exact hK _ _ _ (AC ⟨_, _, _, rfl, h⟩ [(0, some 0), (1, some 1), (32, some 1152)] [] hρ)
     ·refine AW_skip (show cutK _ _ _ from cutL ⟨_, _, _, rfl, h⟩ (Le_can [(0, some 0), (1, some 1), (32, some 32)] [] hρ (by kernel_rfl) ?_ ?_))
      ·simp only [AL, EV, seval]
      ·simp only [AL, EV, seval]
    ·rintro S ⟨v30, v31, v32, rfl, h⟩; unfold s_l28First_j13 at h; refine AN hN ?_; refine AW_block ?_; refine AW_loopF (fun n S => ∃ (v44 : Int) (v45 : LQ) (v46 : LQ) (v47 : Int), S = ⟨mkT [(0, .ptr 0 0), (1, .int .i64 a4), (4, .int .i64 a1), (7, .int .i64 v47)], mkR [(0, .box 110 [.int .i64 v44, .sl (encL EIIII v45) v45.length, .own 32 v46.length]), (1, .gone), (32, .row 79 4 (encL EIIII v46))], 64⟩ ∧ s_l28First_l3 a1 a4 n v44 v45 v46 v47 = some r) FU ?_ ?_ ?_
     ·exact AC ⟨_, _, _, _, rfl, h⟩ [(0, some 0), (1, some 1), (32, some 32)] [] hρ
     ·rintro S ⟨_, _, _, _, _, h⟩; rw [s_l28First_l3] at h; cases h
     ·rintro n3 S ⟨v44, v45, v46, v47, rfl, h⟩; rw [s_l28First_l3] at h; refine AW_seq ?_; refine AN hN ?_; refine AB h (fun hc24 h => ?_) fun hc24 h => ?_
      ·refine AW_skip (AK ?_); refine AW_cutK (fun S => ∃ (v48 : Int) (v49 : LQ) (v50 : LQ), S = ⟨mkT [(0, .ptr 0 0), (1, .int .i64 a4), (4, .int .i64 a1), (7, .int .i64 v47)], mkR [(0, .box 110 [.int .i64 v48, .sl (encL EIIII v49) v49.length, .own 32 v50.length]), (1, .gone), (32, .row 79 4 (encL EIIII v50))], 64⟩ ∧ s_l28First_j16 v47 (s_l28First_l3 a1 a4 n3) v48 v49 v50 = some r) ?_ ?_
       ·refine AW_block ?_; refine AR hN fun K hK => ?_; obtain ⟨q10, h52, h⟩ := bO_inv h; obtain ⟨⟨h53a, h53b⟩, h53c⟩ := geti_E EIIIIl h52; (try simp only [EV, seval] at h53c); obtain ⟨x40, h54, h⟩ := bO_inv h; simp only [EV, seval, h53a, h53b, h53c]; refine rC_p (s_l28X_ok h54) (by simp only [AL, EV, seval, h53a, h53b, h53c]) (le_d rfl) (no_j rfl) ?_; simp only [EV, seval, h53a, h53b, h53c]; refine hK _ _ _ ?_; clear hK K; refine AW_condK (a := .bool x40) (by simp only [EV, seval, h53a, h53b, h53c]) (brK h (fun hc25 h => ?_) (fun hc25 h => ?_))
        ·refine AS hN fun K hK => ?_; obtain ⟨x41, h55, h⟩ := bO_inv h; simp only [EV, seval]; refine CP (s_l14Cx_ok h55) ?_; obtain ⟨x42, h56, h⟩ := bO_inv h; simp only [EV, seval]; refine rR_p [0, 32] (s_l28Do_ok h56) (by simp only [AL, EV, seval]) (by simp only [AL, EV, seval]) (by kernel_rfl) (by simp only [EV, solidO, List.mem_cons, List.not_mem_nil, or_false, forall_eq_or_imp, forall_eq, seval]) (le_d rfl) (le_d rfl) (site_1 (by simp only [EV, seval])) ?_; simp only [EV, seval]; exact hK _ _ _ (AC ⟨_, _, _, rfl, h⟩ [(0, some 0), (1, some 1), (32, some 2176)] [] hρ)
        ·refine AW_skip (show cutK _ _ _ from cutL ⟨_, _, _, rfl, h⟩ (Le_can [(0, some 0), (1, some 1), (32, some 32)] [] hρ (by kernel_rfl) ?_ ?_))
         ·simp only [AL, EV, seval, h53a, h53b, h53c]
         ·simp only [AL, EV, seval, h53a, h53b, h53c]
       ·rintro S ⟨v48, v49, v50, rfl, h⟩; unfold s_l28First_j16 at h; refine AS hN fun K hK => ?_; simp only [EV, seval]; exact hK _ _ _ (AC ⟨_, _, _, _, rfl, h⟩ [(0, some 0), (1, some 1), (32, some 32)] [] hρ)
      ·exact AW_exit (AC ⟨_, _, _, rfl, h⟩ [(0, some 0), (1, some 1), (32, some 32)] [] hρ)
 ·rintro S ⟨v51, v52, v53, rfl, h⟩; unfold s_l28First_j1 at h; injection h with h; subst h; refine ⟨_, Le_can (lt := []) (lr := [(0, .box 110 [.int .i64 v51, .sl (encL EIIII v52) v52.length, .own 32 v53.length]), (1, .gone), (32, .row 79 4 (encL EIIII v53))]) (b' := 64) [(0, some 0), (1, some 1), (32, some 32)] [] hρ (by kernel_rfl) ?_ ?_, end_q [0, 1, 32] (.inl rfl) (by kernel_rfl) (by kernel_rfl) ?_⟩
  ·simp only [AL, EV, seval]
  ·simp only [AL, EV, seval]
  ·simp only [EV, Tryz.results95, seval]
/- spec.l28Second -/
def s_l28Second_j7 (v17 : Int) (kl1 : Int → (LQ) → (LQ) → Int → Option (Int × LQ × LQ)) (v19 : Int) (v20 : LQ) (v21 : LQ) : Option (Int × LQ × LQ) :=
  kl1 v19 v20 v21 (IntKind.wrap .i64 (v17 + 1))
def s_l28Second_j8 (v14 : Int) (v15 : LQ) (v16 : LQ) (v17 : Int) (kl1 : Int → (LQ) → (LQ) → Int → Option (Int × LQ × LQ)) (q3 : Int × Int × Int × Int) (v18 : Bool) : Option (Int × LQ × LQ) :=
  br v18 (bO (s_l14One 5 v17) fun x25 => bO (s_l28Do v14 v15 v16 x25.1 x25.2.1 x25.2.2.1 x25.2.2.2) fun x26 => bO (s_l14One 4 v17) fun x27 => bO (s_l28Do x26.1 x26.2.1 x26.2.2 x27.1 x27.2.1 x27.2.2.1 x27.2.2.2) fun x28 => s_l28Second_j7 v17 kl1 x28.1 x28.2.1 x28.2.2) (bO (s_l28X q3.1 q3.2.1 q3.2.2.1 q3.2.2.2 v17) fun x29 => br x29 (bO (s_l14One 4 v17) fun x30 => bO (s_l28Do v14 v15 v16 x30.1 x30.2.1 x30.2.2.1 x30.2.2.2) fun x31 => s_l28Second_j7 v17 kl1 x31.1 x31.2.1 x31.2.2) (s_l28Second_j7 v17 kl1 v14 v15 v16))
def s_l28Second_j12 (v39 : Int) (kl2 : Int → (LQ) → (LQ) → Int → Option (Int × LQ × LQ)) (v40 : Int) (v41 : LQ) (v42 : LQ) : Option (Int × LQ × LQ) :=
  kl2 v40 v41 v42 (IntKind.wrap .i64 (v39 + 1))
def s_l28Second_j1 (v52 : Int) (v53 : LQ) (v54 : LQ) : Option (Int × LQ × LQ) :=
  some (v52, v53, v54)
def s_l28Second_j14 (a1 a4 v49 : Int) (v50 : LQ) (v51 : LQ) : Option (Int × LQ × LQ) :=
  bO (geti v50 (IntKind.wrap .i64 (a1 + a4))) fun q9 => br (q9.2.2.2 == 2) (bO (s_l14One 1 a4) fun x50 => bO (s_l28Do v49 v50 v51 x50.1 x50.2.1 x50.2.2.1 x50.2.2.2) fun x51 => s_l28Second_j1 x51.1 x51.2.1 x51.2.2) (s_l28Second_j1 v49 v50 v51)
def s_l28Second_j13 (a1 a4 v46 : Int) (v47 : LQ) (v48 : LQ) : Option (Int × LQ × LQ) :=
  bO (geti v47 a4) fun q8 => br (q8.2.2.2 == 2) (bO (s_l14One 3 a4) fun x48 => bO (s_l28Do v46 v47 v48 x48.1 x48.2.1 x48.2.2.1 x48.2.2.2) fun x49 => s_l28Second_j14 a1 a4 x49.1 x49.2.1 x49.2.2) (s_l28Second_j14 a1 a4 v46 v47 v48)
def s_l28Second_j9 (a1 a4 v43 : Int) (v44 : LQ) (v45 : LQ) : Option (Int × LQ × LQ) :=
  bO (geti v44 (IntKind.wrap .i64 (a1 + a4))) fun q7 => bO (s_l28X q7.1 q7.2.1 q7.2.2.1 q7.2.2.2 a4) fun x41 => br x41 (bO (s_l14One 4 a4) fun x42 => bO (s_l28Do v43 v44 v45 x42.1 x42.2.1 x42.2.2.1 x42.2.2.2) fun x43 => bO (s_l14One 5 a4) fun x44 => bO (s_l28Do x43.1 x43.2.1 x43.2.2 x44.1 x44.2.1 x44.2.2.1 x44.2.2.2) fun x45 => bO (s_l14One 4 a4) fun x46 => bO (s_l28Do x45.1 x45.2.1 x45.2.2 x46.1 x46.2.1 x46.2.2.1 x46.2.2.2) fun x47 => s_l28Second_j13 a1 a4 x47.1 x47.2.1 x47.2.2) (s_l28Second_j13 a1 a4 v43 v44 v45)
def s_l28Second_l2 (a1 a4 : Int) : Nat → Int → (LQ) → (LQ) → Int → Option (Int × LQ × LQ)
  | 0, _, _, _, _ => none
  | n2 + 1, v36, v37, v38, v39 =>
  br (decide (v39 < a1)) (bO (geti v37 (IntKind.wrap .i64 (a1 + a4))) fun q6 => bO (s_l28Z q6.1 q6.2.1 q6.2.2.1 q6.2.2.2 v39) fun x38 => br x38 (bO (s_l14Cx v39 a4) fun x39 => bO (s_l28Do v36 v37 v38 x39.1 x39.2.1 x39.2.2.1 x39.2.2.2) fun x40 => s_l28Second_j12 v39 (s_l28Second_l2 a1 a4 n2) x40.1 x40.2.1 x40.2.2) (s_l28Second_j12 v39 (s_l28Second_l2 a1 a4 n2) v36 v37 v38)) (s_l28Second_j9 a1 a4 v36 v37 v38)
def s_l28Second_j2 (a1 a4 v22 : Int) (v23 : LQ) (v24 : LQ) : Option (Int × LQ × LQ) :=
  s_l28Second_l2 a1 a4 FU v22 v23 v24 (IntKind.wrap .i64 (a4 + 1))
def s_l28Second_l1 (a1 a4 : Int) : Nat → Int → (LQ) → (LQ) → Int → Option (Int × LQ × LQ)
  | 0, _, _, _, _ => none
  | n1 + 1, v14, v15, v16, v17 =>
  br (decide (v17 < a1)) (bO (geti v15 (IntKind.wrap .i64 (a1 + a4))) fun q3 => bO (s_l28X q3.1 q3.2.1 q3.2.2.1 q3.2.2.2 v17) fun x21 => bO (br x21 (bO (s_l28Z q3.1 q3.2.1 q3.2.2.1 q3.2.2.2 v17) fun x22 => some x22) (some false)) fun x23 => s_l28Second_j8 v14 v15 v16 v17 (s_l28Second_l1 a1 a4 n1) q3 x23) (s_l28Second_j2 a1 a4 v14 v15 v16)
def s_l28Second (a1 : Int) (a2 : LQ) (a3 : LQ) (a4 : Int) : Option (Int × LQ × LQ) :=
  s_l28Second_l1 a1 a4 FU a1 a2 a3 (IntKind.wrap .i64 (a4 + 1))
theorem s_l28Second_ok {a1 : Int} {a2 : LQ} {a3 : LQ} {a4 : Int} {r : Int × LQ × LQ} (h : s_l28Second a1 a2 a3 a4 = some r) :
    Spec Tryz.prog 96 [.ptr 0 0, .int .i64 a4] [.box 110 [.int .i64 a1, .sl (encL EIIII a2) a2.length, .own 1 a3.length], .row 79 4 (encL EIIII a3)] (.tup []) [.box 110 [.int .i64 r.1, .sl (encL EIIII r.2.1) r.2.1.length, .own 2 r.2.2.length], .gone, .row 79 4 (encL EIIII r.2.2)] := by
 unfold s_l28Second at h; refine SO Tryz.func96 rfl Tryz.ntmps96 fun C hN hρ => ?_; simp only [st0, tmps0, Nat.zero_add, Nat.reduceAdd]; refine AW_endK (fun S => ∃ (v52 : Int) (v53 : LQ) (v54 : LQ), S = ⟨mkT [], mkR [(0, .box 110 [.int .i64 v52, .sl (encL EIIII v53) v53.length, .own 32 v54.length]), (1, .gone), (32, .row 79 4 (encL EIIII v54))], 64⟩ ∧ s_l28Second_j1 v52 v53 v54 = some r) ?_ ?_
 ·refine AN hN ?_; refine AW_cutK (fun S => ∃ (v22 : Int) (v23 : LQ) (v24 : LQ), S = ⟨mkT [(0, .ptr 0 0), (1, .int .i64 a4), (4, .int .i64 a1)], mkR [(0, .box 110 [.int .i64 v22, .sl (encL EIIII v23) v23.length, .own 32 v24.length]), (1, .gone), (32, .row 79 4 (encL EIIII v24))], 64⟩ ∧ s_l28Second_j2 a1 a4 v22 v23 v24 = some r) ?_ ?_
  ·refine AN hN ?_; refine AW_block ?_; refine AW_loopF (fun n S => ∃ (v14 : Int) (v15 : LQ) (v16 : LQ) (v17 : Int), S = ⟨mkT [(0, .ptr 0 0), (1, .int .i64 a4), (4, .int .i64 a1), (5, .int .i64 v17)], mkR [(0, .box 110 [.int .i64 v14, .sl (encL EIIII v15) v15.length, .own 32 v16.length]), (1, .gone), (32, .row 79 4 (encL EIIII v16))], 64⟩ ∧ s_l28Second_l1 a1 a4 n v14 v15 v16 v17 = some r) FU ?_ ?_ ?_
   ·exact AC ⟨_, _, _, _, rfl, h⟩ [(0, some 0), (1, some 1), (32, some 1)] [] hρ
   ·rintro S ⟨_, _, _, _, _, h⟩; rw [s_l28Second_l1] at h; cases h
   ·rintro n1 S ⟨v14, v15, v16, v17, rfl, h⟩; rw [s_l28Second_l1] at h; refine AW_seq ?_; refine AN hN ?_; refine AB h (fun hc9 h => ?_) fun hc9 h => ?_
    ·refine AW_skip (AK ?_); refine AW_cutK (fun S => ∃ (v19 : Int) (v20 : LQ) (v21 : LQ), S = ⟨mkT [(0, .ptr 0 0), (1, .int .i64 a4), (4, .int .i64 a1), (5, .int .i64 v17)], mkR [(0, .box 110 [.int .i64 v19, .sl (encL EIIII v20) v20.length, .own 32 v21.length]), (1, .gone), (32, .row 79 4 (encL EIIII v21))], 64⟩ ∧ s_l28Second_j7 v17 (s_l28Second_l1 a1 a4 n1) v19 v20 v21 = some r) ?_ ?_
     ·refine AW_block ?_; refine AR hN fun K hK => ?_; obtain ⟨q3, h23, h⟩ := bO_inv h; obtain ⟨⟨h24a, h24b⟩, h24c⟩ := geti_E EIIIIl h23; (try simp only [EV, seval] at h24c); simp only [EV, seval, h24a, h24b, h24c]; refine hK _ _ _ ?_; clear hK K; refine AJ (fun S => ∃ (v18 : Bool), S = ⟨mkT [(0, .ptr 0 0), (1, .int .i64 a4), (4, .int .i64 a1), (5, .int .i64 v17), (6, .ptr 33 0), (37, .bool v18)], mkR [(0, .box 110 [.int .i64 v14, .sl (encL EIIII v15) v15.length, .own 32 v16.length]), (1, .gone), (32, .row 79 4 (encL EIIII v16)), (33, .box 34 [.int .i64 q3.1, .int .i64 q3.2.1, .int .i64 q3.2.2.1, .int .i64 q3.2.2.2])], 64⟩ ∧ s_l28Second_j8 v14 v15 v16 v17 (s_l28Second_l1 a1 a4 n1) q3 v18 = some r) hN ?_ ?_
      ·intro K hK; obtain ⟨x21, h25, h⟩ := bO_inv h; simp only [EV, seval]; refine CP (s_l28X_ok h25) ?_; obtain ⟨x23, hv3, h⟩ := bO_inv h; rcases br_inv hv3 with ⟨hc10, hv3⟩ | ⟨hc10, hv3⟩
       ·obtain ⟨x24, h27, hv3⟩ := bO_inv hv3; simp only [EV, seval, hc10]; refine rC_p (s_l28Z_ok h27) (by simp only [AL, EV, seval, hc10]) (le_d rfl) (no_j rfl) ?_; cases hv3; simp only [EV, seval, hc10]; refine hK _ _ _ (show cutK _ _ _ from cutL ⟨_, rfl, h⟩ (Le_can [(0, some 0), (1, some 1), (32, some 32), (33, some 1248)] [] hρ (by kernel_rfl) ?_ ?_))
        ·simp only [AL, EV, seval, hc10]
        ·simp only [AL, EV, seval, hc10]
       ·cases hv3; simp only [EV, seval, hc10]; refine hK _ _ _ (show cutK _ _ _ from cutL ⟨_, rfl, h⟩ (Le_can [(0, some 0), (1, some 1), (32, some 32), (33, some 1248)] [] hρ (by kernel_rfl) ?_ ?_))
        ·simp only [AL, EV, seval, hc10]
        ·simp only [AL, EV, seval, hc10]
      ·rintro S ⟨v18, rfl, h⟩; unfold s_l28Second_j8 at h; refine AW_condK (a := .bool v18) (by simp only [EV, seval, h24a, h24b, h24c]) (brK h (fun hc11 h => ?_) (fun hc11 h => ?_))
       ·refine AR hN fun K hK => ?_; obtain ⟨x25, h28, h⟩ := bO_inv h; simp only [EV, seval]; refine CP (s_l14One_ok h28) ?_; obtain ⟨x26, h29, h⟩ := bO_inv h; simp only [EV, seval]; refine rR_p [0, 32] (s_l28Do_ok h29) (by simp only [AL, EV, seval]) (by simp only [AL, EV, seval]) (by kernel_rfl) (by simp only [EV, solidO, List.mem_cons, List.not_mem_nil, or_false, forall_eq_or_imp, forall_eq, seval]) (le_d rfl) (le_d rfl) (site_1 (by simp only [EV, seval])) ?_; simp only [EV, seval]; refine hK _ _ _ ?_; clear hK K; refine AS hN fun K hK => ?_; obtain ⟨x27, h30, h⟩ := bO_inv h; simp only [EV, seval]; refine CP (s_l14One_ok h30) ?_; obtain ⟨x28, h31, h⟩ := bO_inv h; simp only [EV, seval]; refine rR_p [0, 112] (s_l28Do_ok h31) (by simp only [AL, EV, seval]) (by simp only [AL, EV, seval]) (by kernel_rfl) (by simp only [EV, solidO, List.mem_cons, List.not_mem_nil, or_false, forall_eq_or_imp, forall_eq, seval]) (le_d rfl) (le_d rfl) (site_1 (by simp only [EV, seval])) ?_; simp only [EV, seval]; exact hK _ _ _ (AC ⟨_, _, _, rfl, h⟩ [(0, some 0), (1, some 1), (32, some 1136)] [] hρ)
       ·obtain ⟨x29, h32, h⟩ := bO_inv h; refine AP hN (s_l28X_ok h32) ?_; refine AB h (fun hc12 h => ?_) fun hc12 h => ?_
        ·refine AS hN fun K hK => ?_; obtain ⟨x30, h33, h⟩ := bO_inv h; simp only [EV, seval]; refine CP (s_l14One_ok h33) ?_; obtain ⟨x31, h34, h⟩ := bO_inv h; simp only [EV, seval]; refine rR_p [0, 32] (s_l28Do_ok h34) (by simp only [AL, EV, seval]) (by simp only [AL, EV, seval]) (by kernel_rfl) (by simp only [EV, solidO, List.mem_cons, List.not_mem_nil, or_false, forall_eq_or_imp, forall_eq, seval]) (le_d rfl) (le_d rfl) (site_1 (by simp only [EV, seval])) ?_; simp only [EV, seval]; exact hK _ _ _ (AC ⟨_, _, _, rfl, h⟩ [(0, some 0), (1, some 1), (32, some 1136)] [] hρ)
        ·refine AW_skip (show cutK _ _ _ from cutL ⟨_, _, _, rfl, h⟩ (Le_can [(0, some 0), (1, some 1), (32, some 32)] [] hρ (by kernel_rfl) ?_ ?_))
         ·simp only [AL, EV, seval]
         ·simp only [AL, EV, seval]
     ·rintro S ⟨v19, v20, v21, rfl, h⟩; unfold s_l28Second_j7 at h; refine AS hN fun K hK => ?_; simp only [EV, seval]; exact hK _ _ _ (AC ⟨_, _, _, _, rfl, h⟩ [(0, some 0), (1, some 1), (32, some 32)] [] hρ)
    ·exact AW_exit (AC ⟨_, _, _, rfl, h⟩ [(0, some 0), (1, some 1), (32, some 32)] [] hρ)
  ·rintro S ⟨v22, v23, v24, rfl, h⟩; unfold s_l28Second_j2 at h; refine AW_cutK (fun S => ∃ (v43 : Int) (v44 : LQ) (v45 : LQ), S = ⟨mkT [(0, .ptr 0 0), (1, .int .i64 a4), (4, .int .i64 a1)], mkR [(0, .box 110 [.int .i64 v43, .sl (encL EIIII v44) v44.length, .own 32 v45.length]), (1, .gone), (32, .row 79 4 (encL EIIII v45))], 64⟩ ∧ s_l28Second_j9 a1 a4 v43 v44 v45 = some r) ?_ ?_
   ·refine AN hN ?_; refine AW_block ?_; refine AW_loopF (fun n S => ∃ (v36 : Int) (v37 : LQ) (v38 : LQ) (v39 : Int), S = ⟨mkT [(0, .ptr 0 0), (1, .int .i64 a4), (4, .int .i64 a1), (7, .int .i64 v39)], mkR [(0, .box 110 [.int .i64 v36, .sl (encL EIIII v37) v37.length, .own 32 v38.length]), (1, .gone), (32, .row 79 4 (encL EIIII v38))], 64⟩ ∧ s_l28Second_l2 a1 a4 n v36 v37 v38 v39 = some r) FU ?_ ?_ ?_
    ·exact AC ⟨_, _, _, _, rfl, h⟩ [(0, some 0), (1, some 1), (32, some 32)] [] hρ
    ·rintro S ⟨_, _, _, _, _, h⟩; rw [s_l28Second_l2] at h; cases h
    ·rintro n2 S ⟨v36, v37, v38, v39, rfl, h⟩; rw [s_l28Second_l2] at h; refine AW_seq ?_; refine AN hN ?_; refine AB h (fun hc17 h => ?_) fun hc17 h => ?_
     ·refine AW_skip (AK ?_); refine AW_cutK (fun S => ∃ (v40 : Int) (v41 : LQ) (v42 : LQ), S = ⟨mkT [(0, .ptr 0 0), (1, .int .i64 a4), (4, .int .i64 a1), (7, .int .i64 v39)], mkR [(0, .box 110 [.int .i64 v40, .sl (encL EIIII v41) v41.length, .own 32 v42.length]), (1, .gone), (32, .row 79 4 (encL EIIII v42))], 64⟩ ∧ s_l28Second_j12 v39 (s_l28Second_l2 a1 a4 n2) v40 v41 v42 = some r) ?_ ?_
      ·refine AW_block ?_; refine AR hN fun K hK => ?_; obtain ⟨q6, h45, h⟩ := bO_inv h; obtain ⟨⟨h46a, h46b⟩, h46c⟩ := geti_E EIIIIl h45; (try simp only [EV, seval] at h46c); obtain ⟨x38, h47, h⟩ := bO_inv h; simp only [EV, seval, h46a, h46b, h46c]; refine rC_p (s_l28Z_ok h47) (by simp only [AL, EV, seval, h46a, h46b, h46c]) (le_d rfl) (no_j rfl) ?_; simp only [EV, seval, h46a, h46b, h46c]; refine hK _ _ _ ?_; clear hK K; refine AW_condK (a := .bool x38) (by simp only [EV, seval, h46a, h46b, h46c]) (brK h (fun hc18 h => ?_) (fun hc18 h => ?_))
       ·refine AS hN fun K hK => ?_; obtain ⟨x39, h48, h⟩ := bO_inv h; simp only [EV, seval]; refine CP (s_l14Cx_ok h48) ?_; obtain ⟨x40, h49, h⟩ := bO_inv h; simp only [EV, seval]; refine rR_p [0, 32] (s_l28Do_ok h49) (by simp only [AL, EV, seval]) (by simp only [AL, EV, seval]) (by kernel_rfl) (by simp only [EV, solidO, List.mem_cons, List.not_mem_nil, or_false, forall_eq_or_imp, forall_eq, seval]) (le_d rfl) (le_d rfl) (site_1 (by simp only [EV, seval])) ?_; simp only [EV, seval]; exact hK _ _ _ (AC ⟨_, _, _, rfl, h⟩ [(0, some 0), (1, some 1), (32, some 2176)] [] hρ)
       ·refine AW_skip (show cutK _ _ _ from cutL ⟨_, _, _, rfl, h⟩ (Le_can [(0, some 0), (1, some 1), (32, some 32)] [] hρ (by kernel_rfl) ?_ ?_))
        ·simp only [AL, EV, seval, h46a, h46b, h46c]
        ·simp only [AL, EV, seval, h46a, h46b, h46c]
      ·rintro S ⟨v40, v41, v42, rfl, h⟩; unfold s_l28Second_j12 at h; refine AS hN fun K hK => ?_; simp only [EV, seval]; exact hK _ _ _ (AC ⟨_, _, _, _, rfl, h⟩ [(0, some 0), (1, some 1), (32, some 32)] [] hρ)
     ·exact AW_exit (AC ⟨_, _, _, rfl, h⟩ [(0, some 0), (1, some 1), (32, some 32)] [] hρ)
   ·rintro S ⟨v43, v44, v45, rfl, h⟩; unfold s_l28Second_j9 at h; refine AW_cutK (fun S => ∃ (v46 : Int) (v47 : LQ) (v48 : LQ), S = ⟨mkT [(0, .ptr 0 0), (1, .int .i64 a4), (4, .int .i64 a1)], mkR [(0, .box 110 [.int .i64 v46, .sl (encL EIIII v47) v47.length, .own 32 v48.length]), (1, .gone), (32, .row 79 4 (encL EIIII v48))], 64⟩ ∧ s_l28Second_j13 a1 a4 v46 v47 v48 = some r) ?_ ?_
    ·refine AR hN fun K hK => ?_; obtain ⟨q7, h50, h⟩ := bO_inv h; obtain ⟨⟨h51a, h51b⟩, h51c⟩ := geti_E EIIIIl h50; (try simp only [EV, seval] at h51c); obtain ⟨x41, h52, h⟩ := bO_inv h; simp only [EV, seval, h51a, h51b, h51c]; refine rC_p (s_l28X_ok h52) (by simp only [AL, EV, seval, h51a, h51b, h51c]) (le_d rfl) (no_j rfl) ?_; simp only [EV, seval, h51a, h51b, h51c]; refine hK _ _ _ ?_; clear hK K; refine AW_condK (a := .bool x41) (by simp only [EV, seval, h51a, h51b, h51c]) (brK h (fun hc19 h => ?_) (fun hc19 h => ?_))
     ·refine AR hN fun K hK => ?_; obtain ⟨x42, h53, h⟩ := bO_inv h; simp only [EV, seval]; refine CP (s_l14One_ok h53) ?_; obtain ⟨x43, h54, h⟩ := bO_inv h; simp only [EV, seval]; refine rR_p [0, 32] (s_l28Do_ok h54) (by simp only [AL, EV, seval]) (by simp only [AL, EV, seval]) (by kernel_rfl) (by simp only [EV, solidO, List.mem_cons, List.not_mem_nil, or_false, forall_eq_or_imp, forall_eq, seval]) (le_d rfl) (le_d rfl) (site_1 (by simp only [EV, seval])) ?_; simp only [EV, seval]; refine hK _ _ _ ?_; clear hK K; refine AR hN fun K hK => ?_; obtain ⟨x44, h55, h⟩ := bO_inv h; simp only [EV, seval]; refine CP (s_l14One_ok h55) ?_; obtain ⟨x45, h56, h⟩ := bO_inv h; simp only [EV, seval]; refine rR_p [0, 1136] (s_l28Do_ok h56) (by simp only [AL, EV, seval]) (by simp only [AL, EV, seval]) (by kernel_rfl) (by simp only [EV, solidO, List.mem_cons, List.not_mem_nil, or_false, forall_eq_or_imp, forall_eq, seval]) (le_d rfl) (le_d rfl) (site_1 (by simp only [EV, seval])) ?_; simp only [EV, seval]; refine hK _ _ _ ?_; clear hK K; refine AS hN fun K hK => ?_; obtain ⟨x46, h57, h⟩ := bO_inv h; simp only [EV, seval]; refine CP (s_l14One_ok h57) ?_; obtain ⟨x47, h58, h⟩ := bO_inv h; simp only [EV, seval]; refine rR_p [0, 2160] (s_l28Do_ok h58) (by simp only [AL, EV, seval]) (by simp only [AL, EV, seval]) (by kernel_rfl) (by simp only [EV, solidO, List.mem_cons, List.not_mem_nil, or_false, forall_eq_or_imp, forall_eq, seval]) (le_d rfl) (le_d rfl) (site_1 (by simp only [EV, seval])) ?_; simp only [EV, seval]; exact hK _ _ _ (AC ⟨_, _, _, rfl, h⟩ [(0, some 0), (1, some 1), (32, some 3184)] [] hρ)
     ·refine AW_skip (show cutK _ _ _ from cutL ⟨_, _, _, rfl, h⟩ (Le_can [(0, some 0), (1, some 1), (32, some 32)] [] hρ (by kernel_rfl) ?_ ?_))
      ·simp only [AL, EV, seval, h51a, h51b, h51c]
      ·simp only [AL, EV, seval, h51a, h51b, h51c]
    ·rintro S ⟨v46, v47, v48, rfl, h⟩; unfold s_l28Second_j13 at h; refine AW_cutK (fun S => ∃ (v49 : Int) (v50 : LQ) (v51 : LQ), S = ⟨mkT [(0, .ptr 0 0), (1, .int .i64 a4), (4, .int .i64 a1)], mkR [(0, .box 110 [.int .i64 v49, .sl (encL EIIII v50) v50.length, .own 32 v51.length]), (1, .gone), (32, .row 79 4 (encL EIIII v51))], 64⟩ ∧ s_l28Second_j14 a1 a4 v49 v50 v51 = some r) ?_ ?_
     ·refine AR hN fun K hK => ?_; obtain ⟨q8, h59, h⟩ := bO_inv h; obtain ⟨⟨h60a, h60b⟩, h60c⟩ := geti_E EIIIIl h59; (try simp only [EV, seval] at h60c); simp only [EV, seval, h60a, h60b, h60c]; refine hK _ _ _ ?_; clear hK K; refine AW_condK (a := .bool (q8.2.2.2 == 2)) (by simp only [EV, seval, h60a, h60b, h60c]) (brK h (fun hc20 h => ?_) (fun hc20 h => ?_))
      ·refine AS hN fun K hK => ?_; obtain ⟨x48, h61, h⟩ := bO_inv h; simp only [EV, seval]; refine CP (s_l14One_ok h61) ?_; obtain ⟨x49, h62, h⟩ := bO_inv h; simp only [EV, seval]; refine rR_p [0, 32] (s_l28Do_ok h62) (by simp only [AL, EV, seval]) (by simp only [AL, EV, seval]) (by kernel_rfl) (by simp only [EV, solidO, List.mem_cons, List.not_mem_nil, or_false, forall_eq_or_imp, forall_eq, seval]) (le_d rfl) (le_d rfl) (site_1 (by simp only [EV, seval])) ?_; simp only [EV, seval]; exact hK _ _ _ (AC ⟨_, _, _, rfl, h⟩ [(0, some 0), (1, some 1), (32, some 1136)] [] hρ)
      ·refine AW_skip (show cutK _ _ _ from cutL ⟨_, _, _, rfl, h⟩ (Le_can [(0, some 0), (1, some 1), (32, some 32)] [] hρ (by kernel_rfl) ?_ ?_))
       ·simp only [AL, EV, seval, h60a, h60b, h60c]
       ·simp only [AL, EV, seval, h60a, h60b, h60c]
     ·rintro S ⟨v49, v50, v51, rfl, h⟩; unfold s_l28Second_j14 at h; refine AR hN fun K hK => ?_; obtain ⟨q9, h63, h⟩ := bO_inv h; obtain ⟨⟨h64a, h64b⟩, h64c⟩ := geti_E EIIIIl h63; (try simp only [EV, seval] at h64c); simp only [EV, seval, h64a, h64b, h64c]; refine hK _ _ _ ?_; clear hK K; refine AW_condK (a := .bool (q9.2.2.2 == 2)) (by simp only [EV, seval, h64a, h64b, h64c]) (brK h (fun hc21 h => ?_) (fun hc21 h => ?_))
      ·refine AS hN fun K hK => ?_; obtain ⟨x50, h65, h⟩ := bO_inv h; simp only [EV, seval]; refine CP (s_l14One_ok h65) ?_; obtain ⟨x51, h66, h⟩ := bO_inv h; simp only [EV, seval]; refine rR_p [0, 32] (s_l28Do_ok h66) (by simp only [AL, EV, seval]) (by simp only [AL, EV, seval]) (by kernel_rfl) (by simp only [EV, solidO, List.mem_cons, List.not_mem_nil, or_false, forall_eq_or_imp, forall_eq, seval]) (le_d rfl) (le_d rfl) (site_1 (by simp only [EV, seval])) ?_; simp only [EV, seval]; exact hK _ _ _ (AC ⟨_, _, _, rfl, h⟩ [(0, some 0), (1, some 1), (32, some 1136)] [] hρ)
      ·refine AW_skip (show cutK _ _ _ from cutL ⟨_, _, _, rfl, h⟩ (Le_can [(0, some 0), (1, some 1), (32, some 32)] [] hρ (by kernel_rfl) ?_ ?_))
       ·simp only [AL, EV, seval, h64a, h64b, h64c]
       ·simp only [AL, EV, seval, h64a, h64b, h64c]
 ·rintro S ⟨v52, v53, v54, rfl, h⟩; unfold s_l28Second_j1 at h; injection h with h; subst h; refine ⟨_, Le_can (lt := []) (lr := [(0, .box 110 [.int .i64 v52, .sl (encL EIIII v53) v53.length, .own 32 v54.length]), (1, .gone), (32, .row 79 4 (encL EIIII v54))]) (b' := 64) [(0, some 0), (1, some 1), (32, some 32)] [] hρ (by kernel_rfl) ?_ ?_, end_q [0, 1, 32] (.inl rfl) (by kernel_rfl) (by kernel_rfl) ?_⟩
  ·simp only [AL, EV, seval]
  ·simp only [AL, EV, seval]
  ·simp only [EV, Tryz.results96, seval]
/- spec.ReduceTableau -/
def s_ReduceTableau_j1 (v13 : Int) (v14 : LQ) (v15 : LQ) : Option (LQ × Bool) :=
  gd (decide (([] : LQ).length + v15.length ≤ 16777216)) (some (v15, true))
def s_ReduceTableau_l1 (a1 : Int) : Nat → Int → Int → (LQ) → (LQ) → Option (LQ × Bool)
  | 0, _, _, _, _ => none
  | n1 + 1, v9, v10, v11, v12 =>
  br (decide (v9 < a1)) (bO (s_l28First v10 v11 v12 v9) fun x7 => bO (s_l28Second x7.1 x7.2.1 x7.2.2 v9) fun x8 => (s_ReduceTableau_l1 a1 n1) (IntKind.wrap .i64 (v9 + 1)) x8.1 x8.2.1 x8.2.2) (s_ReduceTableau_j1 v10 v11 v12)
def s_ReduceTableau (a1 : Int) (a2 : LQ) : Option (LQ × Bool) :=
  bO (s_IsValidTableau a1 a2) fun x1 => br (!x1) (some ([], false)) (bO (s_l26Copy a1 a2) fun x2 => s_ReduceTableau_l1 a1 FU 0 x2.1 x2.2 ([] : LQ))
theorem s_ReduceTableau_ok {a1 : Int} {a2 : LQ} {r : LQ × Bool} (h : s_ReduceTableau a1 a2 = some r) :
    Spec Tryz.prog 45 [.agg [.int .i64 a1, .sl (encL EIIII a2) a2.length]] [] (.tup [.own 0 r.1.length, .bool r.2]) [.row 79 4 (encL EIIII r.1)] := by
 unfold s_ReduceTableau at h; refine SO Tryz.func45 rfl Tryz.ntmps45 fun C hN hρ => ?_; simp only [st0, tmps0, Nat.zero_add, Nat.reduceAdd]; refine AN hN ?_; refine AW_seq ?_; obtain ⟨x1, h1, h⟩ := bO_inv h; refine AP hN (s_IsValidTableau_ok h1) ?_; refine AB h (fun hc1 h => ?_) fun hc1 h => ?_
 ·refine AN hN ?_; injection h with h; subst h; exact AX (b' := 64) [(2, .own 32 0), (3, .bool false)] [(32, .row 79 4 (encL EIIII ([])))] [(32, some 2112)] [] hρ (EQ [32])
 ·refine AW_skip (AK ?_); refine AR hN fun K hK => ?_; obtain ⟨x2, h2, h⟩ := bO_inv h; simp only [EV, seval]; refine rC_p (s_l26Copy_ok h2) (by simp only [AL, EV, seval]) (le_d rfl) (site_1 (by simp only [EV, seval])) ?_; simp only [EV, seval]; refine hK _ _ _ ?_; clear hK K; refine AW_cutK (fun S => ∃ (v13 : Int) (v14 : LQ) (v15 : LQ), S = ⟨mkT [(4, .ptr 32 0)], mkR [(32, .box 110 [.int .i64 v13, .sl (encL EIIII v14) v14.length, .own 33 v15.length]), (33, .row 79 4 (encL EIIII v15))], 64⟩ ∧ s_ReduceTableau_j1 v13 v14 v15 = some r) ?_ ?_
  ·refine AN hN ?_; refine AW_block ?_; refine AW_loopF (fun n S => ∃ (v9 v10 : Int) (v11 : LQ) (v12 : LQ), S = ⟨mkT [(1, .ptr 32 0), (4, .ptr 33 0), (5, .int .i64 v9)], mkR [(32, .box 26 [.int .i64 a1, .sl (encL EIIII a2) a2.length]), (33, .box 110 [.int .i64 v10, .sl (encL EIIII v11) v11.length, .own 34 v12.length]), (34, .row 79 4 (encL EIIII v12))], 64⟩ ∧ s_ReduceTableau_l1 a1 n v9 v10 v11 v12 = some r) FU ?_ ?_ ?_
   ·exact AC ⟨_, _, _, _, rfl, h⟩ [(32, some 64), (33, some 2160), (34, none)] [2128] hρ
   ·rintro S ⟨_, _, _, _, _, h⟩; rw [s_ReduceTableau_l1] at h; cases h
   ·rintro n1 S ⟨v9, v10, v11, v12, rfl, h⟩; rw [s_ReduceTableau_l1] at h; refine AW_seq ?_; refine AN hN ?_; refine AB h (fun hc4 h => ?_) fun hc4 h => ?_
    ·refine AW_skip (AK ?_); refine AW_seq ?_; refine AW_block ?_; refine AR hN fun K hK => ?_; obtain ⟨x7, h7, h⟩ := bO_inv h; simp only [EV, seval]; refine rR_p [33, 34] (s_l28First_ok h7) (by simp only [AL, EV, seval]) (by simp only [AL, EV, seval]) (by kernel_rfl) (by simp only [EV, solidO, List.mem_cons, List.not_mem_nil, or_false, forall_eq_or_imp, forall_eq, seval]) (le_d rfl) (le_d rfl) (site_1 (by simp only [EV, seval])) ?_; simp only [EV, seval]; refine hK _ _ _ ?_; clear hK K; refine AS hN fun K hK => ?_; obtain ⟨x8, h8, h⟩ := bO_inv h; simp only [EV, seval]; refine rR_p [33, 1120] (s_l28Second_ok h8) (by simp only [AL, EV, seval]) (by simp only [AL, EV, seval]) (by kernel_rfl) (by simp only [EV, solidO, List.mem_cons, List.not_mem_nil, or_false, forall_eq_or_imp, forall_eq, seval]) (le_d rfl) (le_d rfl) (site_1 (by simp only [EV, seval])) ?_; simp only [EV, seval]; refine hK _ _ _ (show AW _ _ _ _ _ from ?_); refine AS hN fun K hK => ?_; simp only [EV, seval]; exact hK _ _ _ (AC ⟨_, _, _, _, rfl, h⟩ [(32, some 32), (33, some 33), (34, some 2144)] [] hρ)
    ·exact AW_exit (AC ⟨_, _, _, rfl, h⟩ [(32, some 33), (33, some 34)] [] hρ)
  ·rintro S ⟨v13, v14, v15, rfl, h⟩; unfold s_ReduceTableau_j1 at h; refine AR hN fun K hK => ?_; obtain ⟨h9, h⟩ := gd_inv h; replace h9 := of_decide_eq_true h9; (try simp only [EV, seval] at h9); simp only [EV, seval, h9]; refine hK _ _ _ ?_; clear hK K; injection h with h; subst h; refine AW_le (Le_can (lt := [(2, .own 32 v15.length), (3, .bool true)]) (lr := [(32, .row 79 4 (encL EIIII v15))]) (b' := 64) [(32, some 144)] [] hρ (by kernel_rfl) ?_ ?_) (AW_ret (end_q [32] (.inr rfl) (by kernel_rfl) (by kernel_rfl) ?_))
   ·simp only [AL, EV, seval, h9]
   ·simp only [AL, EV, seval, h9]
   ·simp only [EV, Tryz.results45, seval]
end Go.Proofs.YtfoiedjjhgpcpaaGreat
