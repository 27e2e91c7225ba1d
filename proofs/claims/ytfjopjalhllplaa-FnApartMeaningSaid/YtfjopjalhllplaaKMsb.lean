/- Models of functions, and that the functions do what the models say; printed by a program. -/
import Derived.Test.YtfjopjalhllplaaK1
import Derived.Test.YtfjopjalhllplaaKMa
import Derived.Test.YtfjopjalhllplaaK6
namespace Go.Proofs.Ytfjopjalhllplaa
open Go.RowKit
set_option maxRecDepth 100000
set_option linter.unusedVariables false
set_option linter.unusedSimpArgs false
set_option linter.defProp false
set_option maxHeartbeats 4000000
/- spec.InitialBranch -/
def s_InitialBranch_j2 (v6 : List (LF)) : Option (Int × List (LF)) :=
  some (0, v6)
def s_InitialBranch_l1 (a1 a2 : Int) : Nat → Int → (List (LF)) → Option (Int × List (LF))
  | 0, _, _ => none
  | n1 + 1, v4, v5 =>
  gd (decide (¬ (IntKind.wrap .u64 a2) < 0)) (br (decide (v4 < (IntKind.wrap .i64 (1 * 2 ^ min (Int.toNat (IntKind.wrap .u64 a2)) (IntKind.bits .i64))))) (bO (s_BasisState a1 v4) fun x7 => gd (decide (v5.length + ([x7]).length ≤ 16777216)) ((s_InitialBranch_l1 a1 a2 n1) (IntKind.wrap .i64 (v4 + 1)) (v5 ++ ([x7])))) (s_InitialBranch_j2 v5))
def s_InitialBranch_j1 (a1 a2 : Int) (v1 : Bool) : Option (Int × List (LF)) :=
  br v1 (some (0, [])) (s_InitialBranch_l1 a1 a2 FU 0 ([] : List (LF)))
def s_InitialBranch (a1 a2 : Int) : Option (Int × List (LF)) :=
  bO (s_l1In a1 1 4) fun x1 => bO (br (!x1) (some true) (bO (s_l1In a2 1 a1) fun x2 => some (!x2))) fun x3 => s_InitialBranch_j1 a1 a2 x3
theorem s_InitialBranch_ok {a1 a2 : Int} {r : Int × List (LF)} (h : s_InitialBranch a1 a2 = some r) :
    Spec Try.prog 39 [.int .i64 a1, .int .i64 a2] [] (.agg [.int .i64 r.1, .own 0 r.2.length]) [.row 39 1 (encL ELIIIIIE r.2)] := by
 unfold s_InitialBranch at h; refine SO Try.func39 rfl Try.ntmps39 fun C hN hρ => ?_; simp only [st0, tmps0, Nat.zero_add, Nat.reduceAdd]; refine AN hN ?_; refine AN hN ?_; refine AW_seq ?_; refine AJ (fun S => ∃ (v1 : Bool), S = ⟨mkT [(0, .int .i64 a1), (1, .int .i64 a2), (4, .ptr 32 0), (5, .ptr 33 0), (16, .bool v1)], mkR [(32, .box 38 [.int .i64 0, .nil]), (33, .box 38 [.int .i64 0, .nil])], 64⟩ ∧ s_InitialBranch_j1 a1 a2 v1 = some r) hN ?_ ?_
 ·intro K hK; obtain ⟨x1, h1, h⟩ := bO_inv h; simp only [EV, seval]; refine CP (s_l1In_ok h1) ?_; obtain ⟨x3, hv1, h⟩ := bO_inv h; rcases br_inv hv1 with ⟨hc1, hv1⟩ | ⟨hc1, hv1⟩
  ·cases hv1; simp only [EV, seval, hc1]; refine hK _ _ _ (show cutK _ _ _ from cutL ⟨_, rfl, h⟩ (Le_can [(32, some 64), (33, some 1104)] [] hρ (by kernel_rfl) ?_ ?_))
   ·simp only [AL, EV, seval, hc1]
   ·simp only [AL, EV, seval, hc1]
  ·obtain ⟨x4, h3, hv1⟩ := bO_inv hv1; simp only [EV, seval, hc1]; refine rC_p (s_l1In_ok h3) (by simp only [AL, EV, seval, hc1]) (le_d rfl) (no_j rfl) ?_; cases hv1; simp only [EV, seval, hc1]; refine hK _ _ _ (show cutK _ _ _ from cutL ⟨_, rfl, h⟩ (Le_can [(32, some 64), (33, some 1104)] [] hρ (by kernel_rfl) ?_ ?_))
   ·simp only [AL, EV, seval, hc1]
   ·simp only [AL, EV, seval, hc1]
 ·rintro S ⟨v1, rfl, h⟩; unfold s_InitialBranch_j1 at h; refine AB h (fun hc2 h => ?_) fun hc2 h => ?_
  ·refine AN hN ?_; injection h with h; subst h; exact AX (b' := 64) [(4, .ptr 32 0)] [(32, .box 38 [.int .i64 0, .own 33 0]), (33, .row 39 1 (encL ELIIIIIE ([])))] [(32, some 32), (33, none)] [] hρ (EQ [33])
  ·refine AW_skip (AK ?_); refine AW_cutK (fun S => ∃ (v6 : List (LF)), S = ⟨mkT [(4, .ptr 32 0), (5, .ptr 33 0)], mkR [(32, .box 38 [.int .i64 0, .nil]), (33, .box 38 [.int .i64 0, .own 34 v6.length]), (34, .row 39 1 (encL ELIIIIIE v6))], 64⟩ ∧ s_InitialBranch_j2 v6 = some r) ?_ ?_
   ·refine AN hN ?_; refine AW_block ?_; refine AW_loopF (fun n S => ∃ (v4 : Int) (v5 : List (LF)), S = ⟨mkT [(0, .int .i64 a1), (1, .int .i64 a2), (4, .ptr 32 0), (5, .ptr 33 0), (6, .int .i64 v4)], mkR [(32, .box 38 [.int .i64 0, .nil]), (33, .box 38 [.int .i64 0, .own 34 v5.length]), (34, .row 39 1 (encL ELIIIIIE v5))], 64⟩ ∧ s_InitialBranch_l1 a1 a2 n v4 v5 = some r) FU ?_ ?_ ?_
    ·exact AC ⟨_, _, rfl, h⟩ [(32, some 32), (33, some 33), (34, none)] [] hρ
    ·rintro S ⟨_, _, _, h⟩; rw [s_InitialBranch_l1] at h; cases h
    ·rintro n1 S ⟨v4, v5, rfl, h⟩; rw [s_InitialBranch_l1] at h; refine AW_seq ?_; refine AR hN fun K hK => ?_; obtain ⟨h10, h⟩ := gd_inv h; replace h10 := of_decide_eq_true h10; simp only [EV, seval, h10]; refine hK _ _ _ ?_; clear hK K; refine AW_condK (a := .bool (decide (v4 < (IntKind.wrap .i64 (1 * 2 ^ min (Int.toNat (IntKind.wrap .u64 a2)) (IntKind.bits .i64)))))) (by simp only [EV, seval, h10]) (brK h (fun hc5 h => ?_) (fun hc5 h => ?_))
     ·refine AW_skip (AK ?_); refine AW_seq ?_; refine AW_block ?_; refine AS hN fun K hK => ?_; obtain ⟨x7, h11, h⟩ := bO_inv h; simp only [EV, seval]; refine rC_p (Spec.can (ret2 := .sl (encL EIIIII x7) x7.length) (mem2 := []) (s_BasisState_ok h11) [] [0] (by kernel_rfl) (by simp only [AL, EV, seval]) (by simp only [AL, EV, seval])) (by simp only [AL, EV, seval]) (le_d rfl) (no_j rfl) ?_; obtain ⟨h12, h⟩ := gd_inv h; replace h12 := of_decide_eq_true h12; (try simp only [EV, seval] at h12); simp only [EV, seval, h12]; refine hK _ _ _ (show AW _ _ _ _ _ from ?_); refine AS hN fun K hK => ?_; simp only [EV, seval]; exact hK _ _ _ (AC ⟨_, _, rfl, h⟩ [(32, some 32), (33, some 33), (34, some 1184)] [] hρ)
     ·refine AW_exit (show cutK _ _ _ from cutL ⟨_, rfl, h⟩ (Le_can [(32, some 32), (33, some 33), (34, some 34)] [] hρ (by kernel_rfl) ?_ ?_))
      ·simp only [AL, EV, seval, h10]
      ·simp only [AL, EV, seval, h10]
   ·rintro S ⟨v6, rfl, h⟩; unfold s_InitialBranch_j2 at h; refine AN hN ?_; injection h with h; subst h; exact AX (b' := 64) [(4, .ptr 32 0)] [(32, .box 38 [.int .i64 0, .own 33 v6.length]), (33, .row 39 1 (encL ELIIIIIE v6))] [(32, some 32), (33, some 34)] [] hρ (EQ [33])
/- spec.l23Side -/
def s_l23Side_j4 (v10 : Int) (kl1 : Bool → Int → (LF) → Option (LF × Bool)) (v12 : Bool) (v13 : LF) : Option (LF × Bool) :=
  kl1 v12 (IntKind.wrap .i64 (v10 + 1)) v13
def s_l23Side_j1 (v14 : Bool) (v15 : LF) : Option (LF × Bool) :=
  some (v15, v14)
def s_l23Side_l1 (a1 : LF) (a2 a3 : Int) : Nat → Bool → Int → (LF) → Option (LF × Bool)
  | 0, _, _, _ => none
  | n1 + 1, v9, v10, v11 =>
  br (decide (v10 < ((a1.length : Int)))) (gd (decide (¬ (IntKind.wrap .u64 a2) < 0)) (br ((bits .and .i64 (Int.fdiv v10 (2 ^ min (Int.toNat (IntKind.wrap .u64 a2)) (IntKind.bits .i64))) 1) == a3) (bO (geti a1 v10) fun q5 => bO (geti v11 v10) fun q6 => bO (br v9 (some true) (some (!((q5.1 == 0) && ((q5.2.1 == 0) && ((q5.2.2.1 == 0) && ((q5.2.2.2.1 == 0) && (q5.2.2.2.2 == 0)))))))) fun x2 => s_l23Side_j4 v10 (s_l23Side_l1 a1 a2 a3 n1) x2 (v11.set (Int.toNat v10) ((q5.1, q5.2.1, q5.2.2.1, q5.2.2.2.1, q5.2.2.2.2)))) (s_l23Side_j4 v10 (s_l23Side_l1 a1 a2 a3 n1) v9 v11))) (s_l23Side_j1 v9 v11)
def s_l23Side (a1 : LF) (a2 a3 : Int) : Option (LF × Bool) :=
  gd (decide (0 ≤ (a1.length : Int) ∧ (a1.length : Int) ≤ 1048576)) (s_l23Side_l1 a1 a2 a3 FU false 0 (List.replicate (Int.toNat ((a1.length : Int))) ((0, 0, 0, 0, 0) : Int × Int × Int × Int × Int)))
theorem s_l23Side_ok {a1 : LF} {a2 a3 : Int} {r : LF × Bool} (h : s_l23Side a1 a2 a3 = some r) :
    Spec Try.prog 61 [.sl (encL EIIIII a1) a1.length, .int .i64 a2, .int .i64 a3] [] (.tup [.own 0 r.1.length, .bool r.2]) [.row 45 5 (encL EIIIII r.1)] := by
 unfold s_l23Side at h; refine SO Try.func61 rfl Try.ntmps61 fun C hN hρ => ?_; simp only [st0, tmps0, Nat.zero_add, Nat.reduceAdd]; refine AN hN ?_; refine AR hN fun K hK => ?_; obtain ⟨h1, h⟩ := gd_inv h; replace h1 := of_decide_eq_true h1; have h2 := zrow_enc (e := EIIIII) ((0, 0, 0, 0, 0)) (Int.toNat ((a1.length : Int))); simp only [EN] at h2; have h3 : (List.replicate (Int.toNat ((a1.length : Int))) ((0, 0, 0, 0, 0) : Int × Int × Int × Int × Int)).length = Int.toNat ((a1.length : Int)) := List.length_replicate; simp only [EV, seval, h1, h2, h3]; refine hK _ _ _ ?_; clear hK K; refine AN hN ?_; refine AW_cutK (fun S => ∃ (v14 : Bool) (v15 : LF), S = ⟨mkT [(8, .own 32 v15.length), (9, .bool v14)], mkR [(32, .row 45 5 (encL EIIIII v15))], 64⟩ ∧ s_l23Side_j1 v14 v15 = some r) ?_ ?_
 ·refine AN hN ?_; refine AW_block ?_; refine AW_loopF (fun n S => ∃ (v9 : Bool) (v10 : Int) (v11 : LF), S = ⟨mkT [(0, .sl (encL EIIIII a1) a1.length), (1, .int .i64 a2), (2, .int .i64 a3), (8, .own 32 v11.length), (9, .bool v9), (10, .int .i64 v10)], mkR [(32, .row 45 5 (encL EIIIII v11))], 64⟩ ∧ s_l23Side_l1 a1 a2 a3 n v9 v10 v11 = some r) FU ?_ ?_ ?_
  ·exact AC ⟨_, _, _, rfl, h⟩ [(32, some 1120)] [] hρ
  ·rintro S ⟨_, _, _, _, h⟩; rw [s_l23Side_l1] at h; cases h
  ·rintro n1 S ⟨v9, v10, v11, rfl, h⟩; rw [s_l23Side_l1] at h; refine AW_seq ?_; refine AN hN ?_; refine AB h (fun hc6 h => ?_) fun hc6 h => ?_
   ·refine AW_skip (AK ?_); refine AW_cutK (fun S => ∃ (v12 : Bool) (v13 : LF), S = ⟨mkT [(0, .sl (encL EIIIII a1) a1.length), (1, .int .i64 a2), (2, .int .i64 a3), (8, .own 32 v13.length), (9, .bool v12), (10, .int .i64 v10)], mkR [(32, .row 45 5 (encL EIIIII v13))], 64⟩ ∧ s_l23Side_j4 v10 (s_l23Side_l1 a1 a2 a3 n1) v12 v13 = some r) ?_ ?_
    ·refine AW_block ?_; refine AR hN fun K hK => ?_; obtain ⟨h16, h⟩ := gd_inv h; replace h16 := of_decide_eq_true h16; simp only [EV, seval, h16]; refine hK _ _ _ ?_; clear hK K; refine AW_condK (a := .bool ((bits .and .i64 (Int.fdiv v10 (2 ^ min (Int.toNat (IntKind.wrap .u64 a2)) (IntKind.bits .i64))) 1) == a3)) (by simp only [EV, seval, h16]) (brK h (fun hc7 h => ?_) (fun hc7 h => ?_))
     ·refine AR hN fun K hK => ?_; obtain ⟨q5, h17, h⟩ := bO_inv h; obtain ⟨⟨h18a, h18b⟩, h18c⟩ := geti_E EIIIIIl h17; (try simp only [EV, seval] at h18c); obtain ⟨q6, h19, h⟩ := bO_inv h; obtain ⟨⟨h20a, h20b⟩, h20c⟩ := geti_E EIIIIIl h19; (try simp only [EV, seval] at h20c); have h21 := set_E EIIIIIl ((q5.1, q5.2.1, q5.2.2.1, q5.2.2.2.1, q5.2.2.2.2)) 0 [.int .i64 q5.1, .int .i64 q5.2.1, .int .i64 q5.2.2.1, .int .i64 q5.2.2.2.1, .int .i64 q5.2.2.2.2] h19 (Nat.le_of_ble_eq_true rfl) rfl; obtain ⟨h21a, h21b⟩ := h21; (try simp only [EV, seval] at h21a); (try simp only [EV, seval] at h21b); simp only [EV, seval, h18a, h18b, h18c, h20a, h20b, h20c, h21a, h21b]; refine hK _ _ _ ?_; clear hK K; refine AS hN fun K hK => ?_; obtain ⟨x2, hv2, h⟩ := bO_inv h; rcases br_inv hv2 with ⟨hc8, hv2⟩ | ⟨hc8, hv2⟩
      ·cases hv2; simp only [EV, seval, hc8]; refine hK _ _ _ (show cutK _ _ _ from cutL ⟨_, _, rfl, h⟩ (Le_can [(32, some 32)] [] hρ (by kernel_rfl) ?_ ?_))
       ·simp only [AL, EV, seval, hc8]
       ·simp only [AL, EV, seval, hc8]
      ·cases hv2; simp only [EV, seval, hc8, h18a, h18b, h18c]; refine hK _ _ _ (show cutK _ _ _ from cutL ⟨_, _, rfl, h⟩ (Le_can [(32, some 32)] [] hρ (by kernel_rfl) ?_ ?_))
       ·simp only [AL, EV, seval, hc8, h18a, h18b, h18c]
       ·simp only [AL, EV, seval, hc8, h18a, h18b, h18c]
     ·refine AW_skip (show cutK _ _ _ from cutL ⟨_, _, rfl, h⟩ (Le_can [(32, some 32)] [] hρ (by kernel_rfl) ?_ ?_))
      ·simp only [AL, EV, seval, h16]
      ·simp only [AL, EV, seval, h16]
    ·rintro S ⟨v12, v13, rfl, h⟩; unfold s_l23Side_j4 at h; refine AS hN fun K hK => ?_; simp only [EV, seval]; exact hK _ _ _ (AC ⟨_, _, _, rfl, h⟩ [(32, some 32)] [] hρ)
   ·exact AW_exit (AC ⟨_, _, rfl, h⟩ [(32, some 32)] [] hρ)
 ·rintro S ⟨v14, v15, rfl, h⟩; unfold s_l23Side_j1 at h; refine AN hN ?_; injection h with h; subst h; exact AX (b' := 64) [(6, .own 32 v15.length), (7, .bool v14)] [(32, .row 45 5 (encL EIIIII v15))] [(32, some 32)] [] hρ (EQ [32])
end Go.Proofs.Ytfjopjalhllplaa
