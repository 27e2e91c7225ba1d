/- Models of functions, and that the functions do what the models say; printed by a program. -/
import Derived.Test.YtplbdmigbakmlaaK1
import Derived.Test.YtplbdmigbakmlaaK2
namespace Go.Proofs.Ytplbdmigbakmlaa
open Go.RowKit
set_option maxRecDepth 100000
set_option linter.unusedVariables false
set_option linter.unusedSimpArgs false
set_option linter.defProp false
set_option maxHeartbeats 4000000
/- impl.StabilizerMeasureZ -/
def i_StabilizerMeasureZ_j20 (v80 : Int) (kl5 : Int → Int → Int → Int → Int → Option (Int × Bool)) (v85 : Int) (v86 : Int) (v87 : Int) (v88 : Int) : Option (Int × Bool) :=
  kl5 (IntKind.wrap .i64 (v80 + 1)) v85 v86 v87 v88
def i_StabilizerMeasureZ_j16 (v66 : Int) (kl4 : Int → Option (Int × Bool)) : Option (Int × Bool) :=
  kl4 (IntKind.wrap .i64 (v66 + 1))
def i_StabilizerMeasureZ_j21 (v66 : Int) (kl4 : Int → Option (Int × Bool)) (v92 : Int) (v93 : Bool) : Option (Int × Bool) :=
  br v93 (some (IntKind.wrap .i64 (Int.tdiv v92 2), true)) (i_StabilizerMeasureZ_j16 v66 kl4)
def i_StabilizerMeasureZ_j17 (v10 : Int) (v66 : Int) (kl4 : Int → Option (Int × Bool)) (v89 : Int) (v90 : Int) (v91 : Int) (v92 : Int) : Option (Int × Bool) :=
  bO (br (v90 == 0) (some (v91 == v10)) (some false)) fun x19 => i_StabilizerMeasureZ_j21 v66 kl4 v92 x19
def i_StabilizerMeasureZ_l6 (a1 : Int) (a2 : LQ) (v10 : Int) (v66 : Int) (kl4 : Int → Option (Int × Bool)) : Nat → Int → Int → Int → Int → Int → Option (Int × Bool)
  | 0, _, _, _, _, _ => none
  | n5 + 1, v80, v81, v82, v83, v84 =>
  br (decide (v80 < a1)) (gd (decide (¬ v80 < 0)) (br ((bits .and .i64 (Int.fdiv v66 (2 ^ min (Int.toNat v80) (IntKind.bits .i64))) 1) == 1) (bO (geti a2 (IntKind.wrap .i64 (a1 + v80))) fun q12 => bO (i_MulPauli v81 v82 v83 v84 q12.1 q12.2.1 q12.2.2.1 q12.2.2.2) fun x18 => i_StabilizerMeasureZ_j20 v80 (i_StabilizerMeasureZ_l6 a1 a2 v10 v66 kl4 n5) x18.1 x18.2.1 x18.2.2.1 x18.2.2.2.1) (i_StabilizerMeasureZ_j20 v80 (i_StabilizerMeasureZ_l6 a1 a2 v10 v66 kl4 n5) v81 v82 v83 v84))) (i_StabilizerMeasureZ_j17 v10 v66 kl4 v81 v82 v83 v84)
def i_StabilizerMeasureZ_j3 : Option (Int × Bool) :=
  some (0, false)
def i_StabilizerMeasureZ_l3 (a1 : Int) (a2 : LQ) (v10 : Int) : Nat → Int → Option (Int × Bool)
  | 0, _ => none
  | n4 + 1, v66 =>
  gd (decide (¬ a1 < 0)) (br (decide (v66 < (IntKind.wrap .i64 (1 * 2 ^ min (Int.toNat a1) (IntKind.bits .i64))))) (i_StabilizerMeasureZ_l6 a1 a2 v10 v66 (i_StabilizerMeasureZ_l3 a1 a2 v10 n4) FU 0 a1 0 0 0) (i_StabilizerMeasureZ_j3))
def i_StabilizerMeasureZ_j2 (a1 : Int) (a2 : LQ) (v10 : Int) : Option (Int × Bool) :=
  i_StabilizerMeasureZ_l3 a1 a2 v10 FU 0
def i_StabilizerMeasureZ_l2 (a1 : Int) (a2 : LQ) (l1 : LQ) : Nat → Int → Int → Int → Option (Int × Bool)
  | 0, _, _, _ => none
  | n1 + 1, v7, v8, v9 =>
  br (decide (v8 < v7)) (bO (geti l1 v8) fun q3 => bO (i_PaulisCommute q3.1 q3.2.1 q3.2.2.1 q3.2.2.2 a1 0 v9 0) fun x7 => br (!x7) (some (0, false)) ((i_StabilizerMeasureZ_l2 a1 a2 l1 n1) v7 (IntKind.wrap .i64 (v8 + 1)) v9)) (i_StabilizerMeasureZ_j2 a1 a2 v9)
def i_StabilizerMeasureZ_j1 (a1 : Int) (a2 : LQ) (a3 : Int) (v1 : Bool) : Option (Int × Bool) :=
  br v1 (some (0, false)) (gd (decide (¬ a3 < 0)) (bO (slc a2 a1 ((a2.length : Int))) fun l1 => i_StabilizerMeasureZ_l2 a1 a2 l1 FU ((l1.length : Int)) 0 (IntKind.wrap .i64 (1 * 2 ^ min (Int.toNat a3) (IntKind.bits .i64)))))
def i_StabilizerMeasureZ (a1 : Int) (a2 : LQ) (a3 : Int) : Option (Int × Bool) :=
  bO (i_IsValidTableau a1 a2) fun x1 => bO (br (!x1) (some true) (bO (i_in a3 0 (IntKind.wrap .i64 (a1 - 1))) fun x2 => some (!x2))) fun x3 => i_StabilizerMeasureZ_j1 a1 a2 a3 x3
theorem i_StabilizerMeasureZ_ok {a1 : Int} {a2 : LQ} {a3 : Int} {r : Int × Bool} (h : i_StabilizerMeasureZ a1 a2 a3 = some r) :
    Spec Try.prog 26 [.agg [.int .i64 a1, .sl (encL EIIII a2) a2.length], .int .i64 a3] [] (.tup [.int .i64 r.1, .bool r.2]) [] := by
 unfold i_StabilizerMeasureZ at h; refine SO Try.func26 rfl Try.ntmps26 fun C hN hρ => ?_; simp only [st0, tmps0, Nat.zero_add, Nat.reduceAdd]; refine AR hN fun K hK => ?_; simp only [EV, seval]; refine hK _ _ _ ?_; clear hK K; refine AW_seq ?_; refine AJ (fun S => ∃ (v1 : Bool), S = ⟨mkT [(1, .int .i64 a3), (2, .ptr 32 0), (22, .bool v1)], mkR [(32, .box 42 [.int .i64 a1, .sl (encL EIIII a2) a2.length])], 64⟩ ∧ i_StabilizerMeasureZ_j1 a1 a2 a3 v1 = some r) hN ?_ ?_
 ·intro K hK; obtain ⟨x1, h1, h⟩ := bO_inv h; simp only [EV, seval]; refine CP (i_IsValidTableau_ok h1) ?_; obtain ⟨x3, hv1, h⟩ := bO_inv h; rcases br_inv hv1 with ⟨hc1, hv1⟩ | ⟨hc1, hv1⟩
  ·cases hv1; simp only [EV, seval, hc1]; refine hK _ _ _ (show cutK _ _ _ from cutL ⟨_, rfl, h⟩ (Le_can [(32, some 64)] [] hρ (by kernel_rfl) ?_ ?_))
   ·simp only [AL, EV, seval, hc1]
   ·simp only [AL, EV, seval, hc1]
  ·obtain ⟨x4, h3, hv1⟩ := bO_inv hv1; simp only [EV, seval, hc1]; refine rC_p (i_in_ok h3) (by simp only [AL, EV, seval, hc1]) (le_d rfl) (no_j rfl) ?_; cases hv1; simp only [EV, seval, hc1]; refine hK _ _ _ (show cutK _ _ _ from cutL ⟨_, rfl, h⟩ (Le_can [(32, some 64)] [] hρ (by kernel_rfl) ?_ ?_))
   ·simp only [AL, EV, seval, hc1]
   ·simp only [AL, EV, seval, hc1]
 ·rintro S ⟨v1, rfl, h⟩; unfold i_StabilizerMeasureZ_j1 at h; refine AB h (fun hc2 h => ?_) fun hc2 h => ?_
  ·refine AR hN fun K hK => ?_; simp only [EV, seval]; refine hK _ _ _ ?_; clear hK K; injection h with h; subst h; exact AX (b' := 64) [(4, .int .i64 0), (5, .bool false)] [] [] [] hρ (EQ [] (by simp only [EV, Try.results26, seval]))
  ·refine AW_skip (AK ?_); refine AR hN fun K hK => ?_; obtain ⟨h4, h⟩ := gd_inv h; replace h4 := of_decide_eq_true h4; simp only [EV, seval, h4]; refine hK _ _ _ ?_; clear hK K; refine AW_cutK (fun S => ∃ (v10 : Int), S = ⟨mkT [(2, .ptr 32 0), (6, .ptr 33 0)], mkR [(32, .box 42 [.int .i64 a1, .sl (encL EIIII a2) a2.length]), (33, .box 25 [.int .i64 a1, .int .i64 0, .int .i64 v10, .int .i64 0])], 64⟩ ∧ i_StabilizerMeasureZ_j2 a1 a2 v10 = some r) ?_ ?_
   ·refine AR hN fun K hK => ?_; obtain ⟨l1, h5, h⟩ := bO_inv h; obtain ⟨⟨h6a, h6b, h6c⟩, h6d, h6e⟩ := slc_E EIIIIl h5; (try simp only [EV, seval] at h6d); (try simp only [EV, seval] at h6e); (try simp only [EV, seval] at h6a); (try simp only [EV, seval] at h6b); (try simp only [EV, seval] at h6c); simp only [EV, seval, h6a, h6b, h6c, h6d, h6e]; refine hK _ _ _ ?_; clear hK K; refine AW_block ?_; refine AW_loopF (fun n S => ∃ (v7 : Int) (v8 : Int) (v9 : Int), S = ⟨mkT [(2, .ptr 32 0), (6, .ptr 33 0), (32, .sl (encL EIIII l1) l1.length), (33, .int .i64 v7), (34, .int .i64 v8)], mkR [(32, .box 42 [.int .i64 a1, .sl (encL EIIII a2) a2.length]), (33, .box 25 [.int .i64 a1, .int .i64 0, .int .i64 v9, .int .i64 0])], 64⟩ ∧ i_StabilizerMeasureZ_l2 a1 a2 l1 n v7 v8 v9 = some r) FU ?_ ?_ ?_
    ·refine cutL ⟨_, _, _, rfl, h⟩ (Le_can [(32, some 32), (33, some 144)] [] hρ (by kernel_rfl) ?_ ?_)
     ·simp only [AL, EV, seval, h6a, h6b, h6c, h6d, h6e]
     ·simp only [AL, EV, seval, h6a, h6b, h6c, h6d, h6e]
    ·rintro S ⟨_, _, _, _, h⟩; rw [i_StabilizerMeasureZ_l2] at h; cases h
    ·rintro n1 S ⟨v7, v8, v9, rfl, h⟩; rw [i_StabilizerMeasureZ_l2] at h; refine AR hN fun K hK => ?_; simp only [EV, seval]; refine hK _ _ _ ?_; clear hK K; refine AW_seq ?_; refine AB h (fun hc7 h => ?_) fun hc7 h => ?_
     ·refine AW_skip (AK ?_); refine AW_seq ?_; refine AW_block ?_; refine AR hN fun K hK => ?_; obtain ⟨q3, h13, h⟩ := bO_inv h; obtain ⟨⟨h14a, h14b⟩, h14c⟩ := geti_E EIIIIl h13; (try simp only [EV, seval] at h14c); simp only [EV, seval, h14a, h14b, h14c]; refine hK _ _ _ ?_; clear hK K; refine AR hN fun K hK => ?_; obtain ⟨x7, h15, h⟩ := bO_inv h; simp only [EV, seval]; refine CP (i_PaulisCommute_ok h15) ?_; simp only [EV, seval]; refine hK _ _ _ ?_; clear hK K; refine AB h (fun hc8 h => ?_) fun hc8 h => ?_
      ·refine AR hN fun K hK => ?_; simp only [EV, seval]; refine hK _ _ _ ?_; clear hK K; injection h with h; subst h; exact AX (b' := 64) [(4, .int .i64 0), (5, .bool false)] [] [] [] hρ (EQ [] (by simp only [EV, Try.results26, seval]))
      ·refine AW_skip (AK ?_); refine AS hN fun K hK => ?_; simp only [EV, seval]; exact hK _ _ _ (AC ⟨_, _, _, rfl, h⟩ [(32, some 32), (33, some 33)] [] hρ)
     ·refine AW_exit (show cutK _ _ _ from cutL ⟨_, rfl, h⟩ (Le_can [(32, some 32), (33, some 33)] [] hρ (by kernel_rfl) ?_ ?_))
      ·simp only [AL, EV, seval]
      ·simp only [AL, EV, seval]
   ·rintro S ⟨v10, rfl, h⟩; unfold i_StabilizerMeasureZ_j2 at h; refine AW_cutK (fun S => S = ⟨mkT [], mkR [], 64⟩ ∧ i_StabilizerMeasureZ_j3 = some r) ?_ ?_
    ·refine AR hN fun K hK => ?_; simp only [EV, seval]; refine hK _ _ _ ?_; clear hK K; refine AW_block ?_; refine AW_loopF (fun n S => ∃ (v66 : Int), S = ⟨mkT [(2, .ptr 32 0), (6, .ptr 33 0), (9, .int .i64 v66)], mkR [(32, .box 42 [.int .i64 a1, .sl (encL EIIII a2) a2.length]), (33, .box 25 [.int .i64 a1, .int .i64 0, .int .i64 v10, .int .i64 0])], 64⟩ ∧ i_StabilizerMeasureZ_l3 a1 a2 v10 n v66 = some r) FU ?_ ?_ ?_
     ·refine cutL ⟨_, rfl, h⟩ (Le_can [(32, some 32), (33, some 33)] [] hρ (by kernel_rfl) ?_ ?_)
      ·simp only [AL, EV, seval]
      ·simp only [AL, EV, seval]
     ·rintro S ⟨_, _, h⟩; rw [i_StabilizerMeasureZ_l3] at h; cases h
     ·rintro n4 S ⟨v66, rfl, h⟩; rw [i_StabilizerMeasureZ_l3] at h; refine AW_seq ?_; refine AR hN fun K hK => ?_; obtain ⟨h40, h⟩ := gd_inv h; replace h40 := of_decide_eq_true h40; simp only [EV, seval, h40]; refine hK _ _ _ ?_; clear hK K; refine AW_condK (a := .bool (decide (v66 < (IntKind.wrap .i64 (1 * 2 ^ min (Int.toNat a1) (IntKind.bits .i64)))))) (by simp only [EV, seval, h40]) (brK h (fun hc27 h => ?_) (fun hc27 h => ?_))
      ·refine AW_skip (AK ?_); refine AW_cutK (fun S => S = ⟨mkT [(2, .ptr 32 0), (6, .ptr 33 0), (9, .int .i64 v66)], mkR [(32, .box 42 [.int .i64 a1, .sl (encL EIIII a2) a2.length]), (33, .box 25 [.int .i64 a1, .int .i64 0, .int .i64 v10, .int .i64 0])], 64⟩ ∧ i_StabilizerMeasureZ_j16 v66 (i_StabilizerMeasureZ_l3 a1 a2 v10 n4) = some r) ?_ ?_
       ·refine AW_block ?_; refine AR hN fun K hK => ?_; simp only [EV, seval]; refine hK _ _ _ ?_; clear hK K; refine AW_cutK (fun S => ∃ (v89 : Int) (v90 : Int) (v91 : Int) (v92 : Int), S = ⟨mkT [(2, .ptr 32 0), (6, .ptr 33 0), (9, .int .i64 v66), (10, .ptr 34 0)], mkR [(32, .box 42 [.int .i64 a1, .sl (encL EIIII a2) a2.length]), (33, .box 25 [.int .i64 a1, .int .i64 0, .int .i64 v10, .int .i64 0]), (34, .box 25 [.int .i64 v89, .int .i64 v90, .int .i64 v91, .int .i64 v92])], 64⟩ ∧ i_StabilizerMeasureZ_j17 v10 v66 (i_StabilizerMeasureZ_l3 a1 a2 v10 n4) v89 v90 v91 v92 = some r) ?_ ?_
        ·refine AR hN fun K hK => ?_; simp only [EV, seval]; refine hK _ _ _ ?_; clear hK K; refine AW_block ?_; refine AW_loopF (fun n S => ∃ (v80 : Int) (v81 : Int) (v82 : Int) (v83 : Int) (v84 : Int), S = ⟨mkT [(2, .ptr 32 0), (6, .ptr 33 0), (9, .int .i64 v66), (10, .ptr 34 0), (11, .int .i64 v80)], mkR [(32, .box 42 [.int .i64 a1, .sl (encL EIIII a2) a2.length]), (33, .box 25 [.int .i64 a1, .int .i64 0, .int .i64 v10, .int .i64 0]), (34, .box 25 [.int .i64 v81, .int .i64 v82, .int .i64 v83, .int .i64 v84])], 64⟩ ∧ i_StabilizerMeasureZ_l6 a1 a2 v10 v66 (i_StabilizerMeasureZ_l3 a1 a2 v10 n4) n v80 v81 v82 v83 v84 = some r) FU ?_ ?_ ?_
         ·refine cutL ⟨_, _, _, _, _, rfl, h⟩ (Le_can [(32, some 32), (33, some 33), (34, some 1136)] [] hρ (by kernel_rfl) ?_ ?_)
          ·simp only [AL, EV, seval]
          ·simp only [AL, EV, seval]
         ·rintro S ⟨_, _, _, _, _, _, h⟩; rw [i_StabilizerMeasureZ_l6] at h; cases h
         ·rintro n5 S ⟨v80, v81, v82, v83, v84, rfl, h⟩; rw [i_StabilizerMeasureZ_l6] at h; refine AW_seq ?_; refine AR hN fun K hK => ?_; simp only [EV, seval]; refine hK _ _ _ ?_; clear hK K; refine AB h (fun hc32 h => ?_) fun hc32 h => ?_
          ·refine AW_skip (AK ?_); refine AW_cutK (fun S => ∃ (v85 : Int) (v86 : Int) (v87 : Int) (v88 : Int), S = ⟨mkT [(2, .ptr 32 0), (6, .ptr 33 0), (9, .int .i64 v66), (10, .ptr 34 0), (11, .int .i64 v80)], mkR [(32, .box 42 [.int .i64 a1, .sl (encL EIIII a2) a2.length]), (33, .box 25 [.int .i64 a1, .int .i64 0, .int .i64 v10, .int .i64 0]), (34, .box 25 [.int .i64 v85, .int .i64 v86, .int .i64 v87, .int .i64 v88])], 64⟩ ∧ i_StabilizerMeasureZ_j20 v80 (i_StabilizerMeasureZ_l6 a1 a2 v10 v66 (i_StabilizerMeasureZ_l3 a1 a2 v10 n4) n5) v85 v86 v87 v88 = some r) ?_ ?_
           ·refine AW_block ?_; refine AR hN fun K hK => ?_; obtain ⟨h48, h⟩ := gd_inv h; replace h48 := of_decide_eq_true h48; simp only [EV, seval, h48]; refine hK _ _ _ ?_; clear hK K; refine AW_condK (a := .bool ((bits .and .i64 (Int.fdiv v66 (2 ^ min (Int.toNat v80) (IntKind.bits .i64))) 1) == 1)) (by simp only [EV, seval, h48]) (brK h (fun hc33 h => ?_) (fun hc33 h => ?_))
            ·refine AS hN fun K hK => ?_; obtain ⟨q12, h49, h⟩ := bO_inv h; obtain ⟨⟨h50a, h50b⟩, h50c⟩ := geti_E EIIIIl h49; (try simp only [EV, seval] at h50c); obtain ⟨x18, h51, h⟩ := bO_inv h; simp only [EV, seval, h50a, h50b, h50c]; refine rC_p (i_MulPauli_ok h51) (by simp only [AL, EV, seval, h50a, h50b, h50c]) (le_d rfl) (no_j rfl) ?_; simp only [EV, seval, h50a, h50b, h50c]; refine hK _ _ _ (show cutK _ _ _ from cutL ⟨_, _, _, _, rfl, h⟩ (Le_can [(32, some 32), (33, some 33), (34, some 34)] [] hρ (by kernel_rfl) ?_ ?_))
             ·simp only [AL, EV, seval, h50a, h50b, h50c]
             ·simp only [AL, EV, seval, h50a, h50b, h50c]
            ·refine AW_skip (show cutK _ _ _ from cutL ⟨_, _, _, _, rfl, h⟩ (Le_can [(32, some 32), (33, some 33), (34, some 34)] [] hρ (by kernel_rfl) ?_ ?_))
             ·simp only [AL, EV, seval, h48]
             ·simp only [AL, EV, seval, h48]
           ·rintro S ⟨v85, v86, v87, v88, rfl, h⟩; unfold i_StabilizerMeasureZ_j20 at h; refine AS hN fun K hK => ?_; simp only [EV, seval]; exact hK _ _ _ (AC ⟨_, _, _, _, _, rfl, h⟩ [(32, some 32), (33, some 33), (34, some 34)] [] hρ)
          ·refine AW_exit (show cutK _ _ _ from cutL ⟨_, _, _, _, rfl, h⟩ (Le_can [(32, some 32), (33, some 33), (34, some 34)] [] hρ (by kernel_rfl) ?_ ?_))
           ·simp only [AL, EV, seval]
           ·simp only [AL, EV, seval]
        ·rintro S ⟨v89, v90, v91, v92, rfl, h⟩; unfold i_StabilizerMeasureZ_j17 at h; refine AJ (fun S => ∃ (v93 : Bool), S = ⟨mkT [(2, .ptr 32 0), (6, .ptr 33 0), (9, .int .i64 v66), (10, .ptr 34 0), (86, .bool v93)], mkR [(32, .box 42 [.int .i64 a1, .sl (encL EIIII a2) a2.length]), (33, .box 25 [.int .i64 a1, .int .i64 0, .int .i64 v10, .int .i64 0]), (34, .box 25 [.int .i64 v89, .int .i64 v90, .int .i64 v91, .int .i64 v92])], 64⟩ ∧ i_StabilizerMeasureZ_j21 v66 (i_StabilizerMeasureZ_l3 a1 a2 v10 n4) v92 v93 = some r) hN ?_ ?_
         ·intro K hK; obtain ⟨x19, hv4, h⟩ := bO_inv h; rcases br_inv hv4 with ⟨hc34, hv4⟩ | ⟨hc34, hv4⟩
          ·cases hv4; simp only [EV, seval, hc34]; refine hK _ _ _ (show cutK _ _ _ from cutL ⟨_, rfl, h⟩ (Le_can [(32, some 32), (33, some 33), (34, some 34)] [] hρ (by kernel_rfl) ?_ ?_))
           ·simp only [AL, EV, seval, hc34]
           ·simp only [AL, EV, seval, hc34]
          ·cases hv4; simp only [EV, seval, hc34]; refine hK _ _ _ (show cutK _ _ _ from cutL ⟨_, rfl, h⟩ (Le_can [(32, some 32), (33, some 33), (34, some 34)] [] hρ (by kernel_rfl) ?_ ?_))
           ·simp only [AL, EV, seval, hc34]
           ·simp only [AL, EV, seval, hc34]
         ·rintro S ⟨v93, rfl, h⟩; unfold i_StabilizerMeasureZ_j21 at h; refine AB h (fun hc35 h => ?_) fun hc35 h => ?_
          ·refine AR hN fun K hK => ?_; simp only [EV, seval]; refine hK _ _ _ ?_; clear hK K; injection h with h; subst h; exact AX (b' := 64) [(4, .int .i64 (IntKind.wrap .i64 (Int.tdiv v92 2))), (5, .bool true)] [] [] [] hρ (EQ [] (by simp only [EV, Try.results26, seval]))
          ·refine AW_skip (show cutK _ _ _ from cutL ⟨rfl, h⟩ (Le_can [(32, some 32), (33, some 33)] [] hρ (by kernel_rfl) ?_ ?_))
           ·simp only [AL, EV, seval]
           ·simp only [AL, EV, seval]
       ·rintro S ⟨rfl, h⟩; unfold i_StabilizerMeasureZ_j16 at h; refine AS hN fun K hK => ?_; simp only [EV, seval]; exact hK _ _ _ (AC ⟨_, rfl, h⟩ [(32, some 32), (33, some 33)] [] hρ)
      ·refine AW_exit (show cutK _ _ _ from cutL ⟨rfl, h⟩ (Le_can [] [] hρ (by kernel_rfl) ?_ ?_))
       ·simp only [AL, EV, seval, h40]
       ·simp only [AL, EV, seval, h40]
    ·rintro S ⟨rfl, h⟩; unfold i_StabilizerMeasureZ_j3 at h; refine AR hN fun K hK => ?_; simp only [EV, seval]; refine hK _ _ _ ?_; clear hK K; injection h with h; subst h; exact AX (b' := 64) [(4, .int .i64 0), (5, .bool false)] [] [] [] hρ (EQ [] (by simp only [EV, Try.results26, seval]))
/- spec.StabilizerMeasureZ -/
def s_StabilizerMeasureZ_j19 (v71 : Int) (kl4 : Int → Int → Int → Int → Int → Option (Int × Bool)) (v76 : Int) (v77 : Int) (v78 : Int) (v79 : Int) : Option (Int × Bool) :=
  kl4 (IntKind.wrap .i64 (v71 + 1)) v76 v77 v78 v79
def s_StabilizerMeasureZ_j15 (v57 : Int) (kl3 : Int → Option (Int × Bool)) : Option (Int × Bool) :=
  kl3 (IntKind.wrap .i64 (v57 + 1))
def s_StabilizerMeasureZ_j20 (v57 : Int) (kl3 : Int → Option (Int × Bool)) (v83 : Int) (v84 : Bool) : Option (Int × Bool) :=
  br v84 (some (IntKind.wrap .i64 (Int.tdiv v83 2), true)) (s_StabilizerMeasureZ_j15 v57 kl3)
def s_StabilizerMeasureZ_j16 (x5 : Int × Int × Int × Int) (v57 : Int) (kl3 : Int → Option (Int × Bool)) (v80 : Int) (v81 : Int) (v82 : Int) (v83 : Int) : Option (Int × Bool) :=
  bO (br (v81 == x5.2.1) (some (v82 == x5.2.2.1)) (some false)) fun x17 => s_StabilizerMeasureZ_j20 v57 kl3 v83 x17
def s_StabilizerMeasureZ_l4 (a1 : Int) (a2 : LQ) (x5 : Int × Int × Int × Int) (v57 : Int) (kl3 : Int → Option (Int × Bool)) : Nat → Int → Int → Int → Int → Int → Option (Int × Bool)
  | 0, _, _, _, _, _ => none
  | n4 + 1, v71, v72, v73, v74, v75 =>
  br (decide (v71 < a1)) (gd (decide (¬ (IntKind.wrap .u64 v71) < 0)) (br ((bits .and .i64 (Int.fdiv v57 (2 ^ min (Int.toNat (IntKind.wrap .u64 v71)) (IntKind.bits .i64))) 1) == 1) (bO (geti a2 (IntKind.wrap .i64 (a1 + v71))) fun q9 => bO (s_MulPauli v72 v73 v74 v75 q9.1 q9.2.1 q9.2.2.1 q9.2.2.2) fun x16 => s_StabilizerMeasureZ_j19 v71 (s_StabilizerMeasureZ_l4 a1 a2 x5 v57 kl3 n4) x16.1 x16.2.1 x16.2.2.1 x16.2.2.2.1) (s_StabilizerMeasureZ_j19 v71 (s_StabilizerMeasureZ_l4 a1 a2 x5 v57 kl3 n4) v72 v73 v74 v75))) (s_StabilizerMeasureZ_j16 x5 v57 kl3 v72 v73 v74 v75)
def s_StabilizerMeasureZ_j2 : Option (Int × Bool) :=
  some (0, false)
def s_StabilizerMeasureZ_l1 (a1 : Int) (a2 : LQ) (x5 : Int × Int × Int × Int) : Nat → Int → Option (Int × Bool)
  | 0, _ => none
  | n3 + 1, v57 =>
  gd (decide (¬ (IntKind.wrap .u64 a1) < 0)) (br (decide (v57 < (IntKind.wrap .i64 (1 * 2 ^ min (Int.toNat (IntKind.wrap .u64 a1)) (IntKind.bits .i64))))) (s_StabilizerMeasureZ_l4 a1 a2 x5 v57 (s_StabilizerMeasureZ_l1 a1 a2 x5 n3) FU 0 a1 0 0 0) (s_StabilizerMeasureZ_j2))
def s_StabilizerMeasureZ_j1 (a1 : Int) (a2 : LQ) (a3 : Int) (v1 : Bool) : Option (Int × Bool) :=
  br v1 (some (0, false)) (bO (s_l25Single a1 a3 true) fun x5 => s_StabilizerMeasureZ_l1 a1 a2 x5 FU 0)
def s_StabilizerMeasureZ (a1 : Int) (a2 : LQ) (a3 : Int) : Option (Int × Bool) :=
  bO (s_IsValidTableau a1 a2) fun x1 => bO (br (!x1) (some true) (bO (s_l1In a3 0 (IntKind.wrap .i64 (a1 - 1))) fun x2 => some (!x2))) fun x3 => s_StabilizerMeasureZ_j1 a1 a2 a3 x3
theorem s_StabilizerMeasureZ_ok {a1 : Int} {a2 : LQ} {a3 : Int} {r : Int × Bool} (h : s_StabilizerMeasureZ a1 a2 a3 = some r) :
    Spec Try.prog 27 [.agg [.int .i64 a1, .sl (encL EIIII a2) a2.length], .int .i64 a3] [] (.tup [.int .i64 r.1, .bool r.2]) [] := by
 unfold s_StabilizerMeasureZ at h; refine SO Try.func27 rfl Try.ntmps27 fun C hN hρ => ?_; simp only [st0, tmps0, Nat.zero_add, Nat.reduceAdd]; refine AR hN fun K hK => ?_; simp only [EV, seval]; refine hK _ _ _ ?_; clear hK K; refine AW_seq ?_; refine AJ (fun S => ∃ (v1 : Bool), S = ⟨mkT [(1, .int .i64 a3), (2, .ptr 32 0), (20, .bool v1)], mkR [(32, .box 42 [.int .i64 a1, .sl (encL EIIII a2) a2.length])], 64⟩ ∧ s_StabilizerMeasureZ_j1 a1 a2 a3 v1 = some r) hN ?_ ?_
 ·intro K hK; obtain ⟨x1, h1, h⟩ := bO_inv h; simp only [EV, seval]; refine CP (s_IsValidTableau_ok h1) ?_; obtain ⟨x3, hv1, h⟩ := bO_inv h; rcases br_inv hv1 with ⟨hc1, hv1⟩ | ⟨hc1, hv1⟩
  ·cases hv1; simp only [EV, seval, hc1]; refine hK _ _ _ (show cutK _ _ _ from cutL ⟨_, rfl, h⟩ (Le_can [(32, some 64)] [] hρ (by kernel_rfl) ?_ ?_))
   ·simp only [AL, EV, seval, hc1]
   ·simp only [AL, EV, seval, hc1]
  ·obtain ⟨x4, h3, hv1⟩ := bO_inv hv1; simp only [EV, seval, hc1]; refine rC_p (s_l1In_ok h3) (by simp only [AL, EV, seval, hc1]) (le_d rfl) (no_j rfl) ?_; cases hv1; simp only [EV, seval, hc1]; refine hK _ _ _ (show cutK _ _ _ from cutL ⟨_, rfl, h⟩ (Le_can [(32, some 64)] [] hρ (by kernel_rfl) ?_ ?_))
   ·simp only [AL, EV, seval, hc1]
   ·simp only [AL, EV, seval, hc1]
 ·rintro S ⟨v1, rfl, h⟩; unfold s_StabilizerMeasureZ_j1 at h; refine AB h (fun hc2 h => ?_) fun hc2 h => ?_
  ·refine AR hN fun K hK => ?_; simp only [EV, seval]; refine hK _ _ _ ?_; clear hK K; injection h with h; subst h; exact AX (b' := 64) [(4, .int .i64 0), (5, .bool false)] [] [] [] hρ (EQ [] (by simp only [EV, Try.results27, seval]))
  ·refine AW_skip (AK ?_); refine AR hN fun K hK => ?_; obtain ⟨x5, h4, h⟩ := bO_inv h; simp only [EV, seval]; refine CP (s_l25Single_ok h4) ?_; simp only [EV, seval]; refine hK _ _ _ ?_; clear hK K; refine AW_cutK (fun S => S = ⟨mkT [], mkR [], 64⟩ ∧ s_StabilizerMeasureZ_j2 = some r) ?_ ?_
   ·refine AR hN fun K hK => ?_; simp only [EV, seval]; refine hK _ _ _ ?_; clear hK K; refine AW_block ?_; refine AW_loopF (fun n S => ∃ (v57 : Int), S = ⟨mkT [(2, .ptr 32 0), (6, .ptr 33 0), (7, .int .i64 v57)], mkR [(32, .box 42 [.int .i64 a1, .sl (encL EIIII a2) a2.length]), (33, .box 25 [.int .i64 x5.1, .int .i64 x5.2.1, .int .i64 x5.2.2.1, .int .i64 x5.2.2.2])], 64⟩ ∧ s_StabilizerMeasureZ_l1 a1 a2 x5 n v57 = some r) FU ?_ ?_ ?_
    ·refine cutL ⟨_, rfl, h⟩ (Le_can [(32, some 32), (33, some 128)] [] hρ (by kernel_rfl) ?_ ?_)
     ·simp only [AL, EV, seval]
     ·simp only [AL, EV, seval]
    ·rintro S ⟨_, _, h⟩; rw [s_StabilizerMeasureZ_l1] at h; cases h
    ·rintro n3 S ⟨v57, rfl, h⟩; rw [s_StabilizerMeasureZ_l1] at h; refine AW_seq ?_; refine AR hN fun K hK => ?_; obtain ⟨h31, h⟩ := gd_inv h; replace h31 := of_decide_eq_true h31; simp only [EV, seval, h31]; refine hK _ _ _ ?_; clear hK K; refine AW_condK (a := .bool (decide (v57 < (IntKind.wrap .i64 (1 * 2 ^ min (Int.toNat (IntKind.wrap .u64 a1)) (IntKind.bits .i64)))))) (by simp only [EV, seval, h31]) (brK h (fun hc21 h => ?_) (fun hc21 h => ?_))
     ·refine AW_skip (AK ?_); refine AW_cutK (fun S => S = ⟨mkT [(2, .ptr 32 0), (6, .ptr 33 0), (7, .int .i64 v57)], mkR [(32, .box 42 [.int .i64 a1, .sl (encL EIIII a2) a2.length]), (33, .box 25 [.int .i64 x5.1, .int .i64 x5.2.1, .int .i64 x5.2.2.1, .int .i64 x5.2.2.2])], 64⟩ ∧ s_StabilizerMeasureZ_j15 v57 (s_StabilizerMeasureZ_l1 a1 a2 x5 n3) = some r) ?_ ?_
      ·refine AW_block ?_; refine AR hN fun K hK => ?_; simp only [EV, seval]; refine hK _ _ _ ?_; clear hK K; refine AW_cutK (fun S => ∃ (v80 : Int) (v81 : Int) (v82 : Int) (v83 : Int), S = ⟨mkT [(2, .ptr 32 0), (6, .ptr 33 0), (7, .int .i64 v57), (8, .ptr 34 0)], mkR [(32, .box 42 [.int .i64 a1, .sl (encL EIIII a2) a2.length]), (33, .box 25 [.int .i64 x5.1, .int .i64 x5.2.1, .int .i64 x5.2.2.1, .int .i64 x5.2.2.2]), (34, .box 25 [.int .i64 v80, .int .i64 v81, .int .i64 v82, .int .i64 v83])], 64⟩ ∧ s_StabilizerMeasureZ_j16 x5 v57 (s_StabilizerMeasureZ_l1 a1 a2 x5 n3) v80 v81 v82 v83 = some r) ?_ ?_
       ·refine AR hN fun K hK => ?_; simp only [EV, seval]; refine hK _ _ _ ?_; clear hK K; refine AW_block ?_; refine AW_loopF (fun n S => ∃ (v71 : Int) (v72 : Int) (v73 : Int) (v74 : Int) (v75 : Int), S = ⟨mkT [(2, .ptr 32 0), (6, .ptr 33 0), (7, .int .i64 v57), (8, .ptr 34 0), (9, .int .i64 v71)], mkR [(32, .box 42 [.int .i64 a1, .sl (encL EIIII a2) a2.length]), (33, .box 25 [.int .i64 x5.1, .int .i64 x5.2.1, .int .i64 x5.2.2.1, .int .i64 x5.2.2.2]), (34, .box 25 [.int .i64 v72, .int .i64 v73, .int .i64 v74, .int .i64 v75])], 64⟩ ∧ s_StabilizerMeasureZ_l4 a1 a2 x5 v57 (s_StabilizerMeasureZ_l1 a1 a2 x5 n3) n v71 v72 v73 v74 v75 = some r) FU ?_ ?_ ?_
        ·refine cutL ⟨_, _, _, _, _, rfl, h⟩ (Le_can [(32, some 32), (33, some 33), (34, some 1136)] [] hρ (by kernel_rfl) ?_ ?_)
         ·simp only [AL, EV, seval]
         ·simp only [AL, EV, seval]
        ·rintro S ⟨_, _, _, _, _, _, h⟩; rw [s_StabilizerMeasureZ_l4] at h; cases h
        ·rintro n4 S ⟨v71, v72, v73, v74, v75, rfl, h⟩; rw [s_StabilizerMeasureZ_l4] at h; refine AW_seq ?_; refine AR hN fun K hK => ?_; simp only [EV, seval]; refine hK _ _ _ ?_; clear hK K; refine AB h (fun hc26 h => ?_) fun hc26 h => ?_
         ·refine AW_skip (AK ?_); refine AW_cutK (fun S => ∃ (v76 : Int) (v77 : Int) (v78 : Int) (v79 : Int), S = ⟨mkT [(2, .ptr 32 0), (6, .ptr 33 0), (7, .int .i64 v57), (8, .ptr 34 0), (9, .int .i64 v71)], mkR [(32, .box 42 [.int .i64 a1, .sl (encL EIIII a2) a2.length]), (33, .box 25 [.int .i64 x5.1, .int .i64 x5.2.1, .int .i64 x5.2.2.1, .int .i64 x5.2.2.2]), (34, .box 25 [.int .i64 v76, .int .i64 v77, .int .i64 v78, .int .i64 v79])], 64⟩ ∧ s_StabilizerMeasureZ_j19 v71 (s_StabilizerMeasureZ_l4 a1 a2 x5 v57 (s_StabilizerMeasureZ_l1 a1 a2 x5 n3) n4) v76 v77 v78 v79 = some r) ?_ ?_
          ·refine AW_block ?_; refine AR hN fun K hK => ?_; obtain ⟨h40, h⟩ := gd_inv h; replace h40 := of_decide_eq_true h40; simp only [EV, seval, h40]; refine hK _ _ _ ?_; clear hK K; refine AW_condK (a := .bool ((bits .and .i64 (Int.fdiv v57 (2 ^ min (Int.toNat (IntKind.wrap .u64 v71)) (IntKind.bits .i64))) 1) == 1)) (by simp only [EV, seval, h40]) (brK h (fun hc27 h => ?_) (fun hc27 h => ?_))
           ·refine AS hN fun K hK => ?_; obtain ⟨q9, h41, h⟩ := bO_inv h; obtain ⟨⟨h42a, h42b⟩, h42c⟩ := geti_E EIIIIl h41; (try simp only [EV, seval] at h42c); obtain ⟨x16, h43, h⟩ := bO_inv h; simp only [EV, seval, h42a, h42b, h42c]; refine rC_p (s_MulPauli_ok h43) (by simp only [AL, EV, seval, h42a, h42b, h42c]) (le_d rfl) (no_j rfl) ?_; simp only [EV, seval, h42a, h42b, h42c]; refine hK _ _ _ (show cutK _ _ _ from cutL ⟨_, _, _, _, rfl, h⟩ (Le_can [(32, some 32), (33, some 33), (34, some 34)] [] hρ (by kernel_rfl) ?_ ?_))
            ·simp only [AL, EV, seval, h42a, h42b, h42c]
            ·simp only [AL, EV, seval, h42a, h42b, h42c]
           ·refine AW_skip (show cutK _ _ _ from cutL ⟨_, _, _, _, rfl, h⟩ (Le_can [(32, some 32), (33, some 33), (34, some 34)] [] hρ (by kernel_rfl) ?_ ?_))
            ·simp only [AL, EV, seval, h40]
            ·simp only [AL, EV, seval, h40]
          ·rintro S ⟨v76, v77, v78, v79, rfl, h⟩; unfold s_StabilizerMeasureZ_j19 at h; refine AS hN fun K hK => ?_; simp only [EV, seval]; exact hK _ _ _ (AC ⟨_, _, _, _, _, rfl, h⟩ [(32, some 32), (33, some 33), (34, some 34)] [] hρ)
         ·refine AW_exit (show cutK _ _ _ from cutL ⟨_, _, _, _, rfl, h⟩ (Le_can [(32, some 32), (33, some 33), (34, some 34)] [] hρ (by kernel_rfl) ?_ ?_))
          ·simp only [AL, EV, seval]
          ·simp only [AL, EV, seval]
       ·rintro S ⟨v80, v81, v82, v83, rfl, h⟩; unfold s_StabilizerMeasureZ_j16 at h; refine AJ (fun S => ∃ (v84 : Bool), S = ⟨mkT [(2, .ptr 32 0), (6, .ptr 33 0), (7, .int .i64 v57), (8, .ptr 34 0), (72, .bool v84)], mkR [(32, .box 42 [.int .i64 a1, .sl (encL EIIII a2) a2.length]), (33, .box 25 [.int .i64 x5.1, .int .i64 x5.2.1, .int .i64 x5.2.2.1, .int .i64 x5.2.2.2]), (34, .box 25 [.int .i64 v80, .int .i64 v81, .int .i64 v82, .int .i64 v83])], 64⟩ ∧ s_StabilizerMeasureZ_j20 v57 (s_StabilizerMeasureZ_l1 a1 a2 x5 n3) v83 v84 = some r) hN ?_ ?_
        ·intro K hK; obtain ⟨x17, hv4, h⟩ := bO_inv h; rcases br_inv hv4 with ⟨hc28, hv4⟩ | ⟨hc28, hv4⟩
         ·cases hv4; simp only [EV, seval, hc28]; refine hK _ _ _ (show cutK _ _ _ from cutL ⟨_, rfl, h⟩ (Le_can [(32, some 32), (33, some 33), (34, some 34)] [] hρ (by kernel_rfl) ?_ ?_))
          ·simp only [AL, EV, seval, hc28]
          ·simp only [AL, EV, seval, hc28]
         ·cases hv4; simp only [EV, seval, hc28]; refine hK _ _ _ (show cutK _ _ _ from cutL ⟨_, rfl, h⟩ (Le_can [(32, some 32), (33, some 33), (34, some 34)] [] hρ (by kernel_rfl) ?_ ?_))
          ·simp only [AL, EV, seval, hc28]
          ·simp only [AL, EV, seval, hc28]
        ·rintro S ⟨v84, rfl, h⟩; unfold s_StabilizerMeasureZ_j20 at h; refine AB h (fun hc29 h => ?_) fun hc29 h => ?_
         ·refine AR hN fun K hK => ?_; simp only [EV, seval]; refine hK _ _ _ ?_; clear hK K; injection h with h; subst h; exact AX (b' := 64) [(4, .int .i64 (IntKind.wrap .i64 (Int.tdiv v83 2))), (5, .bool true)] [] [] [] hρ (EQ [] (by simp only [EV, Try.results27, seval]))
         ·refine AW_skip (show cutK _ _ _ from cutL ⟨rfl, h⟩ (Le_can [(32, some 32), (33, some 33)] [] hρ (by kernel_rfl) ?_ ?_))
          ·simp only [AL, EV, seval]
          ·simp only [AL, EV, seval]
      ·rintro S ⟨rfl, h⟩; unfold s_StabilizerMeasureZ_j15 at h; refine AS hN fun K hK => ?_; simp only [EV, seval]; exact hK _ _ _ (AC ⟨_, rfl, h⟩ [(32, some 32), (33, some 33)] [] hρ)
     ·refine AW_exit (show cutK _ _ _ from cutL ⟨rfl, h⟩ (Le_can [] [] hρ (by kernel_rfl) ?_ ?_))
      ·simp only [AL, EV, seval, h31]
      ·simp only [AL, EV, seval, h31]
   ·rintro S ⟨rfl, h⟩; unfold s_StabilizerMeasureZ_j2 at h; refine AR hN fun K hK => ?_; simp only [EV, seval]; refine hK _ _ _ ?_; clear hK K; injection h with h; subst h; exact AX (b' := 64) [(4, .int .i64 0), (5, .bool false)] [] [] [] hρ (EQ [] (by simp only [EV, Try.results27, seval]))
end Go.Proofs.Ytplbdmigbakmlaa
