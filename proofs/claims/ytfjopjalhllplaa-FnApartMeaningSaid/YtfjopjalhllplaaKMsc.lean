/- Models of functions, and that the functions do what the models say; printed by a program. -/
import Derived.Test.YtfjopjalhllplaaK1
import Derived.Test.YtfjopjalhllplaaKMa
import Derived.Test.YtfjopjalhllplaaKMsb
namespace Go.Proofs.Ytfjopjalhllplaa
open Go.RowKit
set_option maxRecDepth 100000
set_option linter.unusedVariables false
set_option linter.unusedSimpArgs false
set_option linter.defProp false
set_option maxHeartbeats 4000000
/- spec.MeasureBranch -/
def s_MeasureBranch_j7 (v31 : Int) (kl3 : Int → (List (Int × List (LF))) → Option (List (Int × List (LF)))) (v45 : List (Int × List (LF))) : Option (List (Int × List (LF))) :=
  kl3 (IntKind.wrap .i64 (v31 + 1)) v45
def s_MeasureBranch_j8 (v31 : Int) (v32 : List (Int × List (LF))) (kl3 : Int → (List (Int × List (LF))) → Option (List (Int × List (LF)))) (v42 : Bool) (v43 : Int) (v44 : List (LF)) : Option (List (Int × List (LF))) :=
  br v42 (gd (decide (v32.length + ([(v43, v44)]).length ≤ 16777216)) (s_MeasureBranch_j7 v31 kl3 (v32 ++ ([(v43, v44)])))) (s_MeasureBranch_j7 v31 kl3 v32)
def s_MeasureBranch_l4 (a2 : List (LF)) (a3 v31 : Int) (v32 : List (Int × List (LF))) (kl3 : Int → (List (Int × List (LF))) → Option (List (Int × List (LF)))) : Nat → Bool → Int → Int → (List (LF)) → Option (List (Int × List (LF)))
  | 0, _, _, _, _ => none
  | n4 + 1, v38, v39, v40, v41 =>
  br (decide (v39 < ((a2.length : Int)))) (bO (geti a2 v39) fun q9 => bO (s_l23Side q9 a3 v31) fun x18 => gd (decide (v41.length + ([x18.1]).length ≤ 16777216)) (bO (br v38 (some true) (some x18.2)) fun x19 => (s_MeasureBranch_l4 a2 a3 v31 v32 kl3 n4) x19 (IntKind.wrap .i64 (v39 + 1)) v40 (v41 ++ ([x18.1])))) (s_MeasureBranch_j8 v31 v32 kl3 v38 v40 v41)
def s_MeasureBranch_j2 (v46 : List (Int × List (LF))) : Option (List (Int × List (LF))) :=
  some v46
def s_MeasureBranch_l1 (a1 : Int) (a2 : List (LF)) (a3 a4 : Int) : Nat → Int → (List (Int × List (LF))) → Option (List (Int × List (LF)))
  | 0, _, _ => none
  | n3 + 1, v31, v32 =>
  br (decide (v31 < 2)) (gd (decide (¬ (IntKind.wrap .u64 a4) < 0)) (s_MeasureBranch_l4 a2 a3 v31 v32 (s_MeasureBranch_l1 a1 a2 a3 a4 n3) FU false 0 (IntKind.wrap .i64 (a1 + (IntKind.wrap .i64 (v31 * 2 ^ min (Int.toNat (IntKind.wrap .u64 a4)) (IntKind.bits .i64))))) ([] : List (LF)))) (s_MeasureBranch_j2 v32)
def s_MeasureBranch_j1 (a1 : Int) (a2 : List (LF)) (a3 a4 : Int) (v1 : Bool) (v2 : List (Int × List (LF))) : Option (List (Int × List (LF))) :=
  br v1 (some v2) (s_MeasureBranch_l1 a1 a2 a3 a4 FU 0 v2)
def s_MeasureBranch (a1 : Int) (a2 : List (LF)) (a3 a4 : Int) : Option (List (Int × List (LF))) :=
  bO (s_l1In a4 0 2) fun x1 => bO (br (!x1) (some true) (bO (s_l1In a3 0 3) fun x2 => some (!x2))) fun x3 => s_MeasureBranch_j1 a1 a2 a3 a4 x3 ([] : List (Int × List (LF)))
theorem s_MeasureBranch_ok {a1 : Int} {a2 : List (LF)} {a3 a4 : Int} {r : List (Int × List (LF))} (h : s_MeasureBranch a1 a2 a3 a4 = some r) :
    Spec Try.prog 55 [.agg [.int .i64 a1, .sl (encL ELIIIIIE a2) a2.length], .int .i64 a3, .int .i64 a4] [] (.own 0 r.length) [.row 38 2 (encL EILLIIIIIEE r)] := by
 unfold s_MeasureBranch at h; refine SO Try.func55 rfl Try.ntmps55 fun C hN hρ => ?_; simp only [st0, tmps0, Nat.zero_add, Nat.reduceAdd]; refine AN hN ?_; refine AN hN ?_; refine AW_seq ?_; refine AJ (fun S => ∃ (v1 : Bool) (v2 : List (Int × List (LF))), S = ⟨mkT [(1, .int .i64 a3), (2, .int .i64 a4), (3, .ptr 32 0), (7, .own 33 v2.length), (22, .bool v1)], mkR [(32, .box 38 [.int .i64 a1, .sl (encL ELIIIIIE a2) a2.length]), (33, .row 38 2 (encL EILLIIIIIEE v2))], 64⟩ ∧ s_MeasureBranch_j1 a1 a2 a3 a4 v1 v2 = some r) hN ?_ ?_
 ·intro K hK; obtain ⟨x1, h1, h⟩ := bO_inv h; simp only [EV, seval]; refine CP (s_l1In_ok h1) ?_; obtain ⟨x3, hv1, h⟩ := bO_inv h; rcases br_inv hv1 with ⟨hc1, hv1⟩ | ⟨hc1, hv1⟩
  ·cases hv1; simp only [EV, seval, hc1]; refine hK _ _ _ (show cutK _ _ _ from cutL ⟨_, _, rfl, h⟩ (Le_can [(32, some 64), (33, some 1088)] [] hρ (by kernel_rfl) ?_ ?_))
   ·simp only [AL, EV, seval, hc1]
   ·simp only [AL, EV, seval, hc1]
  ·obtain ⟨x4, h3, hv1⟩ := bO_inv hv1; simp only [EV, seval, hc1]; refine rC_p (s_l1In_ok h3) (by simp only [AL, EV, seval, hc1]) (le_d rfl) (no_j rfl) ?_; cases hv1; simp only [EV, seval, hc1]; refine hK _ _ _ (show cutK _ _ _ from cutL ⟨_, _, rfl, h⟩ (Le_can [(32, some 64), (33, some 1088)] [] hρ (by kernel_rfl) ?_ ?_))
   ·simp only [AL, EV, seval, hc1]
   ·simp only [AL, EV, seval, hc1]
 ·rintro S ⟨v1, v2, rfl, h⟩; unfold s_MeasureBranch_j1 at h; refine AB h (fun hc2 h => ?_) fun hc2 h => ?_
  ·refine AN hN ?_; injection h with h; subst h; exact AX (b' := 64) [(6, .own 32 v2.length)] [(32, .row 38 2 (encL EILLIIIIIEE v2))] [(32, some 33)] [] hρ (EQ [32])
  ·refine AW_skip (AK ?_); refine AW_cutK (fun S => ∃ (v46 : List (Int × List (LF))), S = ⟨mkT [(7, .own 32 v46.length)], mkR [(32, .row 38 2 (encL EILLIIIIIEE v46))], 64⟩ ∧ s_MeasureBranch_j2 v46 = some r) ?_ ?_
   ·refine AN hN ?_; refine AW_block ?_; refine AW_loopF (fun n S => ∃ (v31 : Int) (v32 : List (Int × List (LF))), S = ⟨mkT [(1, .int .i64 a3), (2, .int .i64 a4), (3, .ptr 32 0), (7, .own 33 v32.length), (8, .int .i64 v31)], mkR [(32, .box 38 [.int .i64 a1, .sl (encL ELIIIIIE a2) a2.length]), (33, .row 38 2 (encL EILLIIIIIEE v32))], 64⟩ ∧ s_MeasureBranch_l1 a1 a2 a3 a4 n v31 v32 = some r) FU ?_ ?_ ?_
    ·exact AC ⟨_, _, rfl, h⟩ [(32, some 32), (33, some 33)] [] hρ
    ·rintro S ⟨_, _, _, h⟩; rw [s_MeasureBranch_l1] at h; cases h
    ·rintro n3 S ⟨v31, v32, rfl, h⟩; rw [s_MeasureBranch_l1] at h; refine AW_seq ?_; refine AN hN ?_; refine AB h (fun hc17 h => ?_) fun hc17 h => ?_
     ·refine AW_skip (AK ?_); refine AW_cutK (fun S => ∃ (v45 : List (Int × List (LF))), S = ⟨mkT [(1, .int .i64 a3), (2, .int .i64 a4), (3, .ptr 32 0), (7, .own 33 v45.length), (8, .int .i64 v31)], mkR [(32, .box 38 [.int .i64 a1, .sl (encL ELIIIIIE a2) a2.length]), (33, .row 38 2 (encL EILLIIIIIEE v45))], 64⟩ ∧ s_MeasureBranch_j7 v31 (s_MeasureBranch_l1 a1 a2 a3 a4 n3) v45 = some r) ?_ ?_
      ·refine AW_block ?_; refine AR hN fun K hK => ?_; obtain ⟨h32, h⟩ := gd_inv h; replace h32 := of_decide_eq_true h32; simp only [EV, seval, h32]; refine hK _ _ _ ?_; clear hK K; refine AN hN ?_; refine AW_cutK (fun S => ∃ (v42 : Bool) (v43 : Int) (v44 : List (LF)), S = ⟨mkT [(1, .int .i64 a3), (2, .int .i64 a4), (3, .ptr 32 0), (7, .own 33 v32.length), (8, .int .i64 v31), (9, .ptr 34 0), (10, .bool v42)], mkR [(32, .box 38 [.int .i64 a1, .sl (encL ELIIIIIE a2) a2.length]), (33, .row 38 2 (encL EILLIIIIIEE v32)), (34, .box 38 [.int .i64 v43, .own 35 v44.length]), (35, .row 39 1 (encL ELIIIIIE v44))], 64⟩ ∧ s_MeasureBranch_j8 v31 v32 (s_MeasureBranch_l1 a1 a2 a3 a4 n3) v42 v43 v44 = some r) ?_ ?_
       ·refine AN hN ?_; refine AW_block ?_; refine AW_loopF (fun n S => ∃ (v38 : Bool) (v39 v40 : Int) (v41 : List (LF)), S = ⟨mkT [(1, .int .i64 a3), (2, .int .i64 a4), (3, .ptr 32 0), (7, .own 33 v32.length), (8, .int .i64 v31), (9, .ptr 34 0), (10, .bool v38), (11, .int .i64 v39)], mkR [(32, .box 38 [.int .i64 a1, .sl (encL ELIIIIIE a2) a2.length]), (33, .row 38 2 (encL EILLIIIIIEE v32)), (34, .box 38 [.int .i64 v40, .own 35 v41.length]), (35, .row 39 1 (encL ELIIIIIE v41))], 64⟩ ∧ s_MeasureBranch_l4 a2 a3 v31 v32 (s_MeasureBranch_l1 a1 a2 a3 a4 n3) n v38 v39 v40 v41 = some r) FU ?_ ?_ ?_
        ·exact AC ⟨_, _, _, _, rfl, h⟩ [(32, some 32), (33, some 33), (34, some 1216), (35, none)] [] hρ
        ·rintro S ⟨_, _, _, _, _, h⟩; rw [s_MeasureBranch_l4] at h; cases h
        ·rintro n4 S ⟨v38, v39, v40, v41, rfl, h⟩; rw [s_MeasureBranch_l4] at h; refine AW_seq ?_; refine AN hN ?_; refine AB h (fun hc21 h => ?_) fun hc21 h => ?_
         ·refine AW_skip (AK ?_); refine AW_seq ?_; refine AW_block ?_; refine AR hN fun K hK => ?_; obtain ⟨q9, h41, h⟩ := bO_inv h; obtain ⟨⟨h42a, h42b⟩, h42c⟩ := geti_E ELIIIIIEl h41; (try simp only [EV, seval] at h42c); obtain ⟨x18, h43, h⟩ := bO_inv h; simp only [EV, seval, h42a, h42b, h42c]; refine rC_p (s_l23Side_ok h43) (by simp only [AL, EV, seval, h42a, h42b, h42c]) (le_d rfl) (site_1 (by simp only [EV, seval])) ?_; simp only [EV, seval, h42a, h42b, h42c]; refine hK _ _ _ ?_; clear hK K; refine AW_le (Le_can (lt := [(1, .int .i64 a3), (2, .int .i64 a4), (3, .ptr 32 0), (7, .own 33 v32.length), (8, .int .i64 v31), (9, .ptr 34 0), (10, .bool v38), (11, .int .i64 v39), (12, .sl (encL EIIIII x18.1) x18.1.length), (13, .bool x18.2)]) (lr := [(32, .box 38 [.int .i64 a1, .sl (encL ELIIIIIE a2) a2.length]), (33, .row 38 2 (encL EILLIIIIIEE v32)), (34, .box 38 [.int .i64 v40, .own 35 v41.length]), (35, .row 39 1 (encL ELIIIIIE v41))]) (b' := 2128) [(32, some 32), (33, some 33), (34, some 34), (35, some 35)] [1200] hρ (by kernel_rfl) ?_ ?_) ?_
          ·simp only [AL, EV, seval]
          ·simp only [AL, EV, seval]
          refine AR hN fun K hK => ?_; obtain ⟨h44, h⟩ := gd_inv h; replace h44 := of_decide_eq_true h44; (try simp only [EV, seval] at h44); simp only [EV, seval, h44]; refine hK _ _ _ ?_; clear hK K; refine AS hN fun K hK => ?_; obtain ⟨x19, hv7, h⟩ := bO_inv h; rcases br_inv hv7 with ⟨hc22, hv7⟩ | ⟨hc22, hv7⟩
          ·cases hv7; simp only [EV, seval, hc22]; refine hK _ _ _ (show AW _ _ _ _ _ from ?_); refine AS hN fun K hK => ?_; simp only [EV, seval]; exact hK _ _ _ (AC ⟨_, _, _, _, rfl, h⟩ [(32, some 32), (33, some 33), (34, some 34), (35, some 2192)] [] hρ)
          ·cases hv7; simp only [EV, seval, hc22]; refine hK _ _ _ (show AW _ _ _ _ _ from ?_); refine AS hN fun K hK => ?_; simp only [EV, seval]; exact hK _ _ _ (AC ⟨_, _, _, _, rfl, h⟩ [(32, some 32), (33, some 33), (34, some 34), (35, some 2192)] [] hρ)
         ·exact AW_exit (AC ⟨_, _, _, rfl, h⟩ [(32, some 32), (33, some 33), (34, some 34), (35, some 35)] [] hρ)
       ·rintro S ⟨v42, v43, v44, rfl, h⟩; unfold s_MeasureBranch_j8 at h; refine AN hN ?_; refine AB h (fun hc23 h => ?_) fun hc23 h => ?_
        ·refine AW_le (Le_can (lt := [(1, .int .i64 a3), (2, .int .i64 a4), (3, .ptr 32 0), (7, .own 33 v32.length), (8, .int .i64 v31), (9, .ptr 34 0)]) (lr := [(32, .box 38 [.int .i64 a1, .sl (encL ELIIIIIE a2) a2.length]), (33, .row 38 2 (encL EILLIIIIIEE v32)), (34, .box 38 [.int .i64 v43, .sl (encL ELIIIIIE v44) v44.length])]) (b' := 1104) [(32, some 32), (33, some 33), (34, some 34)] [35] hρ (by kernel_rfl) ?_ ?_) ?_
         ·simp only [AL, EV, seval]
         ·simp only [AL, EV, seval]
         refine AS hN fun K hK => ?_; obtain ⟨h45, h⟩ := gd_inv h; replace h45 := of_decide_eq_true h45; (try simp only [EV, seval] at h45); simp only [EV, seval, h45]; refine hK _ _ _ (show cutK _ _ _ from cutL ⟨_, rfl, h⟩ (Le_can [(32, some 32), (33, some 1152)] [] hρ (by kernel_rfl) ?_ ?_))
         ·simp only [AL, EV, seval, h45]
         ·simp only [AL, EV, seval, h45]
        ·refine AW_skip (show cutK _ _ _ from cutL ⟨_, rfl, h⟩ (Le_can [(32, some 32), (33, some 33)] [] hρ (by kernel_rfl) ?_ ?_))
         ·simp only [AL, EV, seval]
         ·simp only [AL, EV, seval]
      ·rintro S ⟨v45, rfl, h⟩; unfold s_MeasureBranch_j7 at h; refine AS hN fun K hK => ?_; simp only [EV, seval]; exact hK _ _ _ (AC ⟨_, _, rfl, h⟩ [(32, some 32), (33, some 33)] [] hρ)
     ·exact AW_exit (AC ⟨_, rfl, h⟩ [(32, some 33)] [] hρ)
   ·rintro S ⟨v46, rfl, h⟩; unfold s_MeasureBranch_j2 at h; refine AN hN ?_; injection h with h; subst h; exact AX (b' := 64) [(6, .own 32 v46.length)] [(32, .row 38 2 (encL EILLIIIIIEE v46))] [(32, some 32)] [] hρ (EQ [32])
end Go.Proofs.Ytfjopjalhllplaa
