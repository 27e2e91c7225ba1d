/- Models of functions, and that the functions do what the models say; printed by a program. -/
import Derived.Test.YtbkkfmcjfbbkaaaGn
import Derived.Test.YtbkkfmcjfbbkaaaMk
import Derived.Test.YtbkkfmcjfbbkaaaMu
namespace Go.Proofs.Ytbkkfmcjfbbkaaa
open Go.RowKit
set_option maxRecDepth 100000
set_option linter.unusedVariables false
set_option linter.unusedSimpArgs false
set_option linter.defProp false
/- spec.l30Run -/
def s_l30Run_j1 (v12 : List Int) (v13 : Int) (v14 : Int) (v15 : LQ) : Option (LQ × List Int × Int × Int) :=
  some (v15, v12, v13, v14)
def s_l30Run_l1 (x1 : Int × List Int × Int × Int) : Nat → (List Int) → Int → Int → Int → (LQ) → Option (LQ × List Int × Int × Int)
  | 0, _, _, _, _, _ => none
  | n1 + 1, v7, v8, v9, v10, v11 =>
  br (decide (v10 < x1.1)) (bO (s_l1PickInt v7 v8 v9 ([1, 2, 3, 4, 5, 6, 7, 8, 4, 7, 4, 7])) fun x6 => bO (s_l14One x6.1 0) fun x7 => gd (decide (v11.length + ([(x7.1, x7.2.1, x7.2.2.1, x7.2.2.2)]).length ≤ 16777216)) ((s_l30Run_l1 x1 n1) x6.2.1 x6.2.2.1 x6.2.2.2 (IntKind.wrap .i64 (v10 + 1)) (v11 ++ ([(x7.1, x7.2.1, x7.2.2.1, x7.2.2.2)])))) (s_l30Run_j1 v7 v8 v9 v11)
def s_l30Run (a1 : List Int) (a2 : Int) (a3 : Int) (a4 : Int) : Option (LQ × List Int × Int × Int) :=
  bO (s_l1Below a1 a2 a3 (IntKind.wrap .i64 (a4 + 1))) fun x1 => s_l30Run_l1 x1 FU x1.2.1 x1.2.2.1 x1.2.2.2 0 ([] : LQ)
set_option maxHeartbeats 4000000 in
theorem s_l30Run_ok {a1 : List Int} {a2 : Int} {a3 : Int} {a4 : Int} {r : LQ × List Int × Int × Int} (h : s_l30Run a1 a2 a3 a4 = some r) :
    Spec Try.prog 82 [.ptr 0 0, .int .i64 a4] [.box 142 [.sl (encL EB a1) a1.length, .int .i64 a2, .int .i64 a3]] (.own 1 r.1.length) [.box 142 [.sl (encL EB r.2.1) r.2.1.length, .int .i64 r.2.2.1, .int .i64 r.2.2.2], .row 31 4 (encL EIIII r.1)] := by
 unfold s_l30Run at h; refine spec_of Try.func82 rfl (by kernel_rfl) (by simp only [Try.ntmps82, List.length_cons, List.length_nil, Nat.reduceAdd, Nat.reduceLeDiff]) ?_; intro C hN hρ; rw [Try.ntmps82] at hN; unfold st0; simp only [tmps0, Nat.zero_add, Nat.reduceAdd]; refine AR hN fun K hK => ?_; simp only [EV, seval]; refine hK _ _ _ ?_; clear hK K; refine AR hN fun K hK => ?_; simp only [EV, seval]; refine hK _ _ _ ?_; clear hK K; refine AR hN fun K hK => ?_; obtain ⟨x1, h1, h⟩ := bO_inv h; simp only [EV, seval]; refine rR_p [0] (s_l1Below_ok h1) (by simp only [AL, EV, seval]) (by simp only [AL, EV, seval]) (by kernel_rfl) (by simp only [EV, solidO, List.mem_cons, List.not_mem_nil, or_false, forall_eq_or_imp, forall_eq, seval]) (le_d rfl) (le_d rfl) (no_j rfl) ?_; simp only [EV, seval]; refine hK _ _ _ ?_; clear hK K; refine AW_cutK (fun S => ∃ (v12 : List Int) (v13 : Int) (v14 : Int) (v15 : LQ), S = ⟨mkT [(5, .own 32 v15.length)], mkR [(0, .box 142 [.sl (encL EB v12) v12.length, .int .i64 v13, .int .i64 v14]), (32, .row 31 4 (encL EIIII v15))], 64⟩ ∧ s_l30Run_j1 v12 v13 v14 v15 = some r) ?_ ?_
 ·refine AR hN fun K hK => ?_; simp only [EV, seval]; refine hK _ _ _ ?_; clear hK K; refine AW_block ?_; refine AW_loopF (fun n S => ∃ (v7 : List Int) (v8 : Int) (v9 : Int) (v10 : Int) (v11 : LQ), S = ⟨mkT [(0, .ptr 0 0), (5, .own 32 v11.length), (6, .int .i64 x1.1), (7, .int .i64 v10)], mkR [(0, .box 142 [.sl (encL EB v7) v7.length, .int .i64 v8, .int .i64 v9]), (32, .row 31 4 (encL EIIII v11))], 64⟩ ∧ s_l30Run_l1 x1 n v7 v8 v9 v10 v11 = some r) FU ?_ ?_ ?_
  ·refine cutL ⟨_, _, _, _, _, rfl, h⟩ (Le_can [(0, some 0), (32, some 1088)] [] hρ (by kernel_rfl) ?_ ?_)
   ·simp only [AL, EV, seval]
   ·simp only [AL, EV, seval]
  ·rintro S ⟨_, _, _, _, _, _, h⟩; rw [s_l30Run_l1] at h; cases h
  ·rintro n1 S ⟨v7, v8, v9, v10, v11, rfl, h⟩; rw [s_l30Run_l1] at h; refine AW_seq ?_; refine AR hN fun K hK => ?_; simp only [EV, seval]; refine hK _ _ _ ?_; clear hK K; refine AW_condK (a := .bool (decide (v10 < x1.1))) (by simp only [EV, seval]) (brK h (fun hc3 h => ?_) (fun hc3 h => ?_))
   ·refine AW_skip (AK ?_); refine AW_seq ?_; refine AW_block ?_; refine AS hN fun K hK => ?_; obtain ⟨x6, h8, h⟩ := bO_inv h; simp only [EV, seval]; refine rR_p [0] (s_l1PickInt_ok h8) (by simp only [AL, EV, seval]) (by simp only [AL, EV, seval]) (by kernel_rfl) (by simp only [EV, solidO, List.mem_cons, List.not_mem_nil, or_false, forall_eq_or_imp, forall_eq, seval]) (le_d rfl) (le_d rfl) (no_j rfl) ?_; obtain ⟨x7, h9, h⟩ := bO_inv h; simp only [EV, seval]; refine CP (s_l14One_ok h9) ?_; obtain ⟨h10, h⟩ := gd_inv h; replace h10 := of_decide_eq_true h10; (try simp only [EV, seval] at h10); simp only [EV, seval, h10]; refine hK _ _ _ (show AW _ _ _ _ _ from ?_); refine AS hN fun K hK => ?_; simp only [EV, seval]; exact hK _ _ _ (AC ⟨_, _, _, _, _, rfl, h⟩ [(0, some 0), (32, some 1184)] [] hρ)
   ·refine AW_exit (show cutK _ _ _ from cutL ⟨_, _, _, _, rfl, h⟩ (Le_can [(0, some 0), (32, some 32)] [] hρ (by kernel_rfl) ?_ ?_))
    ·simp only [AL, EV, seval]
    ·simp only [AL, EV, seval]
 ·rintro S ⟨v12, v13, v14, v15, rfl, h⟩; unfold s_l30Run_j1 at h; refine AR hN fun K hK => ?_; simp only [EV, seval]; refine hK _ _ _ ?_; clear hK K; injection h with h; subst h; exact AX (b' := 64) [(4, .own 32 v15.length)] [(0, .box 142 [.sl (encL EB v12) v12.length, .int .i64 v13, .int .i64 v14]), (32, .row 31 4 (encL EIIII v15))] [(0, some 0), (32, some 32)] [] hρ (EQ [0, 32] (by simp only [EV, Try.results82, seval]))
end Go.Proofs.Ytbkkfmcjfbbkaaa
