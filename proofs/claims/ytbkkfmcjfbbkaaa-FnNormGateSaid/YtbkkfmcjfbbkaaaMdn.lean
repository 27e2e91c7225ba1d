/- Models of functions, and that the functions do what the models say; printed by a program. -/
import Derived.Test.YtbkkfmcjfbbkaaaGn
import Derived.Test.YtbkkfmcjfbbkaaaMdr
import Derived.Test.YtbkkfmcjfbbkaaaMp
import Derived.Test.YtbkkfmcjfbbkaaaMk
import Derived.Test.YtbkkfmcjfbbkaaaMkt
namespace Go.Proofs.Ytbkkfmcjfbbkaaa
open Go.RowKit
set_option maxRecDepth 100000
set_option linter.unusedVariables false
set_option linter.unusedSimpArgs false
set_option linter.defProp false
/- spec.l30Bent -/
def s_l30Bent_j1 (v5 : List Int) (v6 : Int) (v7 : Int) (v8 : Int) (v9 : LQ) (v10 : List Int) : Option (Int × LQ × List Int × List Int × Int × Int) :=
  some (v8, v9, v10, v5, v6, v7)
def s_l30Bent (a1 : List Int) (a2 : Int) (a3 : Int) : Option (Int × LQ × List Int × List Int × Int × Int) :=
  bO (s_l30Run a1 a2 a3 10) fun x1 => bO (s_ComputeNormalForm x1.1) fun x2 => bO (s_l1Below x1.2.1 x1.2.2.1 x1.2.2.2 10) fun x3 => br (x3.1 == 0) (bO (s_l1Below x3.2.1 x3.2.2.1 x3.2.2.2 5) fun x4 => gd (decide (x2.2.1.length + ([IntKind.wrap .i64 (x4.1 - 1)]).length ≤ 16777216)) (s_l30Bent_j1 x4.2.1 x4.2.2.1 x4.2.2.2 x2.1 x2.2.2.1 (x2.2.1 ++ ([IntKind.wrap .i64 (x4.1 - 1)])))) (br (x3.1 == 1) (bO (s_l26Bent x3.2.1 x3.2.2.1 x3.2.2.2) fun x5 => s_l30Bent_j1 x5.2.2.1 x5.2.2.2.1 x5.2.2.2.2 x5.1 x5.2.1 x2.2.1) (s_l30Bent_j1 x3.2.1 x3.2.2.1 x3.2.2.2 x2.1 x2.2.2.1 x2.2.1))
set_option maxHeartbeats 4000000 in
theorem s_l30Bent_ok {a1 : List Int} {a2 : Int} {a3 : Int} {r : Int × LQ × List Int × List Int × Int × Int} (h : s_l30Bent a1 a2 a3 = some r) :
    Spec Try.prog 53 [.ptr 0 0] [.box 142 [.sl (encL EB a1) a1.length, .int .i64 a2, .int .i64 a3]] (.agg [.own 1 r.2.2.1.length, .int .i64 r.1, .sl (encL EIIII r.2.1) r.2.1.length]) [.box 142 [.sl (encL EB r.2.2.2.1) r.2.2.2.1.length, .int .i64 r.2.2.2.2.1, .int .i64 r.2.2.2.2.2], .row 3 1 (encL EI r.2.2.1)] := by
 unfold s_l30Bent at h; refine spec_of Try.func53 rfl (by kernel_rfl) (by simp only [Try.ntmps53, List.length_cons, List.length_nil, Nat.reduceAdd, Nat.reduceLeDiff]) ?_; intro C hN hρ; rw [Try.ntmps53] at hN; unfold st0; simp only [tmps0, Nat.zero_add, Nat.reduceAdd]; refine AR hN fun K hK => ?_; simp only [EV, seval]; refine hK _ _ _ ?_; clear hK K; refine AR hN fun K hK => ?_; obtain ⟨x1, h1, h⟩ := bO_inv h; simp only [EV, seval]; refine rR_p [0] (s_l30Run_ok h1) (by simp only [AL, EV, seval]) (by simp only [AL, EV, seval]) (by kernel_rfl) (by simp only [EV, solidO, List.mem_cons, List.not_mem_nil, or_false, forall_eq_or_imp, forall_eq, seval]) (le_d rfl) (le_d rfl) (site_1 (by simp only [EV, seval])) ?_; obtain ⟨x2, h2, h⟩ := bO_inv h; simp only [EV, seval]; refine rC_l (s_ComputeNormalForm_ok h2) (by simp only [AL, EV, seval]) (by simp only [AL, EF, and_self]) (le_d rfl) (site_2 (by simp only [EV, seval])) ?_; simp only [EV, seval]; refine hK _ _ _ ?_; clear hK K; refine AW_cutK (fun S => ∃ (v5 : List Int) (v6 : Int) (v7 : Int) (v8 : Int) (v9 : LQ) (v10 : List Int), S = ⟨mkT [(2, .ptr 32 0), (3, .ptr 33 0)], mkR [(0, .box 142 [.sl (encL EB v5) v5.length, .int .i64 v6, .int .i64 v7]), (32, .box 29 [.nil, .int .i64 0, .nil]), (33, .box 29 [.own 34 v10.length, .int .i64 v8, .sl (encL EIIII v9) v9.length]), (34, .row 3 1 (encL EI v10))], 64⟩ ∧ s_l30Bent_j1 v5 v6 v7 v8 v9 v10 = some r) ?_ ?_
 ·refine AR hN fun K hK => ?_; obtain ⟨x3, h3, h⟩ := bO_inv h; simp only [EV, seval]; refine rR_p [0] (s_l1Below_ok h3) (by simp only [AL, EV, seval]) (by simp only [AL, EV, seval]) (by kernel_rfl) (by simp only [EV, solidO, List.mem_cons, List.not_mem_nil, or_false, forall_eq_or_imp, forall_eq, seval]) (le_d rfl) (le_d rfl) (no_j rfl) ?_; simp only [EV, seval]; refine hK _ _ _ ?_; clear hK K; refine AW_block ?_; refine AR hN fun K hK => ?_; simp only [EV, seval]; refine hK _ _ _ ?_; clear hK K; refine AW_condK (a := .bool (x3.1 == 0)) (by simp only [EV, seval]) (brK h (fun hc1 h => ?_) (fun hc1 h => ?_))
  ·refine AW_reT (BR := BR) [(1, [1184]), (3, [0])] (by kernel_rfl) FM (by rw [hN]; kernel_rfl) (by kernel_rfl) ?_; intro K hK; obtain ⟨x4, h4, h⟩ := bO_inv h; simp only [AE, AT, TY, EN, seval]; refine rRT_p _ [0] (s_l1Below_ok h4) (by simp only [AL, EV, seval]) (by simp only [AL, EV, seval]) (by kernel_rfl) (by simp only [EV, solidO, List.mem_cons, List.not_mem_nil, or_false, forall_eq_or_imp, forall_eq, seval]) (le_d rfl) (le_d rfl) (no_j rfl) ?_; obtain ⟨h5, h⟩ := gd_inv h; replace h5 := of_decide_eq_true h5; (try simp only [EV, seval] at h5); simp only [AE, AT, TY, EN, seval, h5]; refine hK _ _ _ (show cutK _ _ _ from cutL ⟨_, _, _, _, _, _, rfl, h⟩ (Le_can [(0, some 0), (32, some 64), (33, some 1184), (34, some 4256)] [1121] hρ (by kernel_rfl) ?_ ?_))
   ·simp only [AL, EV, seval, h5]
   ·simp only [AL, EV, seval, h5]
  ·refine AR hN fun K hK => ?_; simp only [EV, seval]; refine hK _ _ _ ?_; clear hK K; refine AW_condK (a := .bool (x3.1 == 1)) (by simp only [EV, seval]) (brK h (fun hc2 h => ?_) (fun hc2 h => ?_))
   ·refine AS hN fun K hK => ?_; obtain ⟨x5, h6, h⟩ := bO_inv h; simp only [EV, seval]; refine rR_p [0] (s_l26Bent_ok h6) (by simp only [AL, EV, seval]) (by simp only [AL, EV, seval]) (by kernel_rfl) (by simp only [EV, solidO, List.mem_cons, List.not_mem_nil, or_false, forall_eq_or_imp, forall_eq, seval]) (le_d rfl) (le_d rfl) (no_j rfl) ?_; simp only [EV, seval]; exact hK _ _ _ (AC ⟨_, _, _, _, _, _, rfl, h⟩ [(0, some 0), (32, some 64), (33, some 1184), (34, some 1120)] [] hρ)
   ·refine AW_skip (show cutK _ _ _ from cutL ⟨_, _, _, _, _, _, rfl, h⟩ (Le_can [(0, some 0), (32, some 64), (33, some 1184), (34, some 1120)] [1121] hρ (by kernel_rfl) ?_ ?_))
    ·simp only [AL, EV, seval]
    ·simp only [AL, EV, seval]
 ·rintro S ⟨v5, v6, v7, v8, v9, v10, rfl, h⟩; unfold s_l30Bent_j1 at h; refine AR hN fun K hK => ?_; simp only [EV, seval]; refine hK _ _ _ ?_; clear hK K; injection h with h; subst h; exact AX (b' := 64) [(2, .ptr 32 0)] [(0, .box 142 [.sl (encL EB v5) v5.length, .int .i64 v6, .int .i64 v7]), (32, .box 29 [.own 33 v10.length, .int .i64 v8, .sl (encL EIIII v9) v9.length]), (33, .row 3 1 (encL EI v10))] [(0, some 0), (32, some 32), (33, some 34)] [] hρ (EQ [0, 33] (by simp only [EV, Try.results53, seval]))
end Go.Proofs.Ytbkkfmcjfbbkaaa
