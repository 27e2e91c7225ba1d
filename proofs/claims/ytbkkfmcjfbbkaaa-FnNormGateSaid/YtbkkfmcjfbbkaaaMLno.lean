/- Models of functions, and that the functions do what the models say; printed by a program. -/
import Derived.Test.YtbkkfmcjfbbkaaaGn
import Derived.Test.YtbkkfmcjfbbkaaaMk
import Derived.Test.YtbkkfmcjfbbkaaaMdn
import Derived.Test.YtbkkfmcjfbbkaaaMu
import Derived.Test.YtbkkfmcjfbbkaaaMp
namespace Go.Proofs.Ytbkkfmcjfbbkaaa
open Go.RowKit
set_option maxRecDepth 100000
set_option linter.unusedVariables false
set_option linter.unusedSimpArgs false
set_option linter.defProp false
/- spec.DrawNormalFormApplyGate -/
def s_DrawNormalFormApplyGate (a1 : List Int) : Option (Int × LQ × List Int × Int × Int × Int × Int) :=
  bO (s_l1New a1) fun x1 => bO (s_l30Bent x1.1 x1.2.1 x1.2.2) fun x2 => bO (s_l1Once x2.2.2.2.1 x2.2.2.2.2.1 x2.2.2.2.2.2 8) fun x3 => br x3.1 (bO (s_l9Bent x3.2.1 x3.2.2.1 x3.2.2.2 1) fun x4 => some (x2.1, x2.2.1, x2.2.2.1, x4.1, x4.2.1, x4.2.2.1, x4.2.2.2.1)) (bO (s_l1Below x3.2.1 x3.2.2.1 x3.2.2.2 8) fun x5 => bO (s_l14One (IntKind.wrap .i64 (1 + x5.1)) 0) fun x6 => some (x2.1, x2.2.1, x2.2.2.1, x6.1, x6.2.1, x6.2.2.1, x6.2.2.2))
set_option maxHeartbeats 4000000 in
theorem s_DrawNormalFormApplyGate_ok {a1 : List Int} {r : Int × LQ × List Int × Int × Int × Int × Int} (h : s_DrawNormalFormApplyGate a1 = some r) :
    Spec Try.prog 12 [.sl (encL EB a1) a1.length] [] (.tup [.agg [.own 0 r.2.2.1.length, .int .i64 r.1, .sl (encL EIIII r.2.1) r.2.1.length], .agg [.int .i64 r.2.2.2.1, .int .i64 r.2.2.2.2.1, .int .i64 r.2.2.2.2.2.1, .int .i64 r.2.2.2.2.2.2]]) [.row 3 1 (encL EI r.2.2.1)] := by
 unfold s_DrawNormalFormApplyGate at h; refine spec_of Try.func12 rfl (by kernel_rfl) (by simp only [Try.ntmps12, List.length_cons, List.length_nil, Nat.reduceAdd, Nat.reduceLeDiff]) ?_; intro C hN hρ; rw [Try.ntmps12] at hN; unfold st0; simp only [tmps0, Nat.zero_add, Nat.reduceAdd]; refine AR hN fun K hK => ?_; simp only [EV, seval]; refine hK _ _ _ ?_; clear hK K; refine AR hN fun K hK => ?_; obtain ⟨x1, h1, h⟩ := bO_inv h; simp only [EV, seval]; refine rC_p (s_l1New_ok h1) (by simp only [AL, EV, seval]) (le_d rfl) (site_1 (by simp only [EV, seval])) ?_; simp only [EV, seval]; refine hK _ _ _ ?_; clear hK K; refine AR hN fun K hK => ?_; obtain ⟨x2, h2, h⟩ := bO_inv h; simp only [EV, seval]; refine rR_p [1104] (s_l30Bent_ok h2) (by simp only [AL, EV, seval]) (by simp only [AL, EV, seval]) (by kernel_rfl) (by simp only [EV, solidO, List.mem_cons, List.not_mem_nil, or_false, forall_eq_or_imp, forall_eq, seval]) (le_d rfl) (le_d rfl) (site_1 (by simp only [EV, seval])) ?_; simp only [EV, seval]; refine hK _ _ _ ?_; clear hK K; refine AW_seq ?_; refine AR hN fun K hK => ?_; obtain ⟨x3, h3, h⟩ := bO_inv h; simp only [EV, seval]; refine rR_p [1104] (s_l1Once_ok h3) (by simp only [AL, EV, seval]) (by simp only [AL, EV, seval]) (by kernel_rfl) (by simp only [EV, solidO, List.mem_cons, List.not_mem_nil, or_false, forall_eq_or_imp, forall_eq, seval]) (le_d rfl) (le_d rfl) (no_j rfl) ?_; simp only [EV, seval]; refine hK _ _ _ ?_; clear hK K; refine AW_condK (a := .bool x3.1) (by simp only [EV, seval]) (brK h (fun hc1 h => ?_) (fun hc1 h => ?_))
 ·refine AW_rsT (BR := BR) [(0, [2144]), (2, [1104])] (by kernel_rfl) FM (by rw [hN]; kernel_rfl) (by kernel_rfl) ?_; intro K hK; obtain ⟨x4, h4, h⟩ := bO_inv h; simp only [AE, AT, TY, EN, seval]; refine rRT_p _ [1104] (s_l9Bent_ok h4) (by simp only [AL, EV, seval]) (by simp only [AL, EV, seval]) (by kernel_rfl) (by simp only [EV, solidO, List.mem_cons, List.not_mem_nil, or_false, forall_eq_or_imp, forall_eq, seval]) (le_d rfl) (le_d rfl) (no_j rfl) ?_; simp only [AE, AT, TY, EN, seval]; refine hK _ _ _ ?_; clear hK K; injection h with h; subst h; exact AX (b' := 64) [(2, .ptr 32 0), (3, .ptr 34 0)] [(32, .box 29 [.own 33 x2.2.2.1.length, .int .i64 x2.1, .sl (encL EIIII x2.2.1) x2.2.1.length]), (33, .row 3 1 (encL EI x2.2.2.1)), (34, .box 31 [.int .i64 x4.1, .int .i64 x4.2.1, .int .i64 x4.2.2.1, .int .i64 x4.2.2.2.1])] [(32, some 64), (33, some 2128), (34, some 80)] [] hρ (EQ [33] (by simp only [EV, Try.results12, seval]))
 ·refine AW_skip (AK ?_); refine AW_rsT (BR := BR) [(0, [2144]), (2, [1104])] (by kernel_rfl) FM (by rw [hN]; kernel_rfl) (by kernel_rfl) ?_; intro K hK; obtain ⟨x5, h5, h⟩ := bO_inv h; simp only [AE, AT, TY, EN, seval]; refine rRT_p _ [1104] (s_l1Below_ok h5) (by simp only [AL, EV, seval]) (by simp only [AL, EV, seval]) (by kernel_rfl) (by simp only [EV, solidO, List.mem_cons, List.not_mem_nil, or_false, forall_eq_or_imp, forall_eq, seval]) (le_d rfl) (le_d rfl) (no_j rfl) ?_; obtain ⟨x6, h6, h⟩ := bO_inv h; simp only [AE, AT, TY, EN, seval]; refine rCT_p _ (s_l14One_ok h6) (by simp only [AL, EV, seval]) (le_d rfl) (no_j rfl) ?_; simp only [AE, AT, TY, EN, seval]; refine hK _ _ _ ?_; clear hK K; injection h with h; subst h; exact AX (b' := 64) [(2, .ptr 32 0), (3, .ptr 34 0)] [(32, .box 29 [.own 33 x2.2.2.1.length, .int .i64 x2.1, .sl (encL EIIII x2.2.1) x2.2.1.length]), (33, .row 3 1 (encL EI x2.2.2.1)), (34, .box 31 [.int .i64 x6.1, .int .i64 x6.2.1, .int .i64 x6.2.2.1, .int .i64 x6.2.2.2])] [(32, some 64), (33, some 2128), (34, some 80)] [] hρ (EQ [33] (by simp only [EV, Try.results12, seval]))
/- spec.l1Ints -/
def s_l1Ints_j1 : Option Bool :=
  some true
def s_l1Ints_l1 (a1 : List Int) (a2 : List Int) : Nat → Int → Option Bool
  | 0, _ => none
  | n1 + 1, v2 =>
  br (decide (v2 < ((a1.length : Int)))) (bO (geti a1 v2) fun q5 => bO (geti a2 v2) fun q6 => br (q5 != q6) (some false) ((s_l1Ints_l1 a1 a2 n1) (IntKind.wrap .i64 (v2 + 1)))) (s_l1Ints_j1)
def s_l1Ints (a1 : List Int) (a2 : List Int) : Option Bool :=
  br (((a1.length : Int)) != ((a2.length : Int))) (some false) (s_l1Ints_l1 a1 a2 FU 0)
set_option maxHeartbeats 4000000 in
theorem s_l1Ints_ok {a1 : List Int} {a2 : List Int} {r : Bool} (h : s_l1Ints a1 a2 = some r) :
    Spec Try.prog 69 [.sl (encL EI a1) a1.length, .sl (encL EI a2) a2.length] [] (.bool r) [] := by
 unfold s_l1Ints at h; refine spec_of Try.func69 rfl (by kernel_rfl) (by simp only [Try.ntmps69, List.length_cons, List.length_nil, Nat.reduceAdd, Nat.reduceLeDiff]) ?_; intro C hN hρ; rw [Try.ntmps69] at hN; unfold st0; simp only [tmps0, Nat.zero_add, Nat.reduceAdd]; refine AR hN fun K hK => ?_; simp only [EV, seval]; refine hK _ _ _ ?_; clear hK K; refine AW_seq ?_; refine AR hN fun K hK => ?_; simp only [EV, seval]; refine hK _ _ _ ?_; clear hK K; refine AW_condK (a := .bool (((a1.length : Int)) != ((a2.length : Int)))) (by simp only [EV, seval]) (brK h (fun hc1 h => ?_) (fun hc1 h => ?_))
 ·refine AR hN fun K hK => ?_; simp only [EV, seval]; refine hK _ _ _ ?_; clear hK K; injection h with h; subst h; exact AX (b' := 64) [(4, .bool false)] [] [] [] hρ (EQ [] (by simp only [EV, Try.results69, seval]))
 ·refine AW_skip (AK ?_); refine AW_cutK (fun S => S = ⟨mkT [], mkR [], 64⟩ ∧ s_l1Ints_j1 = some r) ?_ ?_
  ·refine AR hN fun K hK => ?_; simp only [EV, seval]; refine hK _ _ _ ?_; clear hK K; refine AW_block ?_; refine AW_loopF (fun n S => ∃ (v2 : Int), S = ⟨mkT [(0, .sl (encL EI a1) a1.length), (1, .sl (encL EI a2) a2.length), (5, .int .i64 v2)], mkR [], 64⟩ ∧ s_l1Ints_l1 a1 a2 n v2 = some r) FU ?_ ?_ ?_
   ·refine cutL ⟨_, rfl, h⟩ (Le_can [] [] hρ (by kernel_rfl) ?_ ?_)
    ·simp only [AL, EV, seval]
    ·simp only [AL, EV, seval]
   ·rintro S ⟨_, _, h⟩; rw [s_l1Ints_l1] at h; cases h
   ·rintro n1 S ⟨v2, rfl, h⟩; rw [s_l1Ints_l1] at h; refine AW_seq ?_; refine AR hN fun K hK => ?_; simp only [EV, seval]; refine hK _ _ _ ?_; clear hK K; refine AW_condK (a := .bool (decide (v2 < ((a1.length : Int))))) (by simp only [EV, seval]) (brK h (fun hc6 h => ?_) (fun hc6 h => ?_))
    ·refine AW_skip (AK ?_); refine AW_seq ?_; refine AW_block ?_; refine AR hN fun K hK => ?_; obtain ⟨q5, h9, h⟩ := bO_inv h; obtain ⟨⟨h10a, h10b⟩, h10c⟩ := geti_E EIl h9; (try simp only [EV, seval] at h10c); obtain ⟨q6, h11, h⟩ := bO_inv h; obtain ⟨⟨h12a, h12b⟩, h12c⟩ := geti_E EIl h11; (try simp only [EV, seval] at h12c); simp only [EV, seval, h10a, h10b, h10c, h12a, h12b, h12c]; refine hK _ _ _ ?_; clear hK K; refine AW_condK (a := .bool (q5 != q6)) (by simp only [EV, seval, h10a, h10b, h10c, h12a, h12b, h12c]) (brK h (fun hc7 h => ?_) (fun hc7 h => ?_))
     ·refine AR hN fun K hK => ?_; simp only [EV, seval]; refine hK _ _ _ ?_; clear hK K; injection h with h; subst h; exact AX (b' := 64) [(4, .bool false)] [] [] [] hρ (EQ [] (by simp only [EV, Try.results69, seval]))
     ·refine AW_skip (AK ?_); refine AS hN fun K hK => ?_; simp only [EV, seval]; exact hK _ _ _ (AC ⟨_, rfl, h⟩ [] [] hρ)
    ·refine AW_exit (show cutK _ _ _ from cutL ⟨rfl, h⟩ (Le_can [] [] hρ (by kernel_rfl) ?_ ?_))
     ·simp only [AL, EV, seval]
     ·simp only [AL, EV, seval]
  ·rintro S ⟨rfl, h⟩; unfold s_l1Ints_j1 at h; refine AR hN fun K hK => ?_; simp only [EV, seval]; refine hK _ _ _ ?_; clear hK K; injection h with h; subst h; exact AX (b' := 64) [(4, .bool true)] [] [] [] hρ (EQ [] (by simp only [EV, Try.results69, seval]))
/- spec.EqualNormalForm -/
def s_EqualNormalForm_j1 (v1 : Bool) : Option Bool :=
  some v1
def s_EqualNormalForm (a1 : List Int) (a2 : Int) (a3 : LQ) (a4 : List Int) (a5 : Int) (a6 : LQ) : Option Bool :=
  bO (s_l1Ints a1 a4) fun x1 => bO (br x1 (bO (s_EqualTableau a2 a3 a5 a6) fun x2 => some x2) (some false)) fun x3 => s_EqualNormalForm_j1 x3
set_option maxHeartbeats 4000000 in
theorem s_EqualNormalForm_ok {a1 : List Int} {a2 : Int} {a3 : LQ} {a4 : List Int} {a5 : Int} {a6 : LQ} {r : Bool} (h : s_EqualNormalForm a1 a2 a3 a4 a5 a6 = some r) :
    Spec Try.prog 15 [.agg [.sl (encL EI a1) a1.length, .int .i64 a2, .sl (encL EIIII a3) a3.length], .agg [.sl (encL EI a4) a4.length, .int .i64 a5, .sl (encL EIIII a6) a6.length]] [] (.bool r) [] := by
 unfold s_EqualNormalForm at h; refine spec_of Try.func15 rfl (by kernel_rfl) (by simp only [Try.ntmps15, List.length_cons, List.length_nil, Nat.reduceAdd, Nat.reduceLeDiff]) ?_; intro C hN hρ; rw [Try.ntmps15] at hN; unfold st0; simp only [tmps0, Nat.zero_add, Nat.reduceAdd]; refine AR hN fun K hK => ?_; simp only [EV, seval]; refine hK _ _ _ ?_; clear hK K; refine AJ (fun S => ∃ (v1 : Bool), S = ⟨mkT [(4, .bool v1)], mkR [], 64⟩ ∧ s_EqualNormalForm_j1 v1 = some r) hN ?_ ?_
 ·intro K hK; obtain ⟨x1, h1, h⟩ := bO_inv h; simp only [EV, seval]; refine CP (s_l1Ints_ok h1) ?_; obtain ⟨x3, hv1, h⟩ := bO_inv h; rcases br_inv hv1 with ⟨hc1, hv1⟩ | ⟨hc1, hv1⟩
  ·obtain ⟨x4, h3, hv1⟩ := bO_inv hv1; simp only [EV, seval, hc1]; refine rC_p (s_EqualTableau_ok h3) (by simp only [AL, EV, seval, hc1]) (le_d rfl) (no_j rfl) ?_; cases hv1; simp only [EV, seval, hc1]; refine hK _ _ _ (show cutK _ _ _ from cutL ⟨_, rfl, h⟩ (Le_can [] [] hρ (by kernel_rfl) ?_ ?_))
   ·simp only [AL, EV, seval, hc1]
   ·simp only [AL, EV, seval, hc1]
  ·cases hv1; simp only [EV, seval, hc1]; refine hK _ _ _ (show cutK _ _ _ from cutL ⟨_, rfl, h⟩ (Le_can [] [] hρ (by kernel_rfl) ?_ ?_))
   ·simp only [AL, EV, seval, hc1]
   ·simp only [AL, EV, seval, hc1]
 ·rintro S ⟨v1, rfl, h⟩; unfold s_EqualNormalForm_j1 at h; injection h with h; subst h; exact AX (b' := 64) [(4, .bool v1)] [] [] [] hρ (EQ [] (by simp only [EV, Try.results15, seval]))
/- laws.FnNormGate -/
def l_FnNormGate_j2 (v2 : Bool) : Option Bool :=
  some v2
def l_FnNormGate_j1 (x2 : Int × LQ × List Int × Int × Int × Int × Int) (x3 : Int × List Int × LQ × Bool) (v1 : Bool) : Option Bool :=
  br v1 (some false) (br (!x3.2.2.2) (bO (s_EqualNormalForm x3.2.1 x3.1 x3.2.2.1 x2.2.2.1 x2.1 x2.2.1) fun x8 => some x8) (bO (i_InverseGate x2.2.2.2.1 x2.2.2.2.2.1 x2.2.2.2.2.2.1 x2.2.2.2.2.2.2) fun x9 => bO (i_NormalFormApplyGate x3.2.1 x3.1 x3.2.2.1 x9.1 x9.2.1 x9.2.2.1 x9.2.2.2) fun x10 => bO (br x10.2.2.2 (bO (s_EqualNormalForm x10.2.1 x10.1 x10.2.2.1 x2.2.2.1 x2.1 x2.2.1) fun x11 => some x11) (some false)) fun x12 => bO (br x12 (some (decide ((-1) ≤ (IntKind.wrap .i64 (((x3.2.1.length : Int)) - ((x2.2.2.1.length : Int))))))) (some false)) fun x13 => bO (br x13 (some (decide ((IntKind.wrap .i64 (((x3.2.1.length : Int)) - ((x2.2.2.1.length : Int)))) ≤ 1))) (some false)) fun x14 => l_FnNormGate_j2 x14))
def l_FnNormGate (a1 : List Int) : Option Bool :=
  bO (l_big a1) fun x1 => br x1 (some true) (bO (s_DrawNormalFormApplyGate a1) fun x2 => bO (i_NormalFormApplyGate x2.2.2.1 x2.1 x2.2.1 x2.2.2.2.1 x2.2.2.2.2.1 x2.2.2.2.2.2.1 x2.2.2.2.2.2.2) fun x3 => bO (s_NormalFormApplyGate x2.2.2.1 x2.1 x2.2.1 x2.2.2.2.1 x2.2.2.2.2.1 x2.2.2.2.2.2.1 x2.2.2.2.2.2.2) fun x4 => bO (br (x3.2.2.2 != x4.2.2.2) (some true) (bO (s_EqualNormalForm x3.2.1 x3.1 x3.2.2.1 x4.2.1 x4.1 x4.2.2.1) fun x5 => some (!x5))) fun x6 => l_FnNormGate_j1 x2 x3 x6)
set_option maxHeartbeats 4000000 in
theorem l_FnNormGate_ok {a1 : List Int} {r : Bool} (h : l_FnNormGate a1 = some r) :
    Spec Try.prog 3 [.sl (encL EB a1) a1.length] [] (.bool r) [] := by
 unfold l_FnNormGate at h; refine spec_of Try.func3 rfl (by kernel_rfl) (by simp only [Try.ntmps3, List.length_cons, List.length_nil, Nat.reduceAdd, Nat.reduceLeDiff]) ?_; intro C hN hρ; rw [Try.ntmps3] at hN; unfold st0; simp only [tmps0, Nat.zero_add, Nat.reduceAdd]; refine AR hN fun K hK => ?_; simp only [EV, seval]; refine hK _ _ _ ?_; clear hK K; refine AW_seq ?_; refine AR hN fun K hK => ?_; obtain ⟨x1, h1, h⟩ := bO_inv h; simp only [EV, seval]; refine CP (l_big_ok h1) ?_; simp only [EV, seval]; refine hK _ _ _ ?_; clear hK K; refine AW_condK (a := .bool x1) (by simp only [EV, seval]) (brK h (fun hc1 h => ?_) (fun hc1 h => ?_))
 ·refine AR hN fun K hK => ?_; simp only [EV, seval]; refine hK _ _ _ ?_; clear hK K; injection h with h; subst h; exact AX (b' := 64) [(2, .bool true)] [] [] [] hρ (EQ [] (by simp only [EV, Try.results3, seval]))
 ·refine AW_skip (AK ?_); refine AR hN fun K hK => ?_; obtain ⟨x2, h2, h⟩ := bO_inv h; simp only [EV, seval]; refine rC_p (s_DrawNormalFormApplyGate_ok h2) (by simp only [AL, EV, seval]) (le_d rfl) (site_1 (by simp only [EV, seval])) ?_; simp only [EV, seval]; refine hK _ _ _ ?_; clear hK K; refine AR hN fun K hK => ?_; obtain ⟨x3, h3, h⟩ := bO_inv h; simp only [EV, seval]; refine rC_l (i_NormalFormApplyGate_ok h3) (by simp only [AL, EV, seval]) (by simp only [AL, EF, and_self]) (le_d rfl) (site_2 (by simp only [EV, seval])) ?_; simp only [EV, seval]; refine hK _ _ _ ?_; clear hK K; refine AR hN fun K hK => ?_; obtain ⟨x4, h4, h⟩ := bO_inv h; simp only [EV, seval]; refine rC_l (s_NormalFormApplyGate_ok h4) (by simp only [AL, EV, seval]) (by simp only [AL, EF, and_self]) (le_d rfl) (site_2 (by simp only [EV, seval])) ?_; simp only [EV, seval]; refine hK _ _ _ ?_; clear hK K; refine AW_seq ?_; refine AJ (fun S => ∃ (v1 : Bool), S = ⟨mkT [(3, .ptr 32 0), (4, .ptr 33 0), (5, .ptr 34 0), (6, .bool x3.2.2.2), (39, .bool v1)], mkR [(32, .box 29 [.own 35 x2.2.2.1.length, .int .i64 x2.1, .sl (encL EIIII x2.2.1) x2.2.1.length]), (33, .box 31 [.int .i64 x2.2.2.2.1, .int .i64 x2.2.2.2.2.1, .int .i64 x2.2.2.2.2.2.1, .int .i64 x2.2.2.2.2.2.2]), (34, .box 29 [.own 36 x3.2.1.length, .int .i64 x3.1, .own 37 x3.2.2.1.length]), (35, .row 3 1 (encL EI x2.2.2.1)), (36, .row 3 1 (encL EI x3.2.1)), (37, .row 69 4 (encL EIIII x3.2.2.1))], 64⟩ ∧ l_FnNormGate_j1 x2 x3 v1 = some r) hN ?_ ?_
  ·intro K hK; obtain ⟨x6, hv1, h⟩ := bO_inv h; rcases br_inv hv1 with ⟨hc2, hv1⟩ | ⟨hc2, hv1⟩
   ·cases hv1; simp only [EV, seval, hc2]; refine hK _ _ _ (show cutK _ _ _ from cutL ⟨_, rfl, h⟩ (Le_can [(32, some 2192), (33, some 2208), (34, some 3232), (35, some 2128), (36, some 3168), (37, some 3169)] [] hρ (by kernel_rfl) ?_ ?_))
    ·simp only [AL, EV, seval, hc2]
    ·simp only [AL, EV, seval, hc2]
   ·obtain ⟨x7, h6, hv1⟩ := bO_inv hv1; simp only [EV, seval, hc2]; refine rC_l (s_EqualNormalForm_ok h6) (by simp only [AL, EV, seval, hc2]) (by simp only [AL, EF, and_self]) (le_d rfl) (no_j rfl) ?_; cases hv1; simp only [EV, seval, hc2]; refine hK _ _ _ (show cutK _ _ _ from cutL ⟨_, rfl, h⟩ (Le_can [(32, some 2192), (33, some 2208), (34, some 3232), (35, some 2128), (36, some 3168), (37, some 3169)] [] hρ (by kernel_rfl) ?_ ?_))
    ·simp only [AL, EV, seval, hc2]
    ·simp only [AL, EV, seval, hc2]
  ·rintro S ⟨v1, rfl, h⟩; unfold l_FnNormGate_j1 at h; refine AW_condK (a := .bool v1) (by simp only [EV, seval]) (brK h (fun hc3 h => ?_) (fun hc3 h => ?_))
   ·refine AR hN fun K hK => ?_; simp only [EV, seval]; refine hK _ _ _ ?_; clear hK K; injection h with h; subst h; exact AX (b' := 64) [(2, .bool false)] [] [] [] hρ (EQ [] (by simp only [EV, Try.results3, seval]))
   ·refine AW_skip (AK ?_); refine AW_seq ?_; refine AR hN fun K hK => ?_; simp only [EV, seval]; refine hK _ _ _ ?_; clear hK K; refine AW_condK (a := .bool (!x3.2.2.2)) (by simp only [EV, seval]) (brK h (fun hc4 h => ?_) (fun hc4 h => ?_))
    ·refine AR hN fun K hK => ?_; obtain ⟨x8, h7, h⟩ := bO_inv h; simp only [EV, seval]; refine rC_l (s_EqualNormalForm_ok h7) (by simp only [AL, EV, seval]) (by simp only [AL, EF, and_self]) (le_d rfl) (no_j rfl) ?_; simp only [EV, seval]; refine hK _ _ _ ?_; clear hK K; injection h with h; subst h; exact AX (b' := 64) [(2, .bool x8)] [] [] [] hρ (EQ [] (by simp only [EV, Try.results3, seval]))
    ·refine AW_skip (AK ?_); refine AR hN fun K hK => ?_; obtain ⟨x9, h8, h⟩ := bO_inv h; simp only [EV, seval]; refine CP (i_InverseGate_ok h8) ?_; obtain ⟨x10, h9, h⟩ := bO_inv h; simp only [EV, seval]; refine rC_l (i_NormalFormApplyGate_ok h9) (by simp only [AL, EV, seval]) (by simp only [AL, EF, and_self]) (le_d rfl) (site_2 (by simp only [EV, seval])) ?_; simp only [EV, seval]; refine hK _ _ _ ?_; clear hK K; refine AR hN fun K hK => ?_; simp only [EV, seval]; refine hK _ _ _ ?_; clear hK K; refine AJ (fun S => ∃ (v2 : Bool), S = ⟨mkT [(2, .bool v2)], mkR [], 64⟩ ∧ l_FnNormGate_j2 v2 = some r) hN ?_ ?_
     ·intro K hK; obtain ⟨x12, hv2, h⟩ := bO_inv h; rcases br_inv hv2 with ⟨hc5, hv2⟩ | ⟨hc5, hv2⟩
      ·obtain ⟨x15, h11, hv2⟩ := bO_inv hv2; simp only [EV, seval, hc5]; refine rC_l (s_EqualNormalForm_ok h11) (by simp only [AL, EV, seval, hc5]) (by simp only [AL, EF, and_self]) (le_d rfl) (no_j rfl) ?_; cases hv2; obtain ⟨x16, hv5, h⟩ := bO_inv h; rcases br_inv hv5 with ⟨hc8, hv5⟩ | ⟨hc8, hv5⟩
       ·cases hv5; obtain ⟨x18, hv7, h⟩ := bO_inv h; rcases br_inv hv7 with ⟨hc10, hv7⟩ | ⟨hc10, hv7⟩
        ·cases hv7; simp only [EV, seval, hc5, hc8, hc10]; refine hK _ _ _ (show cutK _ _ _ from cutL ⟨_, rfl, h⟩ (Le_can [] [] hρ (by kernel_rfl) ?_ ?_))
         ·simp only [AL, EV, seval, hc5, hc8, hc10]
         ·simp only [AL, EV, seval, hc5, hc8, hc10]
        ·cases hv7; simp only [EV, seval, hc5, hc8, hc10]; refine hK _ _ _ (show cutK _ _ _ from cutL ⟨_, rfl, h⟩ (Le_can [] [] hρ (by kernel_rfl) ?_ ?_))
         ·simp only [AL, EV, seval, hc5, hc8, hc10]
         ·simp only [AL, EV, seval, hc5, hc8, hc10]
       ·cases hv5; obtain ⟨x19, hv8, h⟩ := bO_inv h; replace hv8 := br_f hv8; cases hv8; (try dsimp only at h); simp only [EV, seval, hc5, hc8]; refine hK _ _ _ (show cutK _ _ _ from cutL ⟨_, rfl, h⟩ (Le_can [] [] hρ (by kernel_rfl) ?_ ?_))
        ·simp only [AL, EV, seval, hc5, hc8]
        ·simp only [AL, EV, seval, hc5, hc8]
      ·cases hv2; obtain ⟨x20, hv9, h⟩ := bO_inv h; replace hv9 := br_f hv9; cases hv9; (try dsimp only at h); obtain ⟨x21, hv10, h⟩ := bO_inv h; replace hv10 := br_f hv10; cases hv10; (try dsimp only at h); simp only [EV, seval, hc5]; refine hK _ _ _ (show cutK _ _ _ from cutL ⟨_, rfl, h⟩ (Le_can [] [] hρ (by kernel_rfl) ?_ ?_))
       ·simp only [AL, EV, seval, hc5]
       ·simp only [AL, EV, seval, hc5]
     ·rintro S ⟨v2, rfl, h⟩; unfold l_FnNormGate_j2 at h; injection h with h; subst h; exact AX (b' := 64) [(2, .bool v2)] [] [] [] hρ (EQ [] (by simp only [EV, Try.results3, seval]))
end Go.Proofs.Ytbkkfmcjfbbkaaa
