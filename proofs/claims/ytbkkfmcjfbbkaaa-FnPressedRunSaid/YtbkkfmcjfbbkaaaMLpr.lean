/- Models of functions, and that the functions do what the models say; printed by a program. -/
import Derived.Test.YtbkkfmcjfbbkaaaGn
import Derived.Test.YtbkkfmcjfbbkaaaMk
import Derived.Test.YtbkkfmcjfbbkaaaMdr
import Derived.Test.YtbkkfmcjfbbkaaaMu
import Derived.Test.YtbkkfmcjfbbkaaaMsr
import Derived.Test.YtbkkfmcjfbbkaaaMsg
namespace Go.Proofs.Ytbkkfmcjfbbkaaa
open Go.RowKit
set_option maxRecDepth 100000
set_option linter.unusedVariables false
set_option linter.unusedSimpArgs false
set_option linter.defProp false
/- spec.DrawShortenRun -/
def s_DrawShortenRun_j2 (v6 : LQ) : Option (LQ) :=
  some v6
def s_DrawShortenRun_j1 (x3 : Int × List Int × Int × Int) (v5 : LQ) : Option (LQ) :=
  bO (s_l1Once x3.2.1 x3.2.2.1 x3.2.2.2 8) fun x4 => br x4.1 (bO (s_l9Bent x4.2.1 x4.2.2.1 x4.2.2.2 3) fun x5 => gd (decide (v5.length + ([(x5.1, x5.2.1, x5.2.2.1, x5.2.2.2.1)]).length ≤ 16777216)) (s_DrawShortenRun_j2 (v5 ++ ([(x5.1, x5.2.1, x5.2.2.1, x5.2.2.2.1)])))) (s_DrawShortenRun_j2 v5)
def s_DrawShortenRun_l1 (x3 : Int × List Int × Int × Int) : Nat → Int → (LQ) → Option (LQ)
  | 0, _, _ => none
  | n1 + 1, v3, v4 =>
  br (decide (v3 < ((v4.length : Int)))) (bO (geti v4 v3) fun q3 => (s_DrawShortenRun_l1 x3 n1) (IntKind.wrap .i64 (v3 + 1)) (v4.set (Int.toNat v3) ((q3.1, x3.1, q3.2.2.1, q3.2.2.2)))) (s_DrawShortenRun_j1 x3 v4)
def s_DrawShortenRun (a1 : List Int) : Option (LQ) :=
  bO (s_l1New a1) fun x1 => bO (s_l30Run x1.1 x1.2.1 x1.2.2 10) fun x2 => bO (s_l1PickInt x2.2.1 x2.2.2.1 x2.2.2.2 ([0, 1, 3, 4, -1])) fun x3 => s_DrawShortenRun_l1 x3 FU 0 x2.1
set_option maxHeartbeats 4000000 in
theorem s_DrawShortenRun_ok {a1 : List Int} {r : LQ} (h : s_DrawShortenRun a1 = some r) :
    Spec Try.prog 24 [.sl (encL EB a1) a1.length] [] (.own 0 r.length) [.row 31 4 (encL EIIII r)] := by
 unfold s_DrawShortenRun at h; refine spec_of Try.func24 rfl (by kernel_rfl) (by simp only [Try.ntmps24, List.length_cons, List.length_nil, Nat.reduceAdd, Nat.reduceLeDiff]) ?_; intro C hN hρ; rw [Try.ntmps24] at hN; unfold st0; simp only [tmps0, Nat.zero_add, Nat.reduceAdd]; refine AR hN fun K hK => ?_; simp only [EV, seval]; refine hK _ _ _ ?_; clear hK K; refine AR hN fun K hK => ?_; obtain ⟨x1, h1, h⟩ := bO_inv h; simp only [EV, seval]; refine rC_p (s_l1New_ok h1) (by simp only [AL, EV, seval]) (le_d rfl) (site_1 (by simp only [EV, seval])) ?_; simp only [EV, seval]; refine hK _ _ _ ?_; clear hK K; refine AR hN fun K hK => ?_; obtain ⟨x2, h2, h⟩ := bO_inv h; simp only [EV, seval]; refine rR_p [1104] (s_l30Run_ok h2) (by simp only [AL, EV, seval]) (by simp only [AL, EV, seval]) (by kernel_rfl) (by simp only [EV, solidO, List.mem_cons, List.not_mem_nil, or_false, forall_eq_or_imp, forall_eq, seval]) (le_d rfl) (le_d rfl) (site_1 (by simp only [EV, seval])) ?_; simp only [EV, seval]; refine hK _ _ _ ?_; clear hK K; refine AR hN fun K hK => ?_; obtain ⟨x3, h3, h⟩ := bO_inv h; simp only [EV, seval]; refine rR_p [1104] (s_l1PickInt_ok h3) (by simp only [AL, EV, seval]) (by simp only [AL, EV, seval]) (by kernel_rfl) (by simp only [EV, solidO, List.mem_cons, List.not_mem_nil, or_false, forall_eq_or_imp, forall_eq, seval]) (le_d rfl) (le_d rfl) (no_j rfl) ?_; simp only [EV, seval]; refine hK _ _ _ ?_; clear hK K; refine AW_cutK (fun S => ∃ (v5 : LQ), S = ⟨mkT [(3, .ptr 32 0), (4, .own 33 v5.length)], mkR [(32, .box 142 [.sl (encL EB x3.2.1) x3.2.1.length, .int .i64 x3.2.2.1, .int .i64 x3.2.2.2]), (33, .row 31 4 (encL EIIII v5))], 64⟩ ∧ s_DrawShortenRun_j1 x3 v5 = some r) ?_ ?_
 ·refine AR hN fun K hK => ?_; simp only [EV, seval]; refine hK _ _ _ ?_; clear hK K; refine AW_block ?_; refine AW_loopF (fun n S => ∃ (v3 : Int) (v4 : LQ), S = ⟨mkT [(3, .ptr 32 0), (4, .own 33 v4.length), (5, .int .i64 x3.1), (6, .int .i64 v3)], mkR [(32, .box 142 [.sl (encL EB x3.2.1) x3.2.1.length, .int .i64 x3.2.2.1, .int .i64 x3.2.2.2]), (33, .row 31 4 (encL EIIII v4))], 64⟩ ∧ s_DrawShortenRun_l1 x3 n v3 v4 = some r) FU ?_ ?_ ?_
  ·refine cutL ⟨_, _, rfl, h⟩ (Le_can [(32, some 1104), (33, some 2128)] [] hρ (by kernel_rfl) ?_ ?_)
   ·simp only [AL, EV, seval]
   ·simp only [AL, EV, seval]
  ·rintro S ⟨_, _, _, h⟩; rw [s_DrawShortenRun_l1] at h; cases h
  ·rintro n1 S ⟨v3, v4, rfl, h⟩; rw [s_DrawShortenRun_l1] at h; refine AW_seq ?_; refine AR hN fun K hK => ?_; simp only [EV, seval]; refine hK _ _ _ ?_; clear hK K; refine AW_condK (a := .bool (decide (v3 < ((v4.length : Int))))) (by simp only [EV, seval]) (brK h (fun hc3 h => ?_) (fun hc3 h => ?_))
   ·refine AW_skip (AK ?_); refine AW_seq ?_; refine AW_block ?_; refine AS hN fun K hK => ?_; obtain ⟨q3, h10, h⟩ := bO_inv h; obtain ⟨⟨h11a, h11b⟩, h11c⟩ := geti_E EIIIIl h10; (try simp only [EV, seval] at h11c); have h12 := set_E EIIIIl ((q3.1, x3.1, q3.2.2.1, q3.2.2.2)) 1 [.int .i64 x3.1] h10 (Nat.le_of_ble_eq_true rfl) rfl; obtain ⟨h12a, h12b⟩ := h12; (try simp only [EV, seval] at h12a); (try simp only [EV, seval] at h12b); simp only [EV, seval, h11a, h11b, h11c, h12a, h12b]; refine hK _ _ _ (show AW _ _ _ _ _ from ?_); refine AS hN fun K hK => ?_; simp only [EV, seval]; exact hK _ _ _ (AC ⟨_, _, rfl, h⟩ [(32, some 32), (33, some 33)] [] hρ)
   ·refine AW_exit (show cutK _ _ _ from cutL ⟨_, rfl, h⟩ (Le_can [(32, some 32), (33, some 33)] [] hρ (by kernel_rfl) ?_ ?_))
    ·simp only [AL, EV, seval]
    ·simp only [AL, EV, seval]
 ·rintro S ⟨v5, rfl, h⟩; unfold s_DrawShortenRun_j1 at h; refine AW_cutK (fun S => ∃ (v6 : LQ), S = ⟨mkT [(4, .own 32 v6.length)], mkR [(32, .row 31 4 (encL EIIII v6))], 64⟩ ∧ s_DrawShortenRun_j2 v6 = some r) ?_ ?_
  ·refine AR hN fun K hK => ?_; obtain ⟨x4, h13, h⟩ := bO_inv h; simp only [EV, seval]; refine rR_p [32] (s_l1Once_ok h13) (by simp only [AL, EV, seval]) (by simp only [AL, EV, seval]) (by kernel_rfl) (by simp only [EV, solidO, List.mem_cons, List.not_mem_nil, or_false, forall_eq_or_imp, forall_eq, seval]) (le_d rfl) (le_d rfl) (no_j rfl) ?_; simp only [EV, seval]; refine hK _ _ _ ?_; clear hK K; refine AW_condK (a := .bool x4.1) (by simp only [EV, seval]) (brK h (fun hc4 h => ?_) (fun hc4 h => ?_))
   ·refine AS hN fun K hK => ?_; obtain ⟨x5, h14, h⟩ := bO_inv h; simp only [EV, seval]; refine rR_p [32] (s_l9Bent_ok h14) (by simp only [AL, EV, seval]) (by simp only [AL, EV, seval]) (by kernel_rfl) (by simp only [EV, solidO, List.mem_cons, List.not_mem_nil, or_false, forall_eq_or_imp, forall_eq, seval]) (le_d rfl) (le_d rfl) (no_j rfl) ?_; obtain ⟨h15, h⟩ := gd_inv h; replace h15 := of_decide_eq_true h15; (try simp only [EV, seval] at h15); simp only [EV, seval, h15]; refine hK _ _ _ (show cutK _ _ _ from cutL ⟨_, rfl, h⟩ (Le_can [(32, some 1152)] [] hρ (by kernel_rfl) ?_ ?_))
    ·simp only [AL, EV, seval, h15]
    ·simp only [AL, EV, seval, h15]
   ·refine AW_skip (show cutK _ _ _ from cutL ⟨_, rfl, h⟩ (Le_can [(32, some 33)] [] hρ (by kernel_rfl) ?_ ?_))
    ·simp only [AL, EV, seval]
    ·simp only [AL, EV, seval]
  ·rintro S ⟨v6, rfl, h⟩; unfold s_DrawShortenRun_j2 at h; refine AR hN fun K hK => ?_; simp only [EV, seval]; refine hK _ _ _ ?_; clear hK K; injection h with h; subst h; exact AX (b' := 64) [(2, .own 32 v6.length)] [(32, .row 31 4 (encL EIIII v6))] [(32, some 32)] [] hρ (EQ [32] (by simp only [EV, Try.results24, seval]))
/- laws.FnPressedRun -/
def l_FnPressedRun_j1 (v1 : Bool) : Option Bool :=
  some v1
def l_FnPressedRun (a1 : List Int) : Option Bool :=
  bO (l_big a1) fun x1 => br x1 (some true) (bO (s_DrawShortenRun a1) fun x2 => bO (i_ShortenRun x2) fun x3 => bO (s_ShortenRun x2) fun x4 => bO (l_sameGates x3 x4) fun x5 => br (!x5) (some false) (bO (i_ShortenRun x3) fun x6 => bO (l_sameGates x6 x3) fun x7 => bO (br x7 (bO (i_RunCost x3) fun x8 => bO (i_RunCost x2) fun x9 => some (decide (x8 ≤ x9))) (some false)) fun x10 => l_FnPressedRun_j1 x10))
set_option maxHeartbeats 4000000 in
theorem l_FnPressedRun_ok {a1 : List Int} {r : Bool} (h : l_FnPressedRun a1 = some r) :
    Spec Try.prog 5 [.sl (encL EB a1) a1.length] [] (.bool r) [] := by
 unfold l_FnPressedRun at h; refine spec_of Try.func5 rfl (by kernel_rfl) (by simp only [Try.ntmps5, List.length_cons, List.length_nil, Nat.reduceAdd, Nat.reduceLeDiff]) ?_; intro C hN hρ; rw [Try.ntmps5] at hN; unfold st0; simp only [tmps0, Nat.zero_add, Nat.reduceAdd]; refine AR hN fun K hK => ?_; simp only [EV, seval]; refine hK _ _ _ ?_; clear hK K; refine AW_seq ?_; refine AR hN fun K hK => ?_; obtain ⟨x1, h1, h⟩ := bO_inv h; simp only [EV, seval]; refine CP (l_big_ok h1) ?_; simp only [EV, seval]; refine hK _ _ _ ?_; clear hK K; refine AW_condK (a := .bool x1) (by simp only [EV, seval]) (brK h (fun hc1 h => ?_) (fun hc1 h => ?_))
 ·refine AR hN fun K hK => ?_; simp only [EV, seval]; refine hK _ _ _ ?_; clear hK K; injection h with h; subst h; exact AX (b' := 64) [(2, .bool true)] [] [] [] hρ (EQ [] (by simp only [EV, Try.results5, seval]))
 ·refine AW_skip (AK ?_); refine AR hN fun K hK => ?_; obtain ⟨x2, h2, h⟩ := bO_inv h; simp only [EV, seval]; refine rC_p (s_DrawShortenRun_ok h2) (by simp only [AL, EV, seval]) (le_d rfl) (site_1 (by simp only [EV, seval])) ?_; simp only [EV, seval]; refine hK _ _ _ ?_; clear hK K; refine AR hN fun K hK => ?_; obtain ⟨x3, h3, h⟩ := bO_inv h; simp only [EV, seval]; refine rC_l (i_ShortenRun_ok h3) (by simp only [AL, EV, seval]) (by simp only [AL, EF, and_self]) (le_d rfl) (site_1 (by simp only [EV, seval])) ?_; simp only [EV, seval]; refine hK _ _ _ ?_; clear hK K; refine AW_seq ?_; refine AR hN fun K hK => ?_; obtain ⟨x4, h4, h⟩ := bO_inv h; simp only [EV, seval]; refine rC_l (s_ShortenRun_ok h4) (by simp only [AL, EV, seval]) (by simp only [AL, EF, and_self]) (le_d rfl) (site_1 (by simp only [EV, seval])) ?_; obtain ⟨x5, h5, h⟩ := bO_inv h; simp only [EV, seval]; refine rC_l (l_sameGates_ok h5) (by simp only [AL, EV, seval]) (by simp only [AL, EF, and_self]) (le_d rfl) (no_j rfl) ?_; simp only [EV, seval]; refine hK _ _ _ ?_; clear hK K; refine AW_condK (a := .bool (!x5)) (by simp only [EV, seval]) (brK h (fun hc2 h => ?_) (fun hc2 h => ?_))
  ·refine AR hN fun K hK => ?_; simp only [EV, seval]; refine hK _ _ _ ?_; clear hK K; injection h with h; subst h; exact AX (b' := 64) [(2, .bool false)] [] [] [] hρ (EQ [] (by simp only [EV, Try.results5, seval]))
  ·refine AW_skip (AK ?_); refine AJ (fun S => ∃ (v1 : Bool), S = ⟨mkT [(2, .bool v1)], mkR [], 64⟩ ∧ l_FnPressedRun_j1 v1 = some r) hN ?_ ?_
   ·intro K hK; obtain ⟨x6, h6, h⟩ := bO_inv h; simp only [EV, seval]; refine rC_l (i_ShortenRun_ok h6) (by simp only [AL, EV, seval]) (by simp only [AL, EF, and_self]) (le_d rfl) (site_1 (by simp only [EV, seval])) ?_; obtain ⟨x7, h7, h⟩ := bO_inv h; simp only [EV, seval]; refine rC_l (l_sameGates_ok h7) (by simp only [AL, EV, seval]) (by simp only [AL, EF, and_self]) (le_d rfl) (no_j rfl) ?_; obtain ⟨x10, hv1, h⟩ := bO_inv h; rcases br_inv hv1 with ⟨hc3, hv1⟩ | ⟨hc3, hv1⟩
    ·obtain ⟨x11, h10, hv1⟩ := bO_inv hv1; simp only [EV, seval, hc3]; refine rC_l (i_RunCost_ok h10) (by simp only [AL, EV, seval, hc3]) (by simp only [AL, EF, and_self]) (le_d rfl) (no_j rfl) ?_; obtain ⟨x12, h11, hv1⟩ := bO_inv hv1; simp only [EV, seval, hc3]; refine rC_l (i_RunCost_ok h11) (by simp only [AL, EV, seval, hc3]) (by simp only [AL, EF, and_self]) (le_d rfl) (no_j rfl) ?_; cases hv1; simp only [EV, seval, hc3]; refine hK _ _ _ (show cutK _ _ _ from cutL ⟨_, rfl, h⟩ (Le_can [] [] hρ (by kernel_rfl) ?_ ?_))
     ·simp only [AL, EV, seval, hc3]
     ·simp only [AL, EV, seval, hc3]
    ·cases hv1; simp only [EV, seval, hc3]; refine hK _ _ _ (show cutK _ _ _ from cutL ⟨_, rfl, h⟩ (Le_can [] [] hρ (by kernel_rfl) ?_ ?_))
     ·simp only [AL, EV, seval, hc3]
     ·simp only [AL, EV, seval, hc3]
   ·rintro S ⟨v1, rfl, h⟩; unfold l_FnPressedRun_j1 at h; injection h with h; subst h; exact AX (b' := 64) [(2, .bool v1)] [] [] [] hρ (EQ [] (by simp only [EV, Try.results5, seval]))
end Go.Proofs.Ytbkkfmcjfbbkaaa
