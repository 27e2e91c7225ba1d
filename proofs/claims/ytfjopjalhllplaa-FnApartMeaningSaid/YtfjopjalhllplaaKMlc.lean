/- Models of functions, and that the functions do what the models say; printed by a program. -/
import Derived.Test.YtfjopjalhllplaaK1
import Derived.Test.YtfjopjalhllplaaKMk
import Derived.Test.YtfjopjalhllplaaKMlr
import Derived.Test.YtfjopjalhllplaaKMsf
namespace Go.Proofs.Ytfjopjalhllplaa
open Go.RowKit
set_option maxRecDepth 100000
set_option linter.unusedVariables false
set_option linter.unusedSimpArgs false
set_option linter.defProp false
set_option maxHeartbeats 4000000
/- spec.l6Copy -/
def s_l6Copy (a1 : LF) : Option (LF) :=
  gd (decide (([] : LF).length + a1.length ≤ 16777216)) (some a1)
theorem s_l6Copy_ok {a1 : LF} {r : LF} (h : s_l6Copy a1 = some r) :
    Spec Try.prog 30 [.sl (encL EIIIII a1) a1.length] [] (.own 0 r.length) [.row 45 5 (encL EIIIII r)] := by
 unfold s_l6Copy at h; refine SO Try.func30 rfl Try.ntmps30 fun C hN hρ => ?_; simp only [st0, tmps0, Nat.zero_add, Nat.reduceAdd]; refine AN hN ?_; refine AR hN fun K hK => ?_; obtain ⟨h1, h⟩ := gd_inv h; replace h1 := of_decide_eq_true h1; (try simp only [EV, seval] at h1); have h2 := encL_len EIIIIIl a1; simp only [EV, seval, h1, h2]; refine hK _ _ _ ?_; clear hK K; injection h with h; subst h; refine AW_le (Le_can (lt := [(2, .own 32 a1.length)]) (lr := [(32, .row 45 5 (encL EIIIII a1))]) (b' := 64) [(32, some 1120)] [] hρ (by kernel_rfl) ?_ ?_) (AW_ret (end_q [32] (.inr rfl) (by kernel_rfl) (by kernel_rfl) ?_))
 ·simp only [AL, EV, seval, h1, h2]
 ·simp only [AL, EV, seval, h1, h2]
 ·simp only [EV, Try.results30, seval]
/- spec.l7Copy -/
def s_l7Copy_j1 (v6 : List (LF)) : Option (List (LF)) :=
  some v6
def s_l7Copy_l1 (a1 : List (LF)) : Nat → Int → (List (LF)) → Option (List (LF))
  | 0, _, _ => none
  | n1 + 1, v4, v5 =>
  br (decide (v4 < ((a1.length : Int)))) (bO (geti a1 v4) fun q3 => bO (s_l6Copy q3) fun x3 => gd (decide (v5.length + ([x3]).length ≤ 16777216)) ((s_l7Copy_l1 a1 n1) (IntKind.wrap .i64 (v4 + 1)) (v5 ++ ([x3])))) (s_l7Copy_j1 v5)
def s_l7Copy (a1 : List (LF)) : Option (List (LF)) :=
  s_l7Copy_l1 a1 FU 0 ([] : List (LF))
theorem s_l7Copy_ok {a1 : List (LF)} {r : List (LF)} (h : s_l7Copy a1 = some r) :
    Spec Try.prog 21 [.sl (encL ELIIIIIE a1) a1.length] [] (.own 0 r.length) [.row 39 1 (encL ELIIIIIE r)] := by
 unfold s_l7Copy at h; refine SO Try.func21 rfl Try.ntmps21 fun C hN hρ => ?_; simp only [st0, tmps0, Nat.zero_add, Nat.reduceAdd]; refine AN hN ?_; refine AN hN ?_; refine AW_cutK (fun S => ∃ (v6 : List (LF)), S = ⟨mkT [(3, .own 32 v6.length)], mkR [(32, .row 39 1 (encL ELIIIIIE v6))], 64⟩ ∧ s_l7Copy_j1 v6 = some r) ?_ ?_
 ·refine AN hN ?_; refine AW_block ?_; refine AW_loopF (fun n S => ∃ (v4 : Int) (v5 : List (LF)), S = ⟨mkT [(0, .sl (encL ELIIIIIE a1) a1.length), (3, .own 32 v5.length), (4, .int .i64 v4)], mkR [(32, .row 39 1 (encL ELIIIIIE v5))], 64⟩ ∧ s_l7Copy_l1 a1 n v4 v5 = some r) FU ?_ ?_ ?_
  ·exact AC ⟨_, _, rfl, h⟩ [(32, some 1088)] [] hρ
  ·rintro S ⟨_, _, _, h⟩; rw [s_l7Copy_l1] at h; cases h
  ·rintro n1 S ⟨v4, v5, rfl, h⟩; rw [s_l7Copy_l1] at h; refine AW_seq ?_; refine AN hN ?_; refine AB h (fun hc3 h => ?_) fun hc3 h => ?_
   ·refine AW_skip (AK ?_); refine AW_seq ?_; refine AW_block ?_; refine AS hN fun K hK => ?_; obtain ⟨q3, h9, h⟩ := bO_inv h; obtain ⟨⟨h10a, h10b⟩, h10c⟩ := geti_E ELIIIIIEl h9; (try simp only [EV, seval] at h10c); obtain ⟨x3, h11, h⟩ := bO_inv h; simp only [EV, seval, h10a, h10b, h10c]; refine rC_p (Spec.can (ret2 := .sl (encL EIIIII x3) x3.length) (mem2 := []) (s_l6Copy_ok h11) [] [0] (by kernel_rfl) (by simp only [AL, EV, seval]) (by simp only [AL, EV, seval])) (by simp only [AL, EV, seval, h10a, h10b, h10c]) (le_d rfl) (no_j rfl) ?_; obtain ⟨h12, h⟩ := gd_inv h; replace h12 := of_decide_eq_true h12; (try simp only [EV, seval] at h12); simp only [EV, seval, h10a, h10b, h10c, h12]; refine hK _ _ _ (show AW _ _ _ _ _ from ?_); refine AS hN fun K hK => ?_; simp only [EV, seval]; exact hK _ _ _ (AC ⟨_, _, rfl, h⟩ [(32, some 1200)] [] hρ)
   ·exact AW_exit (AC ⟨_, rfl, h⟩ [(32, some 32)] [] hρ)
 ·rintro S ⟨v6, rfl, h⟩; unfold s_l7Copy_j1 at h; refine AN hN ?_; injection h with h; subst h; exact AX (b' := 64) [(2, .own 32 v6.length)] [(32, .row 39 1 (encL ELIIIIIE v6))] [(32, some 32)] [] hρ (EQ [32])
/- spec.DrawEqualBranches -/
def s_DrawEqualBranches_j1 (x3 : List (Int × List (LF)) × Bool) (v6 : List (Int × List (LF))) : Option (List (Int × List (LF)) × List (Int × List (LF))) :=
  some (x3.1, v6)
def s_DrawEqualBranches_l1 (x3 : List (Int × List (LF)) × Bool) : Nat → Int → (List (Int × List (LF))) → Option (List (Int × List (LF)) × List (Int × List (LF)))
  | 0, _, _ => none
  | n1 + 1, v4, v5 =>
  br (decide (v4 < ((x3.1.length : Int)))) (bO (geti x3.1 v4) fun q3 => bO (s_l7Copy q3.2) fun x9 => gd (decide (v5.length + ([(q3.1, x9)]).length ≤ 16777216)) ((s_DrawEqualBranches_l1 x3 n1) (IntKind.wrap .i64 (v4 + 1)) (v5 ++ ([(q3.1, x9)])))) (s_DrawEqualBranches_j1 x3 v5)
def s_DrawEqualBranches (a1 : List Int) : Option (List (Int × List (LF)) × List (Int × List (LF))) :=
  bO (s_l1New a1) fun x1 => bO (s_l21Right x1.1 x1.2.1 x1.2.2 5) fun x2 => bO (s_Simulate x2.1 x2.2.1 x2.2.2.1 x2.2.2.2.1) fun x3 => bO (s_l1Once x2.2.2.2.2.1 x2.2.2.2.2.2.1 x2.2.2.2.2.2.2 2) fun x4 => br x4.1 (bO (s_l21Right x4.2.1 x4.2.2.1 x4.2.2.2 5) fun x5 => bO (s_Simulate x5.1 x5.2.1 x5.2.2.1 x5.2.2.2.1) fun x6 => some (x3.1, x6.1)) (s_DrawEqualBranches_l1 x3 FU 0 ([] : List (Int × List (LF))))
theorem s_DrawEqualBranches_ok {a1 : List Int} {r : List (Int × List (LF)) × List (Int × List (LF))} (h : s_DrawEqualBranches a1 = some r) :
    Spec Try.prog 11 [.sl (encL EB a1) a1.length] [] (.tup [.own 0 r.1.length, .own 1 r.2.length]) [.row 38 2 (encL EILLIIIIIEE r.1), .row 38 2 (encL EILLIIIIIEE r.2)] := by
 unfold s_DrawEqualBranches at h; refine SO Try.func11 rfl Try.ntmps11 fun C hN hρ => ?_; simp only [st0, tmps0, Nat.zero_add, Nat.reduceAdd]; refine AN hN ?_; refine AR hN fun K hK => ?_; obtain ⟨x1, h1, h⟩ := bO_inv h; simp only [EV, seval]; refine rC_p (s_l1New_ok h1) (by simp only [AL, EV, seval]) (le_d rfl) (site_1 (by simp only [EV, seval])) ?_; simp only [EV, seval]; refine hK _ _ _ ?_; clear hK K; refine AR hN fun K hK => ?_; obtain ⟨x2, h2, h⟩ := bO_inv h; simp only [EV, seval]; refine rR_p [1104] (Spec.can (ret2 := .agg [.int .i64 x2.1, .int .i64 x2.2.1, .int .i64 x2.2.2.1, .sl (encL EIIIIIIII x2.2.2.2.1) x2.2.2.2.1.length]) (mem2 := [.box 52 [.sl (encL EB x2.2.2.2.2.1) x2.2.2.2.2.1.length, .int .i64 x2.2.2.2.2.2.1, .int .i64 x2.2.2.2.2.2.2]]) (s_l21Right_ok h2) [(0, some 0)] [1] (by kernel_rfl) (by simp only [AL, EV, seval]) (by simp only [AL, EV, seval])) (by simp only [AL, EV, seval]) (by simp only [AL, EV, seval]) (by kernel_rfl) (by simp only [EV, solidO, List.mem_cons, List.not_mem_nil, or_false, forall_eq_or_imp, forall_eq, seval]) (le_d rfl) (le_d rfl) (no_j rfl) ?_; obtain ⟨x3, h3, h⟩ := bO_inv h; simp only [EV, seval]; refine rC_p (s_Simulate_ok h3) (by simp only [AL, EV, seval]) (le_d rfl) (site_1 (by simp only [EV, seval])) ?_; simp only [EV, seval]; refine hK _ _ _ ?_; clear hK K; refine AW_seq ?_; refine AR hN fun K hK => ?_; obtain ⟨x4, h4, h⟩ := bO_inv h; simp only [EV, seval]; refine rR_p [1104] (s_l1Once_ok h4) (by simp only [AL, EV, seval]) (by simp only [AL, EV, seval]) (by kernel_rfl) (by simp only [EV, solidO, List.mem_cons, List.not_mem_nil, or_false, forall_eq_or_imp, forall_eq, seval]) (le_d rfl) (le_d rfl) (no_j rfl) ?_; simp only [EV, seval]; refine hK _ _ _ ?_; clear hK K; refine AB h (fun hc1 h => ?_) fun hc1 h => ?_
 ·refine AR hN fun K hK => ?_; obtain ⟨x5, h5, h⟩ := bO_inv h; simp only [EV, seval]; refine rR_p [1104] (Spec.can (ret2 := .agg [.int .i64 x5.1, .int .i64 x5.2.1, .int .i64 x5.2.2.1, .sl (encL EIIIIIIII x5.2.2.2.1) x5.2.2.2.1.length]) (mem2 := [.box 52 [.sl (encL EB x5.2.2.2.2.1) x5.2.2.2.2.1.length, .int .i64 x5.2.2.2.2.2.1, .int .i64 x5.2.2.2.2.2.2]]) (s_l21Right_ok h5) [(0, some 0)] [1] (by kernel_rfl) (by simp only [AL, EV, seval]) (by simp only [AL, EV, seval])) (by simp only [AL, EV, seval]) (by simp only [AL, EV, seval]) (by kernel_rfl) (by simp only [EV, solidO, List.mem_cons, List.not_mem_nil, or_false, forall_eq_or_imp, forall_eq, seval]) (le_d rfl) (le_d rfl) (no_j rfl) ?_; obtain ⟨x6, h6, h⟩ := bO_inv h; simp only [EV, seval]; refine rC_p (s_Simulate_ok h6) (by simp only [AL, EV, seval]) (le_d rfl) (site_1 (by simp only [EV, seval])) ?_; simp only [EV, seval]; refine hK _ _ _ ?_; clear hK K; refine AN hN ?_; injection h with h; subst h; exact AX (b' := 64) [(2, .own 32 x3.1.length), (3, .own 33 x6.1.length)] [(32, .row 38 2 (encL EILLIIIIIEE x3.1)), (33, .row 38 2 (encL EILLIIIIIEE x6.1))] [(32, some 2144), (33, some 4192)] [] hρ (EQ [32, 33])
 ·refine AW_skip (AK ?_); refine AN hN ?_; refine AW_cutK (fun S => ∃ (v6 : List (Int × List (LF))), S = ⟨mkT [(5, .own 32 x3.1.length), (9, .own 33 v6.length)], mkR [(32, .row 38 2 (encL EILLIIIIIEE x3.1)), (33, .row 38 2 (encL EILLIIIIIEE v6))], 64⟩ ∧ s_DrawEqualBranches_j1 x3 v6 = some r) ?_ ?_
  ·refine AN hN ?_; refine AW_block ?_; refine AW_loopF (fun n S => ∃ (v4 : Int) (v5 : List (Int × List (LF))), S = ⟨mkT [(5, .own 32 x3.1.length), (9, .own 33 v5.length), (10, .int .i64 v4)], mkR [(32, .row 38 2 (encL EILLIIIIIEE x3.1)), (33, .row 38 2 (encL EILLIIIIIEE v5))], 64⟩ ∧ s_DrawEqualBranches_l1 x3 n v4 v5 = some r) FU ?_ ?_ ?_
   ·exact AC ⟨_, _, rfl, h⟩ [(32, some 2144), (33, some 4160)] [] hρ
   ·rintro S ⟨_, _, _, h⟩; rw [s_DrawEqualBranches_l1] at h; cases h
   ·rintro n1 S ⟨v4, v5, rfl, h⟩; rw [s_DrawEqualBranches_l1] at h; refine AW_seq ?_; refine AN hN ?_; refine AB h (fun hc4 h => ?_) fun hc4 h => ?_
    ·refine AW_skip (AK ?_); refine AW_seq ?_; refine AW_block ?_; refine AS hN fun K hK => ?_; obtain ⟨q3, h17, h⟩ := bO_inv h; obtain ⟨⟨h18a, h18b⟩, h18c⟩ := geti_E EILLIIIIIEEl h17; (try simp only [EV, seval] at h18c); have h19 := geti_F EILLIIIIIEEl 1 h17; (try simp only [EV, seval] at h19); obtain ⟨x9, h20, h⟩ := bO_inv h; simp only [EV, seval, h18a, h18b, h18c, h19]; refine rC_p (Spec.can (ret2 := .sl (encL ELIIIIIE x9) x9.length) (mem2 := []) (s_l7Copy_ok h20) [] [0] (by kernel_rfl) (by simp only [AL, EV, seval]) (by simp only [AL, EV, seval])) (by simp only [AL, EV, seval, h18a, h18b, h18c, h19]) (le_d rfl) (no_j rfl) ?_; obtain ⟨h21, h⟩ := gd_inv h; replace h21 := of_decide_eq_true h21; (try simp only [EV, seval] at h21); simp only [EV, seval, h18a, h18b, h18c, h19, h21]; refine hK _ _ _ (show AW _ _ _ _ _ from ?_); refine AS hN fun K hK => ?_; simp only [EV, seval]; exact hK _ _ _ (AC ⟨_, _, rfl, h⟩ [(32, some 32), (33, some 1312)] [] hρ)
    ·exact AW_exit (AC ⟨_, rfl, h⟩ [(32, some 32), (33, some 33)] [] hρ)
  ·rintro S ⟨v6, rfl, h⟩; unfold s_DrawEqualBranches_j1 at h; refine AN hN ?_; injection h with h; subst h; exact AX (b' := 64) [(2, .own 32 x3.1.length), (3, .own 33 v6.length)] [(32, .row 38 2 (encL EILLIIIIIEE x3.1)), (33, .row 38 2 (encL EILLIIIIIEE v6))] [(32, some 32), (33, some 33)] [] hρ (EQ [32, 33])
end Go.Proofs.Ytfjopjalhllplaa
