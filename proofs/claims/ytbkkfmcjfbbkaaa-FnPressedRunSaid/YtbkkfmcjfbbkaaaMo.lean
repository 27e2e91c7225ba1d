/- Models of functions, and that the functions do what the models say; printed by a program. -/
import Derived.Test.YtbkkfmcjfbbkaaaGn
import Derived.Test.YtbkkfmcjfbbkaaaMcn
import Derived.Test.YtbkkfmcjfbbkaaaMnw
import Derived.Test.YtbkkfmcjfbbkaaaMu
import Derived.Test.YtbkkfmcjfbbkaaaMv
namespace Go.Proofs.Ytbkkfmcjfbbkaaa
open Go.RowKit
set_option maxRecDepth 100000
set_option linter.unusedVariables false
set_option linter.unusedSimpArgs false
set_option linter.defProp false
/- impl.NormalFormGates -/
def i_NormalFormGates_j1 (a2 : Int) (a3 : LQ) (v9 : LQ) : Option (LQ) :=
  bO (i_CliffordWord a2 a3) fun x8 => gd (decide (v9.length + x8.1.length ≤ 16777216)) (some (v9 ++ x8.1))
def i_NormalFormGates_l1 (a1 : List Int) (a2 : Int) (a3 : LQ) : Nat → Int → Int → (LQ) → Option (LQ)
  | 0, _, _, _ => none
  | n1 + 1, v6, v7, v8 =>
  br (decide (v7 < v6)) (bO (geti a1 v7) fun q3 => bO (i_CosetRepresentative q3) fun x6 => gd (decide (v8.length + x6.length ≤ 16777216)) (bO (i_one 7 0) fun x7 => gd (decide ((v8 ++ x6).length + ([(x7.1, x7.2.1, x7.2.2.1, x7.2.2.2)]).length ≤ 16777216)) ((i_NormalFormGates_l1 a1 a2 a3 n1) v6 (IntKind.wrap .i64 (v7 + 1)) ((v8 ++ x6) ++ ([(x7.1, x7.2.1, x7.2.2.1, x7.2.2.2)]))))) (i_NormalFormGates_j1 a2 a3 v8)
def i_NormalFormGates (a1 : List Int) (a2 : Int) (a3 : LQ) : Option (LQ) :=
  bO (i_IsValidNormalForm a1 a2 a3) fun x1 => br (!x1) (some ([])) (i_NormalFormGates_l1 a1 a2 a3 FU ((a1.length : Int)) 0 ([] : LQ))
set_option maxHeartbeats 4000000 in
theorem i_NormalFormGates_ok {a1 : List Int} {a2 : Int} {a3 : LQ} {r : LQ} (h : i_NormalFormGates a1 a2 a3 = some r) :
    Spec Try.prog 80 [.agg [.sl (encL EI a1) a1.length, .int .i64 a2, .sl (encL EIIII a3) a3.length]] [] (.own 0 r.length) [.row 31 4 (encL EIIII r)] := by
 unfold i_NormalFormGates at h; refine spec_of Try.func80 rfl (by kernel_rfl) (by simp only [Try.ntmps80, List.length_cons, List.length_nil, Nat.reduceAdd, Nat.reduceLeDiff]) ?_; intro C hN hρ; rw [Try.ntmps80] at hN; unfold st0; simp only [tmps0, Nat.zero_add, Nat.reduceAdd]; refine AR hN fun K hK => ?_; simp only [EV, seval]; refine hK _ _ _ ?_; clear hK K; refine AW_seq ?_; refine AR hN fun K hK => ?_; obtain ⟨x1, h1, h⟩ := bO_inv h; simp only [EV, seval]; refine CP (i_IsValidNormalForm_ok h1) ?_; simp only [EV, seval]; refine hK _ _ _ ?_; clear hK K; refine AW_condK (a := .bool (!x1)) (by simp only [EV, seval]) (brK h (fun hc1 h => ?_) (fun hc1 h => ?_))
 ·refine AR hN fun K hK => ?_; simp only [EV, seval]; refine hK _ _ _ ?_; clear hK K; injection h with h; subst h; refine AW_le (Le_can (lt := [(2, .own 32 0)]) (lr := [(32, .row 31 4 (encL EIIII ([])))]) (b' := 64) [(32, none)] [] hρ (by kernel_rfl) ?_ ?_) (AW_ret (end_q [32] (.inr rfl) (by kernel_rfl) (by kernel_rfl) ?_))
  ·simp only [AL, EV, seval] <;> omega
  ·simp only [AL, EV, seval] <;> omega
  ·simp only [EV, Try.results80, seval]
 ·refine AW_skip (AK ?_); refine AR hN fun K hK => ?_; simp only [EV, seval]; refine hK _ _ _ ?_; clear hK K; refine AW_cutK (fun S => ∃ (v9 : LQ), S = ⟨mkT [(1, .ptr 32 0), (3, .own 33 v9.length)], mkR [(32, .box 29 [.sl (encL EI a1) a1.length, .int .i64 a2, .sl (encL EIIII a3) a3.length]), (33, .row 31 4 (encL EIIII v9))], 64⟩ ∧ i_NormalFormGates_j1 a2 a3 v9 = some r) ?_ ?_
  ·refine AR hN fun K hK => ?_; simp only [EV, seval]; refine hK _ _ _ ?_; clear hK K; refine AW_block ?_; refine AW_loopF (fun n S => ∃ (v6 : Int) (v7 : Int) (v8 : LQ), S = ⟨mkT [(1, .ptr 32 0), (3, .own 33 v8.length), (13, .sl (encL EI a1) a1.length), (14, .int .i64 v6), (15, .int .i64 v7)], mkR [(32, .box 29 [.sl (encL EI a1) a1.length, .int .i64 a2, .sl (encL EIIII a3) a3.length]), (33, .row 31 4 (encL EIIII v8))], 64⟩ ∧ i_NormalFormGates_l1 a1 a2 a3 n v6 v7 v8 = some r) FU ?_ ?_ ?_
   ·refine cutL ⟨_, _, _, rfl, h⟩ (Le_can [(32, some 64), (33, some 2112)] [] hρ (by kernel_rfl) ?_ ?_)
    ·simp only [AL, EV, seval] <;> omega
    ·simp only [AL, EV, seval] <;> omega
   ·rintro S ⟨_, _, _, _, h⟩; rw [i_NormalFormGates_l1] at h; cases h
   ·rintro n1 S ⟨v6, v7, v8, rfl, h⟩; rw [i_NormalFormGates_l1] at h; refine AR hN fun K hK => ?_; simp only [EV, seval]; refine hK _ _ _ ?_; clear hK K; refine AW_seq ?_; refine AW_condK (a := .bool (decide (v7 < v6))) (by simp only [EV, seval]) (brK h (fun hc4 h => ?_) (fun hc4 h => ?_))
    ·refine AW_skip (AK ?_); refine AW_seq ?_; refine AW_block ?_; refine AR hN fun K hK => ?_; obtain ⟨q3, h14, h⟩ := bO_inv h; obtain ⟨⟨h15a, h15b⟩, h15c⟩ := geti_E EIl h14; (try simp only [EV, seval] at h15c); simp only [EV, seval, h15a, h15b, h15c]; refine hK _ _ _ ?_; clear hK K; refine AS hN fun K hK => ?_; obtain ⟨x6, h16, h⟩ := bO_inv h; simp only [EV, seval]; refine rC_p (i_CosetRepresentative_ok h16) (by simp only [AL, EV, seval]) (le_d rfl) (site_1 (by simp only [EV, seval])) ?_; obtain ⟨h17, h⟩ := gd_inv h; replace h17 := of_decide_eq_true h17; (try simp only [EV, seval] at h17); obtain ⟨x7, h18, h⟩ := bO_inv h; simp only [EV, seval, h17]; refine rC_p (i_one_ok h18) (by simp only [AL, EV, seval, h17]) (le_d rfl) (no_j rfl) ?_; obtain ⟨h19, h⟩ := gd_inv h; replace h19 := of_decide_eq_true h19; (try simp only [EV, seval] at h19); simp only [EV, seval, h17, h19]; refine hK _ _ _ (show AW _ _ _ _ _ from ?_); refine AS hN fun K hK => ?_; simp only [EV, seval]; refine hK _ _ _ (show cutK _ _ _ from cutL ⟨_, _, _, rfl, h⟩ (Le_can [(32, some 32), (33, some 2208)] [] hρ (by kernel_rfl) ?_ ?_))
     ·simp only [AL, EV, seval] <;> omega
     ·simp only [AL, EV, seval] <;> omega
    ·refine AW_exit (show cutK _ _ _ from cutL ⟨_, rfl, h⟩ (Le_can [(32, some 32), (33, some 33)] [] hρ (by kernel_rfl) ?_ ?_))
     ·simp only [AL, EV, seval] <;> omega
     ·simp only [AL, EV, seval] <;> omega
  ·rintro S ⟨v9, rfl, h⟩; unfold i_NormalFormGates_j1 at h; refine AR hN fun K hK => ?_; obtain ⟨x8, h20, h⟩ := bO_inv h; simp only [EV, seval]; refine CP (i_CliffordWord_ok h20) ?_; simp only [EV, seval]; refine hK _ _ _ ?_; clear hK K; refine AR hN fun K hK => ?_; obtain ⟨h21, h⟩ := gd_inv h; replace h21 := of_decide_eq_true h21; (try simp only [EV, seval] at h21); have h22 := encL_len EIIIIl x8.1; simp only [EV, seval, h21, h22]; refine hK _ _ _ ?_; clear hK K; injection h with h; subst h; refine AW_le (Le_can (lt := [(2, .own 32 (v9 ++ x8.1).length)]) (lr := [(32, .row 31 4 (encL EIIII (v9 ++ x8.1)))]) (b' := 64) [(32, some 1120)] [] hρ (by kernel_rfl) ?_ ?_) (AW_ret (end_q [32] (.inr rfl) (by kernel_rfl) (by kernel_rfl) ?_))
   ·simp only [AL, EV, seval, h21, h22] <;> omega
   ·simp only [AL, EV, seval, h21, h22] <;> omega
   ·simp only [EV, Try.results80, seval]
/- spec.NormalFormGates -/
def s_NormalFormGates_j1 (a2 : Int) (a3 : LQ) (v6 : LQ) : Option (LQ) :=
  bO (s_CliffordWord a2 a3) fun x8 => gd (decide (v6.length + x8.1.length ≤ 16777216)) (some (v6 ++ x8.1))
def s_NormalFormGates_l1 (a1 : List Int) (a2 : Int) (a3 : LQ) : Nat → Int → (LQ) → Option (LQ)
  | 0, _, _ => none
  | n1 + 1, v4, v5 =>
  br (decide (v4 < ((a1.length : Int)))) (bO (geti a1 v4) fun q3 => bO (s_CosetRepresentative q3) fun x6 => gd (decide (v5.length + x6.length ≤ 16777216)) (bO (s_l14One 7 0) fun x7 => gd (decide ((v5 ++ x6).length + ([(x7.1, x7.2.1, x7.2.2.1, x7.2.2.2)]).length ≤ 16777216)) ((s_NormalFormGates_l1 a1 a2 a3 n1) (IntKind.wrap .i64 (v4 + 1)) ((v5 ++ x6) ++ ([(x7.1, x7.2.1, x7.2.2.1, x7.2.2.2)]))))) (s_NormalFormGates_j1 a2 a3 v5)
def s_NormalFormGates (a1 : List Int) (a2 : Int) (a3 : LQ) : Option (LQ) :=
  bO (s_IsValidNormalForm a1 a2 a3) fun x1 => br (!x1) (some ([])) (s_NormalFormGates_l1 a1 a2 a3 FU 0 ([] : LQ))
set_option maxHeartbeats 4000000 in
theorem s_NormalFormGates_ok {a1 : List Int} {a2 : Int} {a3 : LQ} {r : LQ} (h : s_NormalFormGates a1 a2 a3 = some r) :
    Spec Try.prog 73 [.agg [.sl (encL EI a1) a1.length, .int .i64 a2, .sl (encL EIIII a3) a3.length]] [] (.own 0 r.length) [.row 31 4 (encL EIIII r)] := by
 unfold s_NormalFormGates at h; refine spec_of Try.func73 rfl (by kernel_rfl) (by simp only [Try.ntmps73, List.length_cons, List.length_nil, Nat.reduceAdd, Nat.reduceLeDiff]) ?_; intro C hN hρ; rw [Try.ntmps73] at hN; unfold st0; simp only [tmps0, Nat.zero_add, Nat.reduceAdd]; refine AR hN fun K hK => ?_; simp only [EV, seval]; refine hK _ _ _ ?_; clear hK K; refine AR hN fun K hK => ?_; simp only [EV, seval]; refine hK _ _ _ ?_; clear hK K; refine AW_seq ?_; refine AR hN fun K hK => ?_; obtain ⟨x1, h1, h⟩ := bO_inv h; simp only [EV, seval]; refine CP (s_IsValidNormalForm_ok h1) ?_; simp only [EV, seval]; refine hK _ _ _ ?_; clear hK K; refine AW_condK (a := .bool (!x1)) (by simp only [EV, seval]) (brK h (fun hc1 h => ?_) (fun hc1 h => ?_))
 ·refine AR hN fun K hK => ?_; simp only [EV, seval]; refine hK _ _ _ ?_; clear hK K; injection h with h; subst h; refine AW_le (Le_can (lt := [(2, .own 32 0)]) (lr := [(32, .row 31 4 (encL EIIII ([])))]) (b' := 64) [(32, some 1088)] [] hρ (by kernel_rfl) ?_ ?_) (AW_ret (end_q [32] (.inr rfl) (by kernel_rfl) (by kernel_rfl) ?_))
  ·simp only [AL, EV, seval] <;> omega
  ·simp only [AL, EV, seval] <;> omega
  ·simp only [EV, Try.results73, seval]
 ·refine AW_skip (AK ?_); refine AW_cutK (fun S => ∃ (v6 : LQ), S = ⟨mkT [(1, .ptr 32 0), (3, .own 33 v6.length)], mkR [(32, .box 29 [.sl (encL EI a1) a1.length, .int .i64 a2, .sl (encL EIIII a3) a3.length]), (33, .row 31 4 (encL EIIII v6))], 64⟩ ∧ s_NormalFormGates_j1 a2 a3 v6 = some r) ?_ ?_
  ·refine AR hN fun K hK => ?_; simp only [EV, seval]; refine hK _ _ _ ?_; clear hK K; refine AW_block ?_; refine AW_loopF (fun n S => ∃ (v4 : Int) (v5 : LQ), S = ⟨mkT [(1, .ptr 32 0), (3, .own 33 v5.length), (4, .int .i64 v4)], mkR [(32, .box 29 [.sl (encL EI a1) a1.length, .int .i64 a2, .sl (encL EIIII a3) a3.length]), (33, .row 31 4 (encL EIIII v5))], 64⟩ ∧ s_NormalFormGates_l1 a1 a2 a3 n v4 v5 = some r) FU ?_ ?_ ?_
   ·refine cutL ⟨_, _, rfl, h⟩ (Le_can [(32, some 64), (33, some 1088)] [] hρ (by kernel_rfl) ?_ ?_)
    ·simp only [AL, EV, seval] <;> omega
    ·simp only [AL, EV, seval] <;> omega
   ·rintro S ⟨_, _, _, h⟩; rw [s_NormalFormGates_l1] at h; cases h
   ·rintro n1 S ⟨v4, v5, rfl, h⟩; rw [s_NormalFormGates_l1] at h; refine AW_seq ?_; refine AR hN fun K hK => ?_; simp only [EV, seval]; refine hK _ _ _ ?_; clear hK K; refine AW_condK (a := .bool (decide (v4 < ((a1.length : Int))))) (by simp only [EV, seval]) (brK h (fun hc4 h => ?_) (fun hc4 h => ?_))
    ·refine AW_skip (AK ?_); refine AW_seq ?_; refine AW_block ?_; refine AS hN fun K hK => ?_; obtain ⟨q3, h14, h⟩ := bO_inv h; obtain ⟨⟨h15a, h15b⟩, h15c⟩ := geti_E EIl h14; (try simp only [EV, seval] at h15c); obtain ⟨x6, h16, h⟩ := bO_inv h; simp only [EV, seval, h15a, h15b, h15c]; refine rC_p (s_CosetRepresentative_ok h16) (by simp only [AL, EV, seval, h15a, h15b, h15c]) (le_d rfl) (site_1 (by simp only [EV, seval])) ?_; obtain ⟨h17, h⟩ := gd_inv h; replace h17 := of_decide_eq_true h17; (try simp only [EV, seval] at h17); obtain ⟨x7, h18, h⟩ := bO_inv h; simp only [EV, seval, h15a, h15b, h15c, h17]; refine rC_p (s_l14One_ok h18) (by simp only [AL, EV, seval, h15a, h15b, h15c, h17]) (le_d rfl) (no_j rfl) ?_; obtain ⟨h19, h⟩ := gd_inv h; replace h19 := of_decide_eq_true h19; (try simp only [EV, seval] at h19); simp only [EV, seval, h15a, h15b, h15c, h17, h19]; refine hK _ _ _ (show AW _ _ _ _ _ from ?_); refine AS hN fun K hK => ?_; simp only [EV, seval]; refine hK _ _ _ (show cutK _ _ _ from cutL ⟨_, _, rfl, h⟩ (Le_can [(32, some 32), (33, some 1248)] [] hρ (by kernel_rfl) ?_ ?_))
     ·simp only [AL, EV, seval] <;> omega
     ·simp only [AL, EV, seval] <;> omega
    ·refine AW_exit (show cutK _ _ _ from cutL ⟨_, rfl, h⟩ (Le_can [(32, some 32), (33, some 33)] [] hρ (by kernel_rfl) ?_ ?_))
     ·simp only [AL, EV, seval] <;> omega
     ·simp only [AL, EV, seval] <;> omega
  ·rintro S ⟨v6, rfl, h⟩; unfold s_NormalFormGates_j1 at h; refine AR hN fun K hK => ?_; obtain ⟨x8, h20, h⟩ := bO_inv h; simp only [EV, seval]; refine rC_p (s_CliffordWord_ok h20) (by simp only [AL, EV, seval]) (le_d rfl) (site_1 (by simp only [EV, seval])) ?_; simp only [EV, seval]; refine hK _ _ _ ?_; clear hK K; refine AR hN fun K hK => ?_; obtain ⟨h21, h⟩ := gd_inv h; replace h21 := of_decide_eq_true h21; (try simp only [EV, seval] at h21); simp only [EV, seval, h21]; refine hK _ _ _ ?_; clear hK K; injection h with h; subst h; refine AW_le (Le_can (lt := [(2, .own 32 (v6 ++ x8.1).length)]) (lr := [(32, .row 31 4 (encL EIIII (v6 ++ x8.1)))]) (b' := 64) [(32, some 1120)] [] hρ (by kernel_rfl) ?_ ?_) (AW_ret (end_q [32] (.inr rfl) (by kernel_rfl) (by kernel_rfl) ?_))
   ·simp only [AL, EV, seval, h21] <;> omega
   ·simp only [AL, EV, seval, h21] <;> omega
   ·simp only [EV, Try.results73, seval]
end Go.Proofs.Ytbkkfmcjfbbkaaa
