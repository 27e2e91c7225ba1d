/- Models of functions, and that the functions do what the models say; printed by a program. -/
import Derived.Test.YtbkkfmcjfbbkaaaGn
import Derived.Test.YtbkkfmcjfbbkaaaMu
namespace Go.Proofs.Ytbkkfmcjfbbkaaa
open Go.RowKit
set_option maxRecDepth 100000
set_option linter.unusedVariables false
set_option linter.unusedSimpArgs false
set_option linter.defProp false
/- spec.l26Copy -/
def s_l26Copy (a1 : Int) (a2 : LQ) : Option (Int × LQ) :=
  gd (decide (([] : LQ).length + a2.length ≤ 16777216)) (some (a1, a2))
set_option maxHeartbeats 4000000 in
theorem s_l26Copy_ok {a1 : Int} {a2 : LQ} {r : Int × LQ} (h : s_l26Copy a1 a2 = some r) :
    Spec Try.prog 131 [.agg [.int .i64 a1, .sl (encL EIIII a2) a2.length]] [] (.agg [.int .i64 r.1, .own 0 r.2.length]) [.row 69 4 (encL EIIII r.2)] := by
 unfold s_l26Copy at h; refine spec_of Try.func131 rfl (by kernel_rfl) (by simp only [Try.ntmps131, List.length_cons, List.length_nil, Nat.reduceAdd, Nat.reduceLeDiff]) ?_; intro C hN hρ; rw [Try.ntmps131] at hN; unfold st0; simp only [tmps0, Nat.zero_add, Nat.reduceAdd]; refine AR hN fun K hK => ?_; simp only [EV, seval]; refine hK _ _ _ ?_; clear hK K; refine AW_rsT (BR := BR) [(1, [64]), (5, [1120, 1168])] (by kernel_rfl) FM (by rw [hN]; kernel_rfl) (by kernel_rfl) ?_; intro K hK; obtain ⟨h1, h⟩ := gd_inv h; replace h1 := of_decide_eq_true h1; (try simp only [EV, seval] at h1); have h2 := encL_len EIIIIl a2; simp only [AE, AT, TY, EN, seval, h1, h2]; refine hK _ _ _ ?_; clear hK K; injection h with h; subst h; refine AW_le (Le_can (lt := [(2, .ptr 32 0)]) (lr := [(32, .box 27 [.int .i64 a1, .own 33 a2.length]), (33, .row 69 4 (encL EIIII a2))]) (b' := 64) [(32, some 80), (33, some 1168)] [] hρ (by kernel_rfl) ?_ ?_) (AW_ret (end_q [33] (.inr rfl) (by kernel_rfl) (by kernel_rfl) ?_))
 ·simp only [AL, EV, seval, h1, h2]
 ·simp only [AL, EV, seval, h1, h2]
 ·simp only [EV, Try.results131, seval]
/- impl.inverted -/
def i_inverted_j1 (v5 : LQ) : Option (LQ) :=
  some v5
def i_inverted_l1 (a1 : LQ) : Nat → Int → (LQ) → Option (LQ)
  | 0, _, _ => none
  | n1 + 1, v3, v4 =>
  br (decide (0 ≤ v3)) (bO (geti a1 v3) fun q2 => bO (i_InverseGate q2.1 q2.2.1 q2.2.2.1 q2.2.2.2) fun x2 => gd (decide (v4.length + ([(x2.1, x2.2.1, x2.2.2.1, x2.2.2.2)]).length ≤ 16777216)) ((i_inverted_l1 a1 n1) (IntKind.wrap .i64 (v3 - 1)) (v4 ++ ([(x2.1, x2.2.1, x2.2.2.1, x2.2.2.2)])))) (i_inverted_j1 v4)
def i_inverted (a1 : LQ) : Option (LQ) :=
  i_inverted_l1 a1 FU (IntKind.wrap .i64 (((a1.length : Int)) - 1)) ([] : LQ)
set_option maxHeartbeats 4000000 in
theorem i_inverted_ok {a1 : LQ} {r : LQ} (h : i_inverted a1 = some r) :
    Spec Try.prog 129 [.sl (encL EIIII a1) a1.length] [] (.own 0 r.length) [.row 31 4 (encL EIIII r)] := by
 unfold i_inverted at h; refine spec_of Try.func129 rfl (by kernel_rfl) (by simp only [Try.ntmps129, List.length_cons, List.length_nil, Nat.reduceAdd, Nat.reduceLeDiff]) ?_; intro C hN hρ; rw [Try.ntmps129] at hN; unfold st0; simp only [tmps0, Nat.zero_add, Nat.reduceAdd]; refine AR hN fun K hK => ?_; simp only [EV, seval]; refine hK _ _ _ ?_; clear hK K; refine AR hN fun K hK => ?_; simp only [EV, seval]; refine hK _ _ _ ?_; clear hK K; refine AW_cutK (fun S => ∃ (v5 : LQ), S = ⟨mkT [(3, .own 32 v5.length)], mkR [(32, .row 31 4 (encL EIIII v5))], 64⟩ ∧ i_inverted_j1 v5 = some r) ?_ ?_
 ·refine AR hN fun K hK => ?_; simp only [EV, seval]; refine hK _ _ _ ?_; clear hK K; refine AW_block ?_; refine AW_loopF (fun n S => ∃ (v3 : Int) (v4 : LQ), S = ⟨mkT [(0, .sl (encL EIIII a1) a1.length), (3, .own 32 v4.length), (4, .int .i64 v3)], mkR [(32, .row 31 4 (encL EIIII v4))], 64⟩ ∧ i_inverted_l1 a1 n v3 v4 = some r) FU ?_ ?_ ?_
  ·refine cutL ⟨_, _, rfl, h⟩ (Le_can [(32, some 1088)] [] hρ (by kernel_rfl) ?_ ?_)
   ·simp only [AL, EV, seval]
   ·simp only [AL, EV, seval]
  ·rintro S ⟨_, _, _, h⟩; rw [i_inverted_l1] at h; cases h
  ·rintro n1 S ⟨v3, v4, rfl, h⟩; rw [i_inverted_l1] at h; refine AW_seq ?_; refine AR hN fun K hK => ?_; simp only [EV, seval]; refine hK _ _ _ ?_; clear hK K; refine AW_condK (a := .bool (decide (0 ≤ v3))) (by simp only [EV, seval]) (brK h (fun hc2 h => ?_) (fun hc2 h => ?_))
   ·refine AW_skip (AK ?_); refine AW_seq ?_; refine AW_block ?_; refine AS hN fun K hK => ?_; obtain ⟨q2, h5, h⟩ := bO_inv h; obtain ⟨⟨h6a, h6b⟩, h6c⟩ := geti_E EIIIIl h5; (try simp only [EV, seval] at h6c); obtain ⟨x2, h7, h⟩ := bO_inv h; simp only [EV, seval, h6a, h6b, h6c]; refine rC_p (i_InverseGate_ok h7) (by simp only [AL, EV, seval, h6a, h6b, h6c]) (le_d rfl) (no_j rfl) ?_; obtain ⟨h8, h⟩ := gd_inv h; replace h8 := of_decide_eq_true h8; (try simp only [EV, seval] at h8); simp only [EV, seval, h6a, h6b, h6c, h8]; refine hK _ _ _ (show AW _ _ _ _ _ from ?_); refine AS hN fun K hK => ?_; simp only [EV, seval]; exact hK _ _ _ (AC ⟨_, _, rfl, h⟩ [(32, some 1200)] [] hρ)
   ·refine AW_exit (show cutK _ _ _ from cutL ⟨_, rfl, h⟩ (Le_can [(32, some 32)] [] hρ (by kernel_rfl) ?_ ?_))
    ·simp only [AL, EV, seval]
    ·simp only [AL, EV, seval]
 ·rintro S ⟨v5, rfl, h⟩; unfold i_inverted_j1 at h; refine AR hN fun K hK => ?_; simp only [EV, seval]; refine hK _ _ _ ?_; clear hK K; injection h with h; subst h; exact AX (b' := 64) [(2, .own 32 v5.length)] [(32, .row 31 4 (encL EIIII v5))] [(32, some 32)] [] hρ (EQ [32] (by simp only [EV, Try.results129, seval]))
/- spec.l11Inverse -/
def s_l11Inverse_j1 (v5 : LQ) : Option (LQ) :=
  some v5
def s_l11Inverse_l1 (a1 : LQ) : Nat → Int → (LQ) → Option (LQ)
  | 0, _, _ => none
  | n1 + 1, v3, v4 =>
  br (decide (0 ≤ v3)) (bO (geti a1 v3) fun q2 => bO (s_InverseGate q2.1 q2.2.1 q2.2.2.1 q2.2.2.2) fun x2 => gd (decide (v4.length + ([(x2.1, x2.2.1, x2.2.2.1, x2.2.2.2)]).length ≤ 16777216)) ((s_l11Inverse_l1 a1 n1) (IntKind.wrap .i64 (v3 - 1)) (v4 ++ ([(x2.1, x2.2.1, x2.2.2.1, x2.2.2.2)])))) (s_l11Inverse_j1 v4)
def s_l11Inverse (a1 : LQ) : Option (LQ) :=
  s_l11Inverse_l1 a1 FU (IntKind.wrap .i64 (((a1.length : Int)) - 1)) ([] : LQ)
set_option maxHeartbeats 4000000 in
theorem s_l11Inverse_ok {a1 : LQ} {r : LQ} (h : s_l11Inverse a1 = some r) :
    Spec Try.prog 136 [.sl (encL EIIII a1) a1.length] [] (.own 0 r.length) [.row 31 4 (encL EIIII r)] := by
 unfold s_l11Inverse at h; refine spec_of Try.func136 rfl (by kernel_rfl) (by simp only [Try.ntmps136, List.length_cons, List.length_nil, Nat.reduceAdd, Nat.reduceLeDiff]) ?_; intro C hN hρ; rw [Try.ntmps136] at hN; unfold st0; simp only [tmps0, Nat.zero_add, Nat.reduceAdd]; refine AR hN fun K hK => ?_; simp only [EV, seval]; refine hK _ _ _ ?_; clear hK K; refine AR hN fun K hK => ?_; simp only [EV, seval]; refine hK _ _ _ ?_; clear hK K; refine AW_cutK (fun S => ∃ (v5 : LQ), S = ⟨mkT [(3, .own 32 v5.length)], mkR [(32, .row 31 4 (encL EIIII v5))], 64⟩ ∧ s_l11Inverse_j1 v5 = some r) ?_ ?_
 ·refine AR hN fun K hK => ?_; simp only [EV, seval]; refine hK _ _ _ ?_; clear hK K; refine AW_block ?_; refine AW_loopF (fun n S => ∃ (v3 : Int) (v4 : LQ), S = ⟨mkT [(0, .sl (encL EIIII a1) a1.length), (3, .own 32 v4.length), (4, .int .i64 v3)], mkR [(32, .row 31 4 (encL EIIII v4))], 64⟩ ∧ s_l11Inverse_l1 a1 n v3 v4 = some r) FU ?_ ?_ ?_
  ·refine cutL ⟨_, _, rfl, h⟩ (Le_can [(32, some 1088)] [] hρ (by kernel_rfl) ?_ ?_)
   ·simp only [AL, EV, seval]
   ·simp only [AL, EV, seval]
  ·rintro S ⟨_, _, _, h⟩; rw [s_l11Inverse_l1] at h; cases h
  ·rintro n1 S ⟨v3, v4, rfl, h⟩; rw [s_l11Inverse_l1] at h; refine AW_seq ?_; refine AR hN fun K hK => ?_; simp only [EV, seval]; refine hK _ _ _ ?_; clear hK K; refine AW_condK (a := .bool (decide (0 ≤ v3))) (by simp only [EV, seval]) (brK h (fun hc2 h => ?_) (fun hc2 h => ?_))
   ·refine AW_skip (AK ?_); refine AW_seq ?_; refine AW_block ?_; refine AS hN fun K hK => ?_; obtain ⟨q2, h5, h⟩ := bO_inv h; obtain ⟨⟨h6a, h6b⟩, h6c⟩ := geti_E EIIIIl h5; (try simp only [EV, seval] at h6c); obtain ⟨x2, h7, h⟩ := bO_inv h; simp only [EV, seval, h6a, h6b, h6c]; refine rC_p (s_InverseGate_ok h7) (by simp only [AL, EV, seval, h6a, h6b, h6c]) (le_d rfl) (no_j rfl) ?_; obtain ⟨h8, h⟩ := gd_inv h; replace h8 := of_decide_eq_true h8; (try simp only [EV, seval] at h8); simp only [EV, seval, h6a, h6b, h6c, h8]; refine hK _ _ _ (show AW _ _ _ _ _ from ?_); refine AS hN fun K hK => ?_; simp only [EV, seval]; exact hK _ _ _ (AC ⟨_, _, rfl, h⟩ [(32, some 1200)] [] hρ)
   ·refine AW_exit (show cutK _ _ _ from cutL ⟨_, rfl, h⟩ (Le_can [(32, some 32)] [] hρ (by kernel_rfl) ?_ ?_))
    ·simp only [AL, EV, seval]
    ·simp only [AL, EV, seval]
 ·rintro S ⟨v5, rfl, h⟩; unfold s_l11Inverse_j1 at h; refine AR hN fun K hK => ?_; simp only [EV, seval]; refine hK _ _ _ ?_; clear hK K; injection h with h; subst h; exact AX (b' := 64) [(2, .own 32 v5.length)] [(32, .row 31 4 (encL EIIII v5))] [(32, some 32)] [] hρ (EQ [32] (by simp only [EV, Try.results136, seval]))
/- spec.CosetRepresentative -/
def s_CosetRepresentative (a1 : Int) : Option (LQ) :=
  br (a1 == 1) (bO (s_l14One 4 0) fun x1 => some ([(x1.1, x1.2.1, x1.2.2.1, x1.2.2.2)])) (br (a1 == 2) (bO (s_l14One 6 0) fun x2 => bO (s_l14One 4 0) fun x3 => some ([(x2.1, x2.2.1, x2.2.2.1, x2.2.2.2), (x3.1, x3.2.1, x3.2.2.1, x3.2.2.2)])) (some ([])))
set_option maxHeartbeats 4000000 in
theorem s_CosetRepresentative_ok {a1 : Int} {r : LQ} (h : s_CosetRepresentative a1 = some r) :
    Spec Try.prog 137 [.int .i64 a1] [] (.own 0 r.length) [.row 31 4 (encL EIIII r)] := by
 unfold s_CosetRepresentative at h; refine spec_of Try.func137 rfl (by kernel_rfl) (by simp only [Try.ntmps137, List.length_cons, List.length_nil, Nat.reduceAdd, Nat.reduceLeDiff]) ?_; intro C hN hρ; rw [Try.ntmps137] at hN; unfold st0; simp only [tmps0, Nat.zero_add, Nat.reduceAdd]; refine AR hN fun K hK => ?_; simp only [EV, seval]; refine hK _ _ _ ?_; clear hK K; refine AW_seq ?_; refine AR hN fun K hK => ?_; simp only [EV, seval]; refine hK _ _ _ ?_; clear hK K; refine AW_block ?_; refine AR hN fun K hK => ?_; simp only [EV, seval]; refine hK _ _ _ ?_; clear hK K; refine AW_condK (a := .bool (a1 == 1)) (by simp only [EV, seval]) (brK h (fun hc1 h => ?_) (fun hc1 h => ?_))
 ·refine AR hN fun K hK => ?_; obtain ⟨x1, h1, h⟩ := bO_inv h; simp only [EV, seval]; refine CP (s_l14One_ok h1) ?_; simp only [EV, seval]; refine hK _ _ _ ?_; clear hK K; injection h with h; subst h; exact AX (b' := 64) [(2, .own 32 ([(x1.1, x1.2.1, x1.2.2.1, x1.2.2.2)]).length)] [(32, .row 31 4 (encL EIIII ([(x1.1, x1.2.1, x1.2.2.1, x1.2.2.2)])))] [(32, some 3152)] [] hρ (EQ [32] (by simp only [EV, Try.results137, seval]))
 ·refine AR hN fun K hK => ?_; simp only [EV, seval]; refine hK _ _ _ ?_; clear hK K; refine AW_condK (a := .bool (a1 == 2)) (by simp only [EV, seval]) (brK h (fun hc2 h => ?_) (fun hc2 h => ?_))
  ·refine AR hN fun K hK => ?_; obtain ⟨x2, h2, h⟩ := bO_inv h; simp only [EV, seval]; refine CP (s_l14One_ok h2) ?_; obtain ⟨x3, h3, h⟩ := bO_inv h; simp only [EV, seval]; refine CP (s_l14One_ok h3) ?_; simp only [EV, seval]; refine hK _ _ _ ?_; clear hK K; injection h with h; subst h; exact AX (b' := 64) [(2, .own 32 ([(x2.1, x2.2.1, x2.2.2.1, x2.2.2.2), (x3.1, x3.2.1, x3.2.2.1, x3.2.2.2)]).length)] [(32, .row 31 4 (encL EIIII ([(x2.1, x2.2.1, x2.2.2.1, x2.2.2.2), (x3.1, x3.2.1, x3.2.2.1, x3.2.2.2)])))] [(32, some 4192)] [] hρ (EQ [32] (by simp only [EV, Try.results137, seval]))
  ·refine AW_skip (AK ?_); refine AR hN fun K hK => ?_; simp only [EV, seval]; refine hK _ _ _ ?_; clear hK K; injection h with h; subst h; exact AX (b' := 64) [(2, .own 32 0)] [(32, .row 31 4 (encL EIIII ([])))] [(32, some 4160)] [] hρ (EQ [32] (by simp only [EV, Try.results137, seval]))
end Go.Proofs.Ytbkkfmcjfbbkaaa
