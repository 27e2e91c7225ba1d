/- Models of functions, and that the functions do what the models say; printed by a program. -/
import Derived.Test.YtbkkfmcjfbbkaaaGn
import Derived.Test.YtbkkfmcjfbbkaaaMb
import Derived.Test.YtbkkfmcjfbbkaaaMn
import Derived.Test.YtbkkfmcjfbbkaaaMj
import Derived.Test.YtbkkfmcjfbbkaaaMu
namespace Go.Proofs.Ytbkkfmcjfbbkaaa
open Go.RowKit
set_option maxRecDepth 100000
set_option linter.unusedVariables false
set_option linter.unusedSimpArgs false
set_option linter.defProp false
/- spec.CliffordWord -/
def s_CliffordWord_j1 (a1 : Int) (a2 : LQ) (v1 : Bool) : Option (LQ × Bool) :=
  br v1 (some ([], false)) (bO (s_l29All a1 a2) fun x3 => bO (s_l29Find x3.2 a1 a2) fun x4 => br (decide (x4 < 0)) (some ([], false)) (bO (geti x3.1 x4) fun q1 => gd (decide (([] : LQ).length + q1.length ≤ 16777216)) (some (q1, true))))
def s_CliffordWord (a1 : Int) (a2 : LQ) : Option (LQ × Bool) :=
  bO (s_IsValidTableau a1 a2) fun x1 => bO (br (!x1) (some true) (some (a1 != 1))) fun x2 => s_CliffordWord_j1 a1 a2 x2
set_option maxHeartbeats 4000000 in
theorem s_CliffordWord_ok {a1 : Int} {a2 : LQ} {r : LQ × Bool} (h : s_CliffordWord a1 a2 = some r) :
    Spec Try.prog 30 [.agg [.int .i64 a1, .sl (encL EIIII a2) a2.length]] [] (.tup [.own 0 r.1.length, .bool r.2]) [.row 31 4 (encL EIIII r.1)] := by
 unfold s_CliffordWord at h; refine spec_of Try.func30 rfl (by kernel_rfl) (by simp only [Try.ntmps30, List.length_cons, List.length_nil, Nat.reduceAdd, Nat.reduceLeDiff]) ?_; intro C hN hρ; rw [Try.ntmps30] at hN; unfold st0; simp only [tmps0, Nat.zero_add, Nat.reduceAdd]; refine AR hN fun K hK => ?_; simp only [EV, seval]; refine hK _ _ _ ?_; clear hK K; refine AW_seq ?_; refine AJ (fun S => ∃ (v1 : Bool), S = ⟨mkT [(1, .ptr 32 0), (14, .bool v1)], mkR [(32, .box 27 [.int .i64 a1, .sl (encL EIIII a2) a2.length])], 64⟩ ∧ s_CliffordWord_j1 a1 a2 v1 = some r) hN ?_ ?_
 ·intro K hK; obtain ⟨x1, h1, h⟩ := bO_inv h; simp only [EV, seval]; refine CP (s_IsValidTableau_ok h1) ?_; obtain ⟨x2, hv1, h⟩ := bO_inv h; rcases br_inv hv1 with ⟨hc1, hv1⟩ | ⟨hc1, hv1⟩
  ·cases hv1; simp only [EV, seval, hc1]; refine hK _ _ _ (show cutK _ _ _ from cutL ⟨_, rfl, h⟩ (Le_can [(32, some 64)] [] hρ (by kernel_rfl) ?_ ?_))
   ·simp only [AL, EV, seval, hc1]
   ·simp only [AL, EV, seval, hc1]
  ·cases hv1; simp only [EV, seval, hc1]; refine hK _ _ _ (show cutK _ _ _ from cutL ⟨_, rfl, h⟩ (Le_can [(32, some 64)] [] hρ (by kernel_rfl) ?_ ?_))
   ·simp only [AL, EV, seval, hc1]
   ·simp only [AL, EV, seval, hc1]
 ·rintro S ⟨v1, rfl, h⟩; unfold s_CliffordWord_j1 at h; refine AW_condK (a := .bool v1) (by simp only [EV, seval]) (brK h (fun hc2 h => ?_) (fun hc2 h => ?_))
  ·refine AR hN fun K hK => ?_; simp only [EV, seval]; refine hK _ _ _ ?_; clear hK K; injection h with h; subst h; exact AX (b' := 64) [(2, .own 32 0), (3, .bool false)] [(32, .row 31 4 (encL EIIII ([])))] [(32, some 64)] [] hρ (EQ [32] (by simp only [EV, Try.results30, seval]))
  ·refine AW_skip (AK ?_); refine AR hN fun K hK => ?_; obtain ⟨x3, h2, h⟩ := bO_inv h; simp only [EV, seval]; refine rC_p (s_l29All_ok h2) (by simp only [AL, EV, seval]) (le_d rfl) (site_2 (by simp only [EV, seval])) ?_; simp only [EV, seval]; refine hK _ _ _ ?_; clear hK K; refine AR hN fun K hK => ?_; obtain ⟨x4, h3, h⟩ := bO_inv h; simp only [EV, seval]; refine rC_l (s_l29Find_ok h3) (by simp only [AL, EV, seval]) (by simp only [AL, EF, and_self]) (le_d rfl) (no_j rfl) ?_; simp only [EV, seval]; refine hK _ _ _ ?_; clear hK K; refine AW_seq ?_; refine AR hN fun K hK => ?_; simp only [EV, seval]; refine hK _ _ _ ?_; clear hK K; refine AW_condK (a := .bool (decide (x4 < 0))) (by simp only [EV, seval]) (brK h (fun hc3 h => ?_) (fun hc3 h => ?_))
   ·refine AR hN fun K hK => ?_; simp only [EV, seval]; refine hK _ _ _ ?_; clear hK K; injection h with h; subst h; exact AX (b' := 64) [(2, .own 32 0), (3, .bool false)] [(32, .row 31 4 (encL EIIII ([])))] [(32, some 3136)] [] hρ (EQ [32] (by simp only [EV, Try.results30, seval]))
   ·refine AW_skip (AK ?_); refine AR hN fun K hK => ?_; obtain ⟨q1, h4, h⟩ := bO_inv h; obtain ⟨⟨h5a, h5b⟩, h5c⟩ := geti_E ELIIIIEl h4; (try simp only [EV, seval] at h5c); obtain ⟨h6, h⟩ := gd_inv h; replace h6 := of_decide_eq_true h6; (try simp only [EV, seval] at h6); have h7 := encL_len EIIIIl q1; simp only [EV, seval, h5a, h5b, h5c, h6, h7]; refine hK _ _ _ ?_; clear hK K; injection h with h; subst h; refine AW_le (Le_can (lt := [(2, .own 32 q1.length), (3, .bool true)]) (lr := [(32, .row 31 4 (encL EIIII q1))]) (b' := 64) [(32, some 3216)] [] hρ (by kernel_rfl) ?_ ?_) (AW_ret (end_q [32] (.inr rfl) (by kernel_rfl) (by kernel_rfl) ?_))
    ·simp only [AL, EV, seval, h5a, h5b, h5c, h6, h7]
    ·simp only [AL, EV, seval, h5a, h5b, h5c, h6, h7]
    ·simp only [EV, Try.results30, seval]
/- impl.CliffordWord -/
def i_CliffordWord_j4 (v6 : Int) (v7 : Int) (kl1 : Int → Int → Option (LQ × Bool)) (q3 : LQ) (v8 : Bool) : Option (LQ × Bool) :=
  br v8 (some (q3, true)) (kl1 v6 (IntKind.wrap .i64 (v7 + 1)))
def i_CliffordWord_j1 : Option (LQ × Bool) :=
  some ([], false)
def i_CliffordWord_l1 (a1 : Int) (a2 : LQ) (x1 : List (LQ)) : Nat → Int → Int → Option (LQ × Bool)
  | 0, _, _ => none
  | n1 + 1, v6, v7 =>
  br (decide (v7 < v6)) (bO (geti x1 v7) fun q3 => bO (i_WordTableau q3) fun x8 => bO (br x8.2.2 (bO (i_EqualTableau x8.1 x8.2.1 a1 a2) fun x9 => some x9) (some false)) fun x10 => i_CliffordWord_j4 v6 v7 (i_CliffordWord_l1 a1 a2 x1 n1) q3 x10) (i_CliffordWord_j1)
def i_CliffordWord (a1 : Int) (a2 : LQ) : Option (LQ × Bool) :=
  bO (i_AllCliffordWords) fun x1 => i_CliffordWord_l1 a1 a2 x1 FU ((x1.length : Int)) 0
set_option maxHeartbeats 4000000 in
theorem i_CliffordWord_ok {a1 : Int} {a2 : LQ} {r : LQ × Bool} (h : i_CliffordWord a1 a2 = some r) :
    Spec Try.prog 32 [.agg [.int .i64 a1, .sl (encL EIIII a2) a2.length]] [] (.tup [.sl (encL EIIII r.1) r.1.length, .bool r.2]) [] := by
 unfold i_CliffordWord at h; refine spec_of Try.func32 rfl (by kernel_rfl) (by simp only [Try.ntmps32, List.length_cons, List.length_nil, Nat.reduceAdd, Nat.reduceLeDiff]) ?_; intro C hN hρ; rw [Try.ntmps32] at hN; unfold st0; simp only [tmps0, Nat.zero_add, Nat.reduceAdd]; refine AR hN fun K hK => ?_; simp only [EV, seval]; refine hK _ _ _ ?_; clear hK K; refine AW_cutK (fun S => S = ⟨mkT [], mkR [], 64⟩ ∧ i_CliffordWord_j1 = some r) ?_ ?_
 ·refine AR hN fun K hK => ?_; obtain ⟨x1, h1, h⟩ := bO_inv h; simp only [EV, seval]; refine rC_p (i_AllCliffordWords_ok h1) (by simp only [AL, EV, seval]) (le_d rfl) (site_1 (by simp only [EV, seval])) ?_; simp only [EV, seval]; refine hK _ _ _ ?_; clear hK K; refine AW_block ?_; refine AW_loopF (fun n S => ∃ (v6 : Int) (v7 : Int), S = ⟨mkT [(1, .ptr 32 0), (8, .own 33 x1.length), (9, .int .i64 v6), (10, .int .i64 v7)], mkR [(32, .box 27 [.int .i64 a1, .sl (encL EIIII a2) a2.length]), (33, .row 40 1 (encL ELIIIIE x1))], 64⟩ ∧ i_CliffordWord_l1 a1 a2 x1 n v6 v7 = some r) FU ?_ ?_ ?_
  ·refine cutL ⟨_, _, rfl, h⟩ (Le_can [(32, some 64), (33, some 1088)] [] hρ (by kernel_rfl) ?_ ?_)
   ·simp only [AL, EV, seval]
   ·simp only [AL, EV, seval]
  ·rintro S ⟨_, _, _, h⟩; rw [i_CliffordWord_l1] at h; cases h
  ·rintro n1 S ⟨v6, v7, rfl, h⟩; rw [i_CliffordWord_l1] at h; refine AR hN fun K hK => ?_; simp only [EV, seval]; refine hK _ _ _ ?_; clear hK K; refine AW_seq ?_; refine AW_condK (a := .bool (decide (v7 < v6))) (by simp only [EV, seval]) (brK h (fun hc7 h => ?_) (fun hc7 h => ?_))
   ·refine AW_skip (AK ?_); refine AW_seq ?_; refine AW_block ?_; refine AR hN fun K hK => ?_; obtain ⟨q3, h10, h⟩ := bO_inv h; obtain ⟨⟨h11a, h11b⟩, h11c⟩ := geti_E ELIIIIEl h10; (try simp only [EV, seval] at h11c); simp only [EV, seval, h11a, h11b, h11c]; refine hK _ _ _ ?_; clear hK K; refine AR hN fun K hK => ?_; obtain ⟨x8, h12, h⟩ := bO_inv h; simp only [EV, seval]; refine rC_p (i_WordTableau_ok h12) (by simp only [AL, EV, seval]) (le_d rfl) (site_1 (by simp only [EV, seval])) ?_; simp only [EV, seval]; refine hK _ _ _ ?_; clear hK K; refine AJ (fun S => ∃ (v8 : Bool), S = ⟨mkT [(1, .ptr 32 0), (5, .sl (encL EIIII q3) q3.length), (8, .own 33 x1.length), (9, .int .i64 v6), (10, .int .i64 v7), (24, .bool v8)], mkR [(32, .box 27 [.int .i64 a1, .sl (encL EIIII a2) a2.length]), (33, .row 40 1 (encL ELIIIIE x1))], 64⟩ ∧ i_CliffordWord_j4 v6 v7 (i_CliffordWord_l1 a1 a2 x1 n1) q3 v8 = some r) hN ?_ ?_
    ·intro K hK; obtain ⟨x10, hv3, h⟩ := bO_inv h; rcases br_inv hv3 with ⟨hc8, hv3⟩ | ⟨hc8, hv3⟩
     ·obtain ⟨x11, h14, hv3⟩ := bO_inv hv3; simp only [EV, seval, hc8]; refine rC_l (i_EqualTableau_ok h14) (by simp only [AL, EV, seval, hc8]) (by simp only [AL, EF, and_self]) (le_d rfl) (no_j rfl) ?_; cases hv3; simp only [EV, seval, hc8]; refine hK _ _ _ (show cutK _ _ _ from cutL ⟨_, rfl, h⟩ (Le_can [(32, some 32), (33, some 33)] [] hρ (by kernel_rfl) ?_ ?_))
      ·simp only [AL, EV, seval, hc8]
      ·simp only [AL, EV, seval, hc8]
     ·cases hv3; simp only [EV, seval, hc8]; refine hK _ _ _ (show cutK _ _ _ from cutL ⟨_, rfl, h⟩ (Le_can [(32, some 32), (33, some 33)] [] hρ (by kernel_rfl) ?_ ?_))
      ·simp only [AL, EV, seval, hc8]
      ·simp only [AL, EV, seval, hc8]
    ·rintro S ⟨v8, rfl, h⟩; unfold i_CliffordWord_j4 at h; refine AW_condK (a := .bool v8) (by simp only [EV, seval]) (brK h (fun hc9 h => ?_) (fun hc9 h => ?_))
     ·refine AR hN fun K hK => ?_; simp only [EV, seval]; refine hK _ _ _ ?_; clear hK K; injection h with h; subst h; exact AX (b' := 64) [(2, .sl (encL EIIII q3) q3.length), (3, .bool true)] [] [] [] hρ (EQ [] (by simp only [EV, Try.results32, seval]))
     ·refine AW_skip (AK ?_); refine AS hN fun K hK => ?_; simp only [EV, seval]; exact hK _ _ _ (AC ⟨_, _, rfl, h⟩ [(32, some 32), (33, some 33)] [] hρ)
   ·refine AW_exit (show cutK _ _ _ from cutL ⟨rfl, h⟩ (Le_can [] [] hρ (by kernel_rfl) ?_ ?_))
    ·simp only [AL, EV, seval]
    ·simp only [AL, EV, seval]
 ·rintro S ⟨rfl, h⟩; unfold i_CliffordWord_j1 at h; refine AR hN fun K hK => ?_; simp only [EV, seval]; refine hK _ _ _ ?_; clear hK K; injection h with h; subst h; exact AX (b' := 64) [(2, .sl (encL EIIII ([])) 0), (3, .bool false)] [] [] [] hρ (EQ [] (by simp only [EV, Try.results32, seval]))
/- impl.CosetRepresentative -/
def i_CosetRepresentative (a1 : Int) : Option (LQ) :=
  br (a1 == 1) (bO (i_one 4 0) fun x1 => some ([(x1.1, x1.2.1, x1.2.2.1, x1.2.2.2)])) (br (a1 == 2) (bO (i_one 6 0) fun x2 => bO (i_one 4 0) fun x3 => some ([(x2.1, x2.2.1, x2.2.2.1, x2.2.2.2), (x3.1, x3.2.1, x3.2.2.1, x3.2.2.2)])) (some ([])))
set_option maxHeartbeats 4000000 in
theorem i_CosetRepresentative_ok {a1 : Int} {r : LQ} (h : i_CosetRepresentative a1 = some r) :
    Spec Try.prog 130 [.int .i64 a1] [] (.own 0 r.length) [.row 31 4 (encL EIIII r)] := by
 unfold i_CosetRepresentative at h; refine spec_of Try.func130 rfl (by kernel_rfl) (by simp only [Try.ntmps130, List.length_cons, List.length_nil, Nat.reduceAdd, Nat.reduceLeDiff]) ?_; intro C hN hρ; rw [Try.ntmps130] at hN; unfold st0; simp only [tmps0, Nat.zero_add, Nat.reduceAdd]; refine AR hN fun K hK => ?_; simp only [EV, seval]; refine hK _ _ _ ?_; clear hK K; refine AW_seq ?_; refine AR hN fun K hK => ?_; simp only [EV, seval]; refine hK _ _ _ ?_; clear hK K; refine AW_block ?_; refine AR hN fun K hK => ?_; simp only [EV, seval]; refine hK _ _ _ ?_; clear hK K; refine AW_condK (a := .bool (a1 == 1)) (by simp only [EV, seval]) (brK h (fun hc1 h => ?_) (fun hc1 h => ?_))
 ·refine AR hN fun K hK => ?_; obtain ⟨x1, h1, h⟩ := bO_inv h; simp only [EV, seval]; refine CP (i_one_ok h1) ?_; simp only [EV, seval]; refine hK _ _ _ ?_; clear hK K; injection h with h; subst h; exact AX (b' := 64) [(2, .own 32 ([(x1.1, x1.2.1, x1.2.2.1, x1.2.2.2)]).length)] [(32, .row 31 4 (encL EIIII ([(x1.1, x1.2.1, x1.2.2.1, x1.2.2.2)])))] [(32, some 3152)] [] hρ (EQ [32] (by simp only [EV, Try.results130, seval]))
 ·refine AR hN fun K hK => ?_; simp only [EV, seval]; refine hK _ _ _ ?_; clear hK K; refine AW_condK (a := .bool (a1 == 2)) (by simp only [EV, seval]) (brK h (fun hc2 h => ?_) (fun hc2 h => ?_))
  ·refine AR hN fun K hK => ?_; obtain ⟨x2, h2, h⟩ := bO_inv h; simp only [EV, seval]; refine CP (i_one_ok h2) ?_; obtain ⟨x3, h3, h⟩ := bO_inv h; simp only [EV, seval]; refine CP (i_one_ok h3) ?_; simp only [EV, seval]; refine hK _ _ _ ?_; clear hK K; injection h with h; subst h; exact AX (b' := 64) [(2, .own 32 ([(x2.1, x2.2.1, x2.2.2.1, x2.2.2.2), (x3.1, x3.2.1, x3.2.2.1, x3.2.2.2)]).length)] [(32, .row 31 4 (encL EIIII ([(x2.1, x2.2.1, x2.2.2.1, x2.2.2.2), (x3.1, x3.2.1, x3.2.2.1, x3.2.2.2)])))] [(32, some 4192)] [] hρ (EQ [32] (by simp only [EV, Try.results130, seval]))
  ·refine AW_skip (AK ?_); refine AR hN fun K hK => ?_; simp only [EV, seval]; refine hK _ _ _ ?_; clear hK K; injection h with h; subst h; exact AX (b' := 64) [(2, .own 32 0)] [(32, .row 31 4 (encL EIIII ([])))] [(32, none)] [] hρ (EQ [32] (by simp only [EV, Try.results130, seval]))
end Go.Proofs.Ytbkkfmcjfbbkaaa
