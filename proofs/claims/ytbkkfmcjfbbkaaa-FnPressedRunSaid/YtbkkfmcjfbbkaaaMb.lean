/- Models of functions, and that the functions do what the models say; printed by a program. -/
import Derived.Test.YtbkkfmcjfbbkaaaGn
import Derived.Test.YtbkkfmcjfbbkaaaMa
namespace Go.Proofs.Ytbkkfmcjfbbkaaa
open Go.RowKit
set_option maxRecDepth 100000
set_option linter.unusedVariables false
set_option linter.unusedSimpArgs false
set_option linter.defProp false
/- impl.IsValidTableau -/
def i_IsValidTableau_j7 (v17 : Int) (v18 : Int) (kl3 : Int → Int → Option Bool) : Option Bool :=
  kl3 v17 (IntKind.wrap .i64 (v18 + 1))
def i_IsValidTableau_l7 (a1 : Int) (v17 : Int) (v18 : Int) (kl3 : Int → Int → Option Bool) (q9 : Int × Int × Int × Int) (l6 : LQ) : Nat → Int → Int → Option Bool
  | 0, _, _ => none
  | n4 + 1, v23, v24 =>
  br (decide (v24 < v23)) (bO (geti l6 v24) fun q12 => bO (i_PaulisCommute q12.1 q12.2.1 q12.2.2.1 q12.2.2.2 q9.1 q9.2.1 q9.2.2.1 q9.2.2.2) fun x18 => br (x18 == (v18 == (IntKind.wrap .i64 (v24 + a1)))) (some false) ((i_IsValidTableau_l7 a1 v17 v18 kl3 q9 l6 n4) v23 (IntKind.wrap .i64 (v24 + 1)))) (i_IsValidTableau_j7 v17 v18 kl3)
def i_IsValidTableau_j8 (a1 : Int) (a2 : LQ) (v17 : Int) (v18 : Int) (kl3 : Int → Int → Option Bool) (q9 : Int × Int × Int × Int) (v19 : Bool) : Option Bool :=
  br v19 (some false) (bO (slc a2 0 v18) fun l6 => i_IsValidTableau_l7 a1 v17 v18 kl3 q9 l6 FU ((l6.length : Int)) 0)
def i_IsValidTableau_j2 : Option Bool :=
  some true
def i_IsValidTableau_l1 (a1 : Int) (a2 : LQ) : Nat → Int → Int → Option Bool
  | 0, _, _ => none
  | n3 + 1, v17, v18 =>
  br (decide (v18 < v17)) (bO (geti a2 v18) fun q9 => bO (br (q9.1 != a1) (some true) (bO (i_IsHermitianPauli q9.1 q9.2.1 q9.2.2.1 q9.2.2.2) fun x13 => some (!x13))) fun x14 => i_IsValidTableau_j8 a1 a2 v17 v18 (i_IsValidTableau_l1 a1 a2 n3) q9 x14) (i_IsValidTableau_j2)
def i_IsValidTableau_j1 (a1 : Int) (a2 : LQ) (v1 : Bool) : Option Bool :=
  br v1 (some false) (i_IsValidTableau_l1 a1 a2 FU ((a2.length : Int)) 0)
def i_IsValidTableau (a1 : Int) (a2 : LQ) : Option Bool :=
  bO (i_in a1 1 4) fun x1 => bO (br (!x1) (some true) (some (((a2.length : Int)) != (IntKind.wrap .i64 (2 * a1))))) fun x2 => i_IsValidTableau_j1 a1 a2 x2
set_option maxHeartbeats 4000000 in
theorem i_IsValidTableau_ok {a1 : Int} {a2 : LQ} {r : Bool} (h : i_IsValidTableau a1 a2 = some r) :
    Spec Try.prog 126 [.agg [.int .i64 a1, .sl (encL EIIII a2) a2.length]] [] (.bool r) [] := by
 unfold i_IsValidTableau at h; refine spec_of Try.func126 rfl (by kernel_rfl) (by simp only [Try.ntmps126, List.length_cons, List.length_nil, Nat.reduceAdd, Nat.reduceLeDiff]) ?_; intro C hN hρ; rw [Try.ntmps126] at hN; unfold st0; simp only [tmps0, Nat.zero_add, Nat.reduceAdd]; refine AR hN fun K hK => ?_; simp only [EV, seval]; refine hK _ _ _ ?_; clear hK K; refine AW_seq ?_; refine AJ (fun S => ∃ (v1 : Bool), S = ⟨mkT [(1, .ptr 32 0), (19, .bool v1)], mkR [(32, .box 27 [.int .i64 a1, .sl (encL EIIII a2) a2.length])], 64⟩ ∧ i_IsValidTableau_j1 a1 a2 v1 = some r) hN ?_ ?_
 ·intro K hK; obtain ⟨x1, h1, h⟩ := bO_inv h; simp only [EV, seval]; refine CP (i_in_ok h1) ?_; obtain ⟨x2, hv1, h⟩ := bO_inv h; rcases br_inv hv1 with ⟨hc1, hv1⟩ | ⟨hc1, hv1⟩
  ·cases hv1; simp only [EV, seval, hc1]; refine hK _ _ _ (show cutK _ _ _ from cutL ⟨_, rfl, h⟩ (Le_can [(32, some 64)] [] hρ (by kernel_rfl) ?_ ?_))
   ·simp only [AL, EV, seval, hc1]
   ·simp only [AL, EV, seval, hc1]
  ·cases hv1; simp only [EV, seval, hc1]; refine hK _ _ _ (show cutK _ _ _ from cutL ⟨_, rfl, h⟩ (Le_can [(32, some 64)] [] hρ (by kernel_rfl) ?_ ?_))
   ·simp only [AL, EV, seval, hc1]
   ·simp only [AL, EV, seval, hc1]
 ·rintro S ⟨v1, rfl, h⟩; unfold i_IsValidTableau_j1 at h; refine AW_condK (a := .bool v1) (by simp only [EV, seval]) (brK h (fun hc2 h => ?_) (fun hc2 h => ?_))
  ·refine AR hN fun K hK => ?_; simp only [EV, seval]; refine hK _ _ _ ?_; clear hK K; injection h with h; subst h; exact AX (b' := 64) [(2, .bool false)] [] [] [] hρ (EQ [] (by simp only [EV, Try.results126, seval]))
  ·refine AW_skip (AK ?_); refine AW_cutK (fun S => S = ⟨mkT [], mkR [], 64⟩ ∧ i_IsValidTableau_j2 = some r) ?_ ?_
   ·refine AR hN fun K hK => ?_; simp only [EV, seval]; refine hK _ _ _ ?_; clear hK K; refine AW_block ?_; refine AW_loopF (fun n S => ∃ (v17 : Int) (v18 : Int), S = ⟨mkT [(1, .ptr 32 0), (21, .sl (encL EIIII a2) a2.length), (22, .int .i64 v17), (23, .int .i64 v18)], mkR [(32, .box 27 [.int .i64 a1, .sl (encL EIIII a2) a2.length])], 64⟩ ∧ i_IsValidTableau_l1 a1 a2 n v17 v18 = some r) FU ?_ ?_ ?_
    ·refine cutL ⟨_, _, rfl, h⟩ (Le_can [(32, some 32)] [] hρ (by kernel_rfl) ?_ ?_)
     ·simp only [AL, EV, seval]
     ·simp only [AL, EV, seval]
    ·rintro S ⟨_, _, _, h⟩; rw [i_IsValidTableau_l1] at h; cases h
    ·rintro n3 S ⟨v17, v18, rfl, h⟩; rw [i_IsValidTableau_l1] at h; refine AR hN fun K hK => ?_; simp only [EV, seval]; refine hK _ _ _ ?_; clear hK K; refine AW_seq ?_; refine AW_condK (a := .bool (decide (v18 < v17))) (by simp only [EV, seval]) (brK h (fun hc21 h => ?_) (fun hc21 h => ?_))
     ·refine AW_skip (AK ?_); refine AW_cutK (fun S => S = ⟨mkT [(1, .ptr 32 0), (21, .sl (encL EIIII a2) a2.length), (22, .int .i64 v17), (23, .int .i64 v18)], mkR [(32, .box 27 [.int .i64 a1, .sl (encL EIIII a2) a2.length])], 64⟩ ∧ i_IsValidTableau_j7 v17 v18 (i_IsValidTableau_l1 a1 a2 n3) = some r) ?_ ?_
      ·refine AW_block ?_; refine AR hN fun K hK => ?_; obtain ⟨q9, h30, h⟩ := bO_inv h; obtain ⟨⟨h31a, h31b⟩, h31c⟩ := geti_E EIIIIl h30; (try simp only [EV, seval] at h31c); simp only [EV, seval, h31a, h31b, h31c]; refine hK _ _ _ ?_; clear hK K; refine AW_seq ?_; refine AJ (fun S => ∃ (v19 : Bool), S = ⟨mkT [(1, .ptr 32 0), (3, .int .i64 v18), (4, .ptr 33 0), (21, .sl (encL EIIII a2) a2.length), (22, .int .i64 v17), (23, .int .i64 v18), (37, .bool v19)], mkR [(32, .box 27 [.int .i64 a1, .sl (encL EIIII a2) a2.length]), (33, .box 69 [.int .i64 q9.1, .int .i64 q9.2.1, .int .i64 q9.2.2.1, .int .i64 q9.2.2.2])], 64⟩ ∧ i_IsValidTableau_j8 a1 a2 v17 v18 (i_IsValidTableau_l1 a1 a2 n3) q9 v19 = some r) hN ?_ ?_
       ·intro K hK; obtain ⟨x14, hv4, h⟩ := bO_inv h; rcases br_inv hv4 with ⟨hc22, hv4⟩ | ⟨hc22, hv4⟩
        ·cases hv4; simp only [EV, seval, hc22]; refine hK _ _ _ (show cutK _ _ _ from cutL ⟨_, rfl, h⟩ (Le_can [(32, some 32), (33, some 1136)] [] hρ (by kernel_rfl) ?_ ?_))
         ·simp only [AL, EV, seval, hc22]
         ·simp only [AL, EV, seval, hc22]
        ·obtain ⟨x15, h33, hv4⟩ := bO_inv hv4; simp only [EV, seval, hc22]; refine rC_p (i_IsHermitianPauli_ok h33) (by simp only [AL, EV, seval, hc22]) (le_d rfl) (no_j rfl) ?_; cases hv4; simp only [EV, seval, hc22]; refine hK _ _ _ (show cutK _ _ _ from cutL ⟨_, rfl, h⟩ (Le_can [(32, some 32), (33, some 1136)] [] hρ (by kernel_rfl) ?_ ?_))
         ·simp only [AL, EV, seval, hc22]
         ·simp only [AL, EV, seval, hc22]
       ·rintro S ⟨v19, rfl, h⟩; unfold i_IsValidTableau_j8 at h; refine AW_condK (a := .bool v19) (by simp only [EV, seval, h31a, h31b, h31c]) (brK h (fun hc23 h => ?_) (fun hc23 h => ?_))
        ·refine AR hN fun K hK => ?_; simp only [EV, seval]; refine hK _ _ _ ?_; clear hK K; injection h with h; subst h; exact AX (b' := 64) [(2, .bool false)] [] [] [] hρ (EQ [] (by simp only [EV, Try.results126, seval]))
        ·refine AW_skip (AK ?_); refine AR hN fun K hK => ?_; obtain ⟨l6, h34, h⟩ := bO_inv h; obtain ⟨⟨h35a, h35b, h35c⟩, h35d, h35e⟩ := slc_E EIIIIl h34; (try simp only [EV, seval] at h35d); (try simp only [EV, seval] at h35e); (try simp only [EV, seval] at h35a); (try simp only [EV, seval] at h35b); (try simp only [EV, seval] at h35c); simp only [EV, seval, h35a, h35b, h35c, h35d, h35e]; refine hK _ _ _ ?_; clear hK K; refine AW_block ?_; refine AW_loopF (fun n S => ∃ (v23 : Int) (v24 : Int), S = ⟨mkT [(1, .ptr 32 0), (3, .int .i64 v18), (4, .ptr 33 0), (21, .sl (encL EIIII a2) a2.length), (22, .int .i64 v17), (23, .int .i64 v18), (41, .sl (encL EIIII l6) l6.length), (42, .int .i64 v23), (43, .int .i64 v24)], mkR [(32, .box 27 [.int .i64 a1, .sl (encL EIIII a2) a2.length]), (33, .box 69 [.int .i64 q9.1, .int .i64 q9.2.1, .int .i64 q9.2.2.1, .int .i64 q9.2.2.2])], 64⟩ ∧ i_IsValidTableau_l7 a1 v17 v18 (i_IsValidTableau_l1 a1 a2 n3) q9 l6 n v23 v24 = some r) FU ?_ ?_ ?_
         ·refine cutL ⟨_, _, rfl, h⟩ (Le_can [(32, some 32), (33, some 33)] [] hρ (by kernel_rfl) ?_ ?_)
          ·simp only [AL, EV, seval, h35a, h35b, h35c, h35d, h35e]
          ·simp only [AL, EV, seval, h35a, h35b, h35c, h35d, h35e]
         ·rintro S ⟨_, _, _, h⟩; rw [i_IsValidTableau_l7] at h; cases h
         ·rintro n4 S ⟨v23, v24, rfl, h⟩; rw [i_IsValidTableau_l7] at h; refine AR hN fun K hK => ?_; simp only [EV, seval]; refine hK _ _ _ ?_; clear hK K; refine AW_seq ?_; refine AW_condK (a := .bool (decide (v24 < v23))) (by simp only [EV, seval]) (brK h (fun hc28 h => ?_) (fun hc28 h => ?_))
          ·refine AW_skip (AK ?_); refine AW_seq ?_; refine AW_block ?_; refine AR hN fun K hK => ?_; obtain ⟨q12, h42, h⟩ := bO_inv h; obtain ⟨⟨h43a, h43b⟩, h43c⟩ := geti_E EIIIIl h42; (try simp only [EV, seval] at h43c); simp only [EV, seval, h43a, h43b, h43c]; refine hK _ _ _ ?_; clear hK K; refine AR hN fun K hK => ?_; obtain ⟨x18, h44, h⟩ := bO_inv h; simp only [EV, seval]; refine CP (i_PaulisCommute_ok h44) ?_; simp only [EV, seval]; refine hK _ _ _ ?_; clear hK K; refine AW_condK (a := .bool (x18 == (v18 == (IntKind.wrap .i64 (v24 + a1))))) (by simp only [EV, seval]) (brK h (fun hc29 h => ?_) (fun hc29 h => ?_))
           ·refine AR hN fun K hK => ?_; simp only [EV, seval]; refine hK _ _ _ ?_; clear hK K; injection h with h; subst h; exact AX (b' := 64) [(2, .bool false)] [] [] [] hρ (EQ [] (by simp only [EV, Try.results126, seval]))
           ·refine AW_skip (AK ?_); refine AS hN fun K hK => ?_; simp only [EV, seval]; exact hK _ _ _ (AC ⟨_, _, rfl, h⟩ [(32, some 32), (33, some 33)] [] hρ)
          ·refine AW_exit (show cutK _ _ _ from cutL ⟨rfl, h⟩ (Le_can [(32, some 32)] [] hρ (by kernel_rfl) ?_ ?_))
           ·simp only [AL, EV, seval]
           ·simp only [AL, EV, seval]
      ·rintro S ⟨rfl, h⟩; unfold i_IsValidTableau_j7 at h; refine AS hN fun K hK => ?_; simp only [EV, seval]; exact hK _ _ _ (AC ⟨_, _, rfl, h⟩ [(32, some 32)] [] hρ)
     ·refine AW_exit (show cutK _ _ _ from cutL ⟨rfl, h⟩ (Le_can [] [] hρ (by kernel_rfl) ?_ ?_))
      ·simp only [AL, EV, seval]
      ·simp only [AL, EV, seval]
   ·rintro S ⟨rfl, h⟩; unfold i_IsValidTableau_j2 at h; refine AR hN fun K hK => ?_; simp only [EV, seval]; refine hK _ _ _ ?_; clear hK K; injection h with h; subst h; exact AX (b' := 64) [(2, .bool true)] [] [] [] hρ (EQ [] (by simp only [EV, Try.results126, seval]))
/- spec.IsValidTableau -/
def s_IsValidTableau_j7 (v9 : Int) (kl3 : Int → Option Bool) : Option Bool :=
  kl3 (IntKind.wrap .i64 (v9 + 1))
def s_IsValidTableau_l4 (a1 : Int) (a2 : LQ) (v9 : Int) (kl3 : Int → Option Bool) : Nat → Int → Option Bool
  | 0, _ => none
  | n4 + 1, v12 =>
  br (decide (v12 < v9)) (bO (geti a2 v12) fun q19 => bO (geti a2 v9) fun q20 => bO (s_PaulisCommute q19.1 q19.2.1 q19.2.2.1 q19.2.2.2 q20.1 q20.2.1 q20.2.2.1 q20.2.2.2) fun x18 => br (x18 == (v9 == (IntKind.wrap .i64 (v12 + a1)))) (some false) ((s_IsValidTableau_l4 a1 a2 v9 kl3 n4) (IntKind.wrap .i64 (v12 + 1)))) (s_IsValidTableau_j7 v9 kl3)
def s_IsValidTableau_j8 (a1 : Int) (a2 : LQ) (v9 : Int) (kl3 : Int → Option Bool) (v10 : Bool) : Option Bool :=
  br v10 (some false) (s_IsValidTableau_l4 a1 a2 v9 kl3 FU 0)
def s_IsValidTableau_j2 : Option Bool :=
  some true
def s_IsValidTableau_l1 (a1 : Int) (a2 : LQ) : Nat → Int → Option Bool
  | 0, _ => none
  | n3 + 1, v9 =>
  br (decide (v9 < ((a2.length : Int)))) (bO (geti a2 v9) fun q14 => bO (br (q14.1 != a1) (some true) (bO (s_IsHermitianPauli q14.1 q14.2.1 q14.2.2.1 q14.2.2.2) fun x13 => some (!x13))) fun x14 => s_IsValidTableau_j8 a1 a2 v9 (s_IsValidTableau_l1 a1 a2 n3) x14) (s_IsValidTableau_j2)
def s_IsValidTableau_j1 (a1 : Int) (a2 : LQ) (v1 : Bool) : Option Bool :=
  br v1 (some false) (s_IsValidTableau_l1 a1 a2 FU 0)
def s_IsValidTableau (a1 : Int) (a2 : LQ) : Option Bool :=
  bO (s_l1In a1 1 4) fun x1 => bO (br (!x1) (some true) (some (((a2.length : Int)) != (IntKind.wrap .i64 (2 * a1))))) fun x2 => s_IsValidTableau_j1 a1 a2 x2
set_option maxHeartbeats 4000000 in
theorem s_IsValidTableau_ok {a1 : Int} {a2 : LQ} {r : Bool} (h : s_IsValidTableau a1 a2 = some r) :
    Spec Try.prog 88 [.agg [.int .i64 a1, .sl (encL EIIII a2) a2.length]] [] (.bool r) [] := by
 unfold s_IsValidTableau at h; refine spec_of Try.func88 rfl (by kernel_rfl) (by simp only [Try.ntmps88, List.length_cons, List.length_nil, Nat.reduceAdd, Nat.reduceLeDiff]) ?_; intro C hN hρ; rw [Try.ntmps88] at hN; unfold st0; simp only [tmps0, Nat.zero_add, Nat.reduceAdd]; refine AR hN fun K hK => ?_; simp only [EV, seval]; refine hK _ _ _ ?_; clear hK K; refine AW_seq ?_; refine AJ (fun S => ∃ (v1 : Bool), S = ⟨mkT [(1, .ptr 32 0), (17, .bool v1)], mkR [(32, .box 27 [.int .i64 a1, .sl (encL EIIII a2) a2.length])], 64⟩ ∧ s_IsValidTableau_j1 a1 a2 v1 = some r) hN ?_ ?_
 ·intro K hK; obtain ⟨x1, h1, h⟩ := bO_inv h; simp only [EV, seval]; refine CP (s_l1In_ok h1) ?_; obtain ⟨x2, hv1, h⟩ := bO_inv h; rcases br_inv hv1 with ⟨hc1, hv1⟩ | ⟨hc1, hv1⟩
  ·cases hv1; simp only [EV, seval, hc1]; refine hK _ _ _ (show cutK _ _ _ from cutL ⟨_, rfl, h⟩ (Le_can [(32, some 64)] [] hρ (by kernel_rfl) ?_ ?_))
   ·simp only [AL, EV, seval, hc1]
   ·simp only [AL, EV, seval, hc1]
  ·cases hv1; simp only [EV, seval, hc1]; refine hK _ _ _ (show cutK _ _ _ from cutL ⟨_, rfl, h⟩ (Le_can [(32, some 64)] [] hρ (by kernel_rfl) ?_ ?_))
   ·simp only [AL, EV, seval, hc1]
   ·simp only [AL, EV, seval, hc1]
 ·rintro S ⟨v1, rfl, h⟩; unfold s_IsValidTableau_j1 at h; refine AW_condK (a := .bool v1) (by simp only [EV, seval]) (brK h (fun hc2 h => ?_) (fun hc2 h => ?_))
  ·refine AR hN fun K hK => ?_; simp only [EV, seval]; refine hK _ _ _ ?_; clear hK K; injection h with h; subst h; exact AX (b' := 64) [(2, .bool false)] [] [] [] hρ (EQ [] (by simp only [EV, Try.results88, seval]))
  ·refine AW_skip (AK ?_); refine AW_cutK (fun S => S = ⟨mkT [], mkR [], 64⟩ ∧ s_IsValidTableau_j2 = some r) ?_ ?_
   ·refine AR hN fun K hK => ?_; simp only [EV, seval]; refine hK _ _ _ ?_; clear hK K; refine AW_block ?_; refine AW_loopF (fun n S => ∃ (v9 : Int), S = ⟨mkT [(1, .ptr 32 0), (3, .int .i64 v9)], mkR [(32, .box 27 [.int .i64 a1, .sl (encL EIIII a2) a2.length])], 64⟩ ∧ s_IsValidTableau_l1 a1 a2 n v9 = some r) FU ?_ ?_ ?_
    ·refine cutL ⟨_, rfl, h⟩ (Le_can [(32, some 32)] [] hρ (by kernel_rfl) ?_ ?_)
     ·simp only [AL, EV, seval]
     ·simp only [AL, EV, seval]
    ·rintro S ⟨_, _, h⟩; rw [s_IsValidTableau_l1] at h; cases h
    ·rintro n3 S ⟨v9, rfl, h⟩; rw [s_IsValidTableau_l1] at h; refine AW_seq ?_; refine AR hN fun K hK => ?_; simp only [EV, seval]; refine hK _ _ _ ?_; clear hK K; refine AW_condK (a := .bool (decide (v9 < ((a2.length : Int))))) (by simp only [EV, seval]) (brK h (fun hc21 h => ?_) (fun hc21 h => ?_))
     ·refine AW_skip (AK ?_); refine AW_cutK (fun S => S = ⟨mkT [(1, .ptr 32 0), (3, .int .i64 v9)], mkR [(32, .box 27 [.int .i64 a1, .sl (encL EIIII a2) a2.length])], 64⟩ ∧ s_IsValidTableau_j7 v9 (s_IsValidTableau_l1 a1 a2 n3) = some r) ?_ ?_
      ·refine AW_block ?_; refine AW_seq ?_; refine AJ (fun S => ∃ (v10 : Bool), S = ⟨mkT [(1, .ptr 32 0), (3, .int .i64 v9), (42, .bool v10)], mkR [(32, .box 27 [.int .i64 a1, .sl (encL EIIII a2) a2.length])], 64⟩ ∧ s_IsValidTableau_j8 a1 a2 v9 (s_IsValidTableau_l1 a1 a2 n3) v10 = some r) hN ?_ ?_
       ·intro K hK; obtain ⟨q14, h36, h⟩ := bO_inv h; obtain ⟨⟨h37a, h37b⟩, h37c⟩ := geti_E EIIIIl h36; (try simp only [EV, seval] at h37c); obtain ⟨x14, hv4, h⟩ := bO_inv h; rcases br_inv hv4 with ⟨hc22, hv4⟩ | ⟨hc22, hv4⟩
        ·cases hv4; simp only [EV, seval, h37a, h37b, h37c, hc22]; refine hK _ _ _ (show cutK _ _ _ from cutL ⟨_, rfl, h⟩ (Le_can [(32, some 32)] [] hρ (by kernel_rfl) ?_ ?_))
         ·simp only [AL, EV, seval, h37a, h37b, h37c, hc22]
         ·simp only [AL, EV, seval, h37a, h37b, h37c, hc22]
        ·obtain ⟨x15, h39, hv4⟩ := bO_inv hv4; simp only [EV, seval, h37a, h37b, h37c, hc22]; refine rC_p (s_IsHermitianPauli_ok h39) (by simp only [AL, EV, seval, h37a, h37b, h37c, hc22]) (le_d rfl) (no_j rfl) ?_; cases hv4; simp only [EV, seval, h37a, h37b, h37c, hc22]; refine hK _ _ _ (show cutK _ _ _ from cutL ⟨_, rfl, h⟩ (Le_can [(32, some 32)] [] hρ (by kernel_rfl) ?_ ?_))
         ·simp only [AL, EV, seval, h37a, h37b, h37c, hc22]
         ·simp only [AL, EV, seval, h37a, h37b, h37c, hc22]
       ·rintro S ⟨v10, rfl, h⟩; unfold s_IsValidTableau_j8 at h; refine AW_condK (a := .bool v10) (by simp only [EV, seval]) (brK h (fun hc23 h => ?_) (fun hc23 h => ?_))
        ·refine AR hN fun K hK => ?_; simp only [EV, seval]; refine hK _ _ _ ?_; clear hK K; injection h with h; subst h; exact AX (b' := 64) [(2, .bool false)] [] [] [] hρ (EQ [] (by simp only [EV, Try.results88, seval]))
        ·refine AW_skip (AK ?_); refine AR hN fun K hK => ?_; simp only [EV, seval]; refine hK _ _ _ ?_; clear hK K; refine AW_block ?_; refine AW_loopF (fun n S => ∃ (v12 : Int), S = ⟨mkT [(1, .ptr 32 0), (3, .int .i64 v9), (4, .int .i64 v12)], mkR [(32, .box 27 [.int .i64 a1, .sl (encL EIIII a2) a2.length])], 64⟩ ∧ s_IsValidTableau_l4 a1 a2 v9 (s_IsValidTableau_l1 a1 a2 n3) n v12 = some r) FU ?_ ?_ ?_
         ·refine cutL ⟨_, rfl, h⟩ (Le_can [(32, some 32)] [] hρ (by kernel_rfl) ?_ ?_)
          ·simp only [AL, EV, seval]
          ·simp only [AL, EV, seval]
         ·rintro S ⟨_, _, h⟩; rw [s_IsValidTableau_l4] at h; cases h
         ·rintro n4 S ⟨v12, rfl, h⟩; rw [s_IsValidTableau_l4] at h; refine AW_seq ?_; refine AR hN fun K hK => ?_; simp only [EV, seval]; refine hK _ _ _ ?_; clear hK K; refine AW_condK (a := .bool (decide (v12 < v9))) (by simp only [EV, seval]) (brK h (fun hc28 h => ?_) (fun hc28 h => ?_))
          ·refine AW_skip (AK ?_); refine AW_seq ?_; refine AW_block ?_; refine AR hN fun K hK => ?_; obtain ⟨q19, h50, h⟩ := bO_inv h; obtain ⟨⟨h51a, h51b⟩, h51c⟩ := geti_E EIIIIl h50; (try simp only [EV, seval] at h51c); obtain ⟨q20, h52, h⟩ := bO_inv h; obtain ⟨⟨h53a, h53b⟩, h53c⟩ := geti_E EIIIIl h52; (try simp only [EV, seval] at h53c); obtain ⟨x18, h54, h⟩ := bO_inv h; simp only [EV, seval, h51a, h51b, h51c, h53a, h53b, h53c]; refine rC_p (s_PaulisCommute_ok h54) (by simp only [AL, EV, seval, h51a, h51b, h51c, h53a, h53b, h53c]) (le_d rfl) (no_j rfl) ?_; simp only [EV, seval, h51a, h51b, h51c, h53a, h53b, h53c]; refine hK _ _ _ ?_; clear hK K; refine AW_condK (a := .bool (x18 == (v9 == (IntKind.wrap .i64 (v12 + a1))))) (by simp only [EV, seval, h51a, h51b, h51c, h53a, h53b, h53c]) (brK h (fun hc29 h => ?_) (fun hc29 h => ?_))
           ·refine AR hN fun K hK => ?_; simp only [EV, seval]; refine hK _ _ _ ?_; clear hK K; injection h with h; subst h; exact AX (b' := 64) [(2, .bool false)] [] [] [] hρ (EQ [] (by simp only [EV, Try.results88, seval]))
           ·refine AW_skip (AK ?_); refine AS hN fun K hK => ?_; simp only [EV, seval]; exact hK _ _ _ (AC ⟨_, rfl, h⟩ [(32, some 32)] [] hρ)
          ·refine AW_exit (show cutK _ _ _ from cutL ⟨rfl, h⟩ (Le_can [(32, some 32)] [] hρ (by kernel_rfl) ?_ ?_))
           ·simp only [AL, EV, seval]
           ·simp only [AL, EV, seval]
      ·rintro S ⟨rfl, h⟩; unfold s_IsValidTableau_j7 at h; refine AS hN fun K hK => ?_; simp only [EV, seval]; exact hK _ _ _ (AC ⟨_, rfl, h⟩ [(32, some 32)] [] hρ)
     ·refine AW_exit (show cutK _ _ _ from cutL ⟨rfl, h⟩ (Le_can [] [] hρ (by kernel_rfl) ?_ ?_))
      ·simp only [AL, EV, seval]
      ·simp only [AL, EV, seval]
   ·rintro S ⟨rfl, h⟩; unfold s_IsValidTableau_j2 at h; refine AR hN fun K hK => ?_; simp only [EV, seval]; refine hK _ _ _ ?_; clear hK K; injection h with h; subst h; exact AX (b' := 64) [(2, .bool true)] [] [] [] hρ (EQ [] (by simp only [EV, Try.results88, seval]))
end Go.Proofs.Ytbkkfmcjfbbkaaa
