/- Models of functions, and that the functions do what the models say; printed by a program. -/
import Derived.Test.YtbkkfmcjfbbkaaaGn
import Derived.Test.YtbkkfmcjfbbkaaaMb
import Derived.Test.YtbkkfmcjfbbkaaaMa
namespace Go.Proofs.Ytbkkfmcjfbbkaaa
open Go.RowKit
set_option maxRecDepth 100000
set_option linter.unusedVariables false
set_option linter.unusedSimpArgs false
set_option linter.defProp false
/- impl.ConjugateByTableau -/
def i_ConjugateByTableau_j7 (v23 : Int) (kl1 : Int → Int → Int → Int → Int → Option (Int × Int × Int × Int × Bool)) (v32 : Int) (v33 : Int) (v34 : Int) (v35 : Int) : Option (Int × Int × Int × Int × Bool) :=
  kl1 (IntKind.wrap .i64 (v23 + 1)) v32 v33 v34 v35
def i_ConjugateByTableau_j8 (a1 : Int) (a2 : LQ) (a5 : Int) (v23 : Int) (kl1 : Int → Int → Int → Int → Int → Option (Int × Int × Int × Int × Bool)) (v28 : Int) (v29 : Int) (v30 : Int) (v31 : Int) : Option (Int × Int × Int × Int × Bool) :=
  gd (decide (¬ v23 < 0)) (br ((bits .and .i64 (Int.fdiv a5 (2 ^ min (Int.toNat v23) (IntKind.bits .i64))) 1) == 1) (bO (geti a2 (IntKind.wrap .i64 (v23 + a1))) fun q6 => bO (i_MulPauli v28 v29 v30 v31 q6.1 q6.2.1 q6.2.2.1 q6.2.2.2) fun x13 => i_ConjugateByTableau_j7 v23 kl1 x13.1 x13.2.1 x13.2.2.1 x13.2.2.2.1) (i_ConjugateByTableau_j7 v23 kl1 v28 v29 v30 v31))
def i_ConjugateByTableau_j2 (v36 : Int) (v37 : Int) (v38 : Int) (v39 : Int) : Option (Int × Int × Int × Int × Bool) :=
  some (v36, v37, v38, v39, true)
def i_ConjugateByTableau_l1 (a1 : Int) (a2 : LQ) (a3 : Int) (a4 : Int) (a5 : Int) : Nat → Int → Int → Int → Int → Int → Option (Int × Int × Int × Int × Bool)
  | 0, _, _, _, _, _ => none
  | n1 + 1, v23, v24, v25, v26, v27 =>
  br (decide (v23 < a3)) (gd (decide (¬ v23 < 0)) (br ((bits .and .i64 (Int.fdiv a4 (2 ^ min (Int.toNat v23) (IntKind.bits .i64))) 1) == 1) (bO (geti a2 v23) fun q5 => bO (i_MulPauli v24 v25 v26 v27 q5.1 q5.2.1 q5.2.2.1 q5.2.2.2) fun x12 => i_ConjugateByTableau_j8 a1 a2 a5 v23 (i_ConjugateByTableau_l1 a1 a2 a3 a4 a5 n1) x12.1 x12.2.1 x12.2.2.1 x12.2.2.2.1) (i_ConjugateByTableau_j8 a1 a2 a5 v23 (i_ConjugateByTableau_l1 a1 a2 a3 a4 a5 n1) v24 v25 v26 v27))) (i_ConjugateByTableau_j2 v24 v25 v26 v27)
def i_ConjugateByTableau_j1 (a1 : Int) (a2 : LQ) (a3 : Int) (a4 : Int) (a5 : Int) (a6 : Int) (v1 : Bool) : Option (Int × Int × Int × Int × Bool) :=
  br v1 (some (0, 0, 0, 0, false)) (i_ConjugateByTableau_l1 a1 a2 a3 a4 a5 FU 0 a3 0 0 a6)
def i_ConjugateByTableau (a1 : Int) (a2 : LQ) (a3 : Int) (a4 : Int) (a5 : Int) (a6 : Int) : Option (Int × Int × Int × Int × Bool) :=
  bO (i_IsValidTableau a1 a2) fun x1 => bO (br (!x1) (some true) (bO (i_IsValidPauli a3 a4 a5 a6) fun x2 => some (!x2))) fun x3 => bO (br x3 (some true) (some (a1 != a3))) fun x4 => i_ConjugateByTableau_j1 a1 a2 a3 a4 a5 a6 x4
set_option maxHeartbeats 4000000 in
theorem i_ConjugateByTableau_ok {a1 : Int} {a2 : LQ} {a3 : Int} {a4 : Int} {a5 : Int} {a6 : Int} {r : Int × Int × Int × Int × Bool} (h : i_ConjugateByTableau a1 a2 a3 a4 a5 a6 = some r) :
    Spec Try.prog 162 [.agg [.int .i64 a1, .sl (encL EIIII a2) a2.length], .agg [.int .i64 a3, .int .i64 a4, .int .i64 a5, .int .i64 a6]] [] (.tup [.agg [.int .i64 r.1, .int .i64 r.2.1, .int .i64 r.2.2.1, .int .i64 r.2.2.2.1], .bool r.2.2.2.2]) [] := by
 unfold i_ConjugateByTableau at h; refine spec_of Try.func162 rfl (by kernel_rfl) (by simp only [Try.ntmps162, List.length_cons, List.length_nil, Nat.reduceAdd, Nat.reduceLeDiff]) ?_; intro C hN hρ; rw [Try.ntmps162] at hN; unfold st0; simp only [tmps0, Nat.zero_add, Nat.reduceAdd]; refine AR hN fun K hK => ?_; simp only [EV, seval]; refine hK _ _ _ ?_; clear hK K; refine AW_seq ?_; refine AJ (fun S => ∃ (v1 : Bool), S = ⟨mkT [(2, .ptr 32 0), (3, .ptr 33 0), (4, .ptr 34 0), (22, .bool v1)], mkR [(32, .box 27 [.int .i64 a1, .sl (encL EIIII a2) a2.length]), (33, .box 69 [.int .i64 a3, .int .i64 a4, .int .i64 a5, .int .i64 a6]), (34, .box 69 [.int .i64 0, .int .i64 0, .int .i64 0, .int .i64 0])], 64⟩ ∧ i_ConjugateByTableau_j1 a1 a2 a3 a4 a5 a6 v1 = some r) hN ?_ ?_
 ·intro K hK; obtain ⟨x1, h1, h⟩ := bO_inv h; simp only [EV, seval]; refine CP (i_IsValidTableau_ok h1) ?_; obtain ⟨x3, hv1, h⟩ := bO_inv h; rcases br_inv hv1 with ⟨hc1, hv1⟩ | ⟨hc1, hv1⟩
  ·cases hv1; obtain ⟨x5, hv3, h⟩ := bO_inv h; replace hv3 := br_t hv3; cases hv3; (try dsimp only at h); simp only [EV, seval, hc1]; refine hK _ _ _ (show cutK _ _ _ from cutL ⟨_, rfl, h⟩ (Le_can [(32, some 64), (33, some 80), (34, some 96)] [] hρ (by kernel_rfl) ?_ ?_))
   ·simp only [AL, EV, seval, hc1]
   ·simp only [AL, EV, seval, hc1]
  ·obtain ⟨x6, h3, hv1⟩ := bO_inv hv1; simp only [EV, seval, hc1]; refine rC_p (i_IsValidPauli_ok h3) (by simp only [AL, EV, seval, hc1]) (le_d rfl) (no_j rfl) ?_; cases hv1; obtain ⟨x7, hv4, h⟩ := bO_inv h; rcases br_inv hv4 with ⟨hc3, hv4⟩ | ⟨hc3, hv4⟩
   ·cases hv4; simp only [EV, seval, hc1, hc3]; refine hK _ _ _ (show cutK _ _ _ from cutL ⟨_, rfl, h⟩ (Le_can [(32, some 64), (33, some 80), (34, some 96)] [] hρ (by kernel_rfl) ?_ ?_))
    ·simp only [AL, EV, seval, hc1, hc3]
    ·simp only [AL, EV, seval, hc1, hc3]
   ·cases hv4; simp only [EV, seval, hc1, hc3]; refine hK _ _ _ (show cutK _ _ _ from cutL ⟨_, rfl, h⟩ (Le_can [(32, some 64), (33, some 80), (34, some 96)] [] hρ (by kernel_rfl) ?_ ?_))
    ·simp only [AL, EV, seval, hc1, hc3]
    ·simp only [AL, EV, seval, hc1, hc3]
 ·rintro S ⟨v1, rfl, h⟩; unfold i_ConjugateByTableau_j1 at h; refine AW_condK (a := .bool v1) (by simp only [EV, seval]) (brK h (fun hc4 h => ?_) (fun hc4 h => ?_))
  ·refine AR hN fun K hK => ?_; simp only [EV, seval]; refine hK _ _ _ ?_; clear hK K; injection h with h; subst h; exact AX (b' := 64) [(4, .ptr 32 0), (5, .bool false)] [(32, .box 69 [.int .i64 0, .int .i64 0, .int .i64 0, .int .i64 0])] [(32, some 34)] [] hρ (EQ [] (by simp only [EV, Try.results162, seval]))
  ·refine AW_skip (AK ?_); refine AR hN fun K hK => ?_; simp only [EV, seval]; refine hK _ _ _ ?_; clear hK K; refine AW_cutK (fun S => ∃ (v36 : Int) (v37 : Int) (v38 : Int) (v39 : Int), S = ⟨mkT [(4, .ptr 32 0), (6, .ptr 33 0)], mkR [(32, .box 69 [.int .i64 0, .int .i64 0, .int .i64 0, .int .i64 0]), (33, .box 69 [.int .i64 v36, .int .i64 v37, .int .i64 v38, .int .i64 v39])], 64⟩ ∧ i_ConjugateByTableau_j2 v36 v37 v38 v39 = some r) ?_ ?_
   ·refine AR hN fun K hK => ?_; simp only [EV, seval]; refine hK _ _ _ ?_; clear hK K; refine AW_block ?_; refine AW_loopF (fun n S => ∃ (v23 : Int) (v24 : Int) (v25 : Int) (v26 : Int) (v27 : Int), S = ⟨mkT [(2, .ptr 32 0), (3, .ptr 33 0), (4, .ptr 34 0), (6, .ptr 35 0), (7, .int .i64 v23)], mkR [(32, .box 27 [.int .i64 a1, .sl (encL EIIII a2) a2.length]), (33, .box 69 [.int .i64 a3, .int .i64 a4, .int .i64 a5, .int .i64 a6]), (34, .box 69 [.int .i64 0, .int .i64 0, .int .i64 0, .int .i64 0]), (35, .box 69 [.int .i64 v24, .int .i64 v25, .int .i64 v26, .int .i64 v27])], 64⟩ ∧ i_ConjugateByTableau_l1 a1 a2 a3 a4 a5 n v23 v24 v25 v26 v27 = some r) FU ?_ ?_ ?_
    ·refine cutL ⟨_, _, _, _, _, rfl, h⟩ (Le_can [(32, some 32), (33, some 33), (34, some 34), (35, some 144)] [] hρ (by kernel_rfl) ?_ ?_)
     ·simp only [AL, EV, seval]
     ·simp only [AL, EV, seval]
    ·rintro S ⟨_, _, _, _, _, _, h⟩; rw [i_ConjugateByTableau_l1] at h; cases h
    ·rintro n1 S ⟨v23, v24, v25, v26, v27, rfl, h⟩; rw [i_ConjugateByTableau_l1] at h; refine AW_seq ?_; refine AR hN fun K hK => ?_; simp only [EV, seval]; refine hK _ _ _ ?_; clear hK K; refine AW_condK (a := .bool (decide (v23 < a3))) (by simp only [EV, seval]) (brK h (fun hc11 h => ?_) (fun hc11 h => ?_))
     ·refine AW_skip (AK ?_); refine AW_cutK (fun S => ∃ (v32 : Int) (v33 : Int) (v34 : Int) (v35 : Int), S = ⟨mkT [(2, .ptr 32 0), (3, .ptr 33 0), (4, .ptr 34 0), (6, .ptr 35 0), (7, .int .i64 v23)], mkR [(32, .box 27 [.int .i64 a1, .sl (encL EIIII a2) a2.length]), (33, .box 69 [.int .i64 a3, .int .i64 a4, .int .i64 a5, .int .i64 a6]), (34, .box 69 [.int .i64 0, .int .i64 0, .int .i64 0, .int .i64 0]), (35, .box 69 [.int .i64 v32, .int .i64 v33, .int .i64 v34, .int .i64 v35])], 64⟩ ∧ i_ConjugateByTableau_j7 v23 (i_ConjugateByTableau_l1 a1 a2 a3 a4 a5 n1) v32 v33 v34 v35 = some r) ?_ ?_
      ·refine AW_block ?_; refine AW_cutK (fun S => ∃ (v28 : Int) (v29 : Int) (v30 : Int) (v31 : Int), S = ⟨mkT [(2, .ptr 32 0), (3, .ptr 33 0), (4, .ptr 34 0), (6, .ptr 35 0), (7, .int .i64 v23)], mkR [(32, .box 27 [.int .i64 a1, .sl (encL EIIII a2) a2.length]), (33, .box 69 [.int .i64 a3, .int .i64 a4, .int .i64 a5, .int .i64 a6]), (34, .box 69 [.int .i64 0, .int .i64 0, .int .i64 0, .int .i64 0]), (35, .box 69 [.int .i64 v28, .int .i64 v29, .int .i64 v30, .int .i64 v31])], 64⟩ ∧ i_ConjugateByTableau_j8 a1 a2 a5 v23 (i_ConjugateByTableau_l1 a1 a2 a3 a4 a5 n1) v28 v29 v30 v31 = some r) ?_ ?_
       ·refine AR hN fun K hK => ?_; obtain ⟨h18, h⟩ := gd_inv h; replace h18 := of_decide_eq_true h18; simp only [EV, seval, h18]; refine hK _ _ _ ?_; clear hK K; refine AW_condK (a := .bool ((bits .and .i64 (Int.fdiv a4 (2 ^ min (Int.toNat v23) (IntKind.bits .i64))) 1) == 1)) (by simp only [EV, seval, h18]) (brK h (fun hc12 h => ?_) (fun hc12 h => ?_))
        ·refine AS hN fun K hK => ?_; obtain ⟨q5, h19, h⟩ := bO_inv h; obtain ⟨⟨h20a, h20b⟩, h20c⟩ := geti_E EIIIIl h19; (try simp only [EV, seval] at h20c); obtain ⟨x12, h21, h⟩ := bO_inv h; simp only [EV, seval, h20a, h20b, h20c]; refine rC_p (i_MulPauli_ok h21) (by simp only [AL, EV, seval, h20a, h20b, h20c]) (le_d rfl) (no_j rfl) ?_; simp only [EV, seval, h20a, h20b, h20c]; refine hK _ _ _ (show cutK _ _ _ from cutL ⟨_, _, _, _, rfl, h⟩ (Le_can [(32, some 32), (33, some 33), (34, some 34), (35, some 35)] [] hρ (by kernel_rfl) ?_ ?_))
         ·simp only [AL, EV, seval, h20a, h20b, h20c]
         ·simp only [AL, EV, seval, h20a, h20b, h20c]
        ·refine AW_skip (show cutK _ _ _ from cutL ⟨_, _, _, _, rfl, h⟩ (Le_can [(32, some 32), (33, some 33), (34, some 34), (35, some 35)] [] hρ (by kernel_rfl) ?_ ?_))
         ·simp only [AL, EV, seval, h18]
         ·simp only [AL, EV, seval, h18]
       ·rintro S ⟨v28, v29, v30, v31, rfl, h⟩; unfold i_ConjugateByTableau_j8 at h; refine AR hN fun K hK => ?_; obtain ⟨h22, h⟩ := gd_inv h; replace h22 := of_decide_eq_true h22; simp only [EV, seval, h22]; refine hK _ _ _ ?_; clear hK K; refine AW_condK (a := .bool ((bits .and .i64 (Int.fdiv a5 (2 ^ min (Int.toNat v23) (IntKind.bits .i64))) 1) == 1)) (by simp only [EV, seval, h22]) (brK h (fun hc13 h => ?_) (fun hc13 h => ?_))
        ·refine AS hN fun K hK => ?_; obtain ⟨q6, h23, h⟩ := bO_inv h; obtain ⟨⟨h24a, h24b⟩, h24c⟩ := geti_E EIIIIl h23; (try simp only [EV, seval] at h24c); obtain ⟨x13, h25, h⟩ := bO_inv h; simp only [EV, seval, h24a, h24b, h24c]; refine rC_p (i_MulPauli_ok h25) (by simp only [AL, EV, seval, h24a, h24b, h24c]) (le_d rfl) (no_j rfl) ?_; simp only [EV, seval, h24a, h24b, h24c]; refine hK _ _ _ (show cutK _ _ _ from cutL ⟨_, _, _, _, rfl, h⟩ (Le_can [(32, some 32), (33, some 33), (34, some 34), (35, some 35)] [] hρ (by kernel_rfl) ?_ ?_))
         ·simp only [AL, EV, seval, h24a, h24b, h24c]
         ·simp only [AL, EV, seval, h24a, h24b, h24c]
        ·refine AW_skip (show cutK _ _ _ from cutL ⟨_, _, _, _, rfl, h⟩ (Le_can [(32, some 32), (33, some 33), (34, some 34), (35, some 35)] [] hρ (by kernel_rfl) ?_ ?_))
         ·simp only [AL, EV, seval, h22]
         ·simp only [AL, EV, seval, h22]
      ·rintro S ⟨v32, v33, v34, v35, rfl, h⟩; unfold i_ConjugateByTableau_j7 at h; refine AS hN fun K hK => ?_; simp only [EV, seval]; exact hK _ _ _ (AC ⟨_, _, _, _, _, rfl, h⟩ [(32, some 32), (33, some 33), (34, some 34), (35, some 35)] [] hρ)
     ·refine AW_exit (show cutK _ _ _ from cutL ⟨_, _, _, _, rfl, h⟩ (Le_can [(32, some 34), (33, some 35)] [] hρ (by kernel_rfl) ?_ ?_))
      ·simp only [AL, EV, seval]
      ·simp only [AL, EV, seval]
   ·rintro S ⟨v36, v37, v38, v39, rfl, h⟩; unfold i_ConjugateByTableau_j2 at h; refine AR hN fun K hK => ?_; simp only [EV, seval]; refine hK _ _ _ ?_; clear hK K; injection h with h; subst h; exact AX (b' := 64) [(4, .ptr 32 0), (5, .bool true)] [(32, .box 69 [.int .i64 v36, .int .i64 v37, .int .i64 v38, .int .i64 v39])] [(32, some 32)] [] hρ (EQ [] (by simp only [EV, Try.results162, seval]))
/- spec.ConjugateByTableau -/
def s_ConjugateByTableau_j7 (v23 : Int) (kl1 : Int → Int → Int → Int → Int → Option (Int × Int × Int × Int × Bool)) (v32 : Int) (v33 : Int) (v34 : Int) (v35 : Int) : Option (Int × Int × Int × Int × Bool) :=
  kl1 (IntKind.wrap .i64 (v23 + 1)) v32 v33 v34 v35
def s_ConjugateByTableau_j8 (a2 : LQ) (a3 : Int) (a5 : Int) (v23 : Int) (kl1 : Int → Int → Int → Int → Int → Option (Int × Int × Int × Int × Bool)) (v28 : Int) (v29 : Int) (v30 : Int) (v31 : Int) : Option (Int × Int × Int × Int × Bool) :=
  gd (decide (¬ (IntKind.wrap .u64 v23) < 0)) (br ((bits .and .i64 (Int.fdiv a5 (2 ^ min (Int.toNat (IntKind.wrap .u64 v23)) (IntKind.bits .i64))) 1) == 1) (bO (geti a2 (IntKind.wrap .i64 (v23 + a3))) fun q6 => bO (s_MulPauli v28 v29 v30 v31 q6.1 q6.2.1 q6.2.2.1 q6.2.2.2) fun x13 => s_ConjugateByTableau_j7 v23 kl1 x13.1 x13.2.1 x13.2.2.1 x13.2.2.2.1) (s_ConjugateByTableau_j7 v23 kl1 v28 v29 v30 v31))
def s_ConjugateByTableau_j2 (v36 : Int) (v37 : Int) (v38 : Int) (v39 : Int) : Option (Int × Int × Int × Int × Bool) :=
  some (v36, v37, v38, v39, true)
def s_ConjugateByTableau_l1 (a2 : LQ) (a3 : Int) (a4 : Int) (a5 : Int) : Nat → Int → Int → Int → Int → Int → Option (Int × Int × Int × Int × Bool)
  | 0, _, _, _, _, _ => none
  | n1 + 1, v23, v24, v25, v26, v27 =>
  br (decide (v23 < a3)) (gd (decide (¬ (IntKind.wrap .u64 v23) < 0)) (br ((bits .and .i64 (Int.fdiv a4 (2 ^ min (Int.toNat (IntKind.wrap .u64 v23)) (IntKind.bits .i64))) 1) == 1) (bO (geti a2 v23) fun q5 => bO (s_MulPauli v24 v25 v26 v27 q5.1 q5.2.1 q5.2.2.1 q5.2.2.2) fun x12 => s_ConjugateByTableau_j8 a2 a3 a5 v23 (s_ConjugateByTableau_l1 a2 a3 a4 a5 n1) x12.1 x12.2.1 x12.2.2.1 x12.2.2.2.1) (s_ConjugateByTableau_j8 a2 a3 a5 v23 (s_ConjugateByTableau_l1 a2 a3 a4 a5 n1) v24 v25 v26 v27))) (s_ConjugateByTableau_j2 v24 v25 v26 v27)
def s_ConjugateByTableau_j1 (a2 : LQ) (a3 : Int) (a4 : Int) (a5 : Int) (a6 : Int) (v1 : Bool) : Option (Int × Int × Int × Int × Bool) :=
  br v1 (some (0, 0, 0, 0, false)) (s_ConjugateByTableau_l1 a2 a3 a4 a5 FU 0 a3 0 0 a6)
def s_ConjugateByTableau (a1 : Int) (a2 : LQ) (a3 : Int) (a4 : Int) (a5 : Int) (a6 : Int) : Option (Int × Int × Int × Int × Bool) :=
  bO (s_IsValidTableau a1 a2) fun x1 => bO (br (!x1) (some true) (bO (s_IsValidPauli a3 a4 a5 a6) fun x2 => some (!x2))) fun x3 => bO (br x3 (some true) (some (a1 != a3))) fun x4 => s_ConjugateByTableau_j1 a2 a3 a4 a5 a6 x4
set_option maxHeartbeats 4000000 in
theorem s_ConjugateByTableau_ok {a1 : Int} {a2 : LQ} {a3 : Int} {a4 : Int} {a5 : Int} {a6 : Int} {r : Int × Int × Int × Int × Bool} (h : s_ConjugateByTableau a1 a2 a3 a4 a5 a6 = some r) :
    Spec Try.prog 165 [.agg [.int .i64 a1, .sl (encL EIIII a2) a2.length], .agg [.int .i64 a3, .int .i64 a4, .int .i64 a5, .int .i64 a6]] [] (.tup [.agg [.int .i64 r.1, .int .i64 r.2.1, .int .i64 r.2.2.1, .int .i64 r.2.2.2.1], .bool r.2.2.2.2]) [] := by
 unfold s_ConjugateByTableau at h; refine spec_of Try.func165 rfl (by kernel_rfl) (by simp only [Try.ntmps165, List.length_cons, List.length_nil, Nat.reduceAdd, Nat.reduceLeDiff]) ?_; intro C hN hρ; rw [Try.ntmps165] at hN; unfold st0; simp only [tmps0, Nat.zero_add, Nat.reduceAdd]; refine AR hN fun K hK => ?_; simp only [EV, seval]; refine hK _ _ _ ?_; clear hK K; refine AW_seq ?_; refine AJ (fun S => ∃ (v1 : Bool), S = ⟨mkT [(2, .ptr 32 0), (3, .ptr 33 0), (4, .ptr 34 0), (22, .bool v1)], mkR [(32, .box 27 [.int .i64 a1, .sl (encL EIIII a2) a2.length]), (33, .box 69 [.int .i64 a3, .int .i64 a4, .int .i64 a5, .int .i64 a6]), (34, .box 69 [.int .i64 0, .int .i64 0, .int .i64 0, .int .i64 0])], 64⟩ ∧ s_ConjugateByTableau_j1 a2 a3 a4 a5 a6 v1 = some r) hN ?_ ?_
 ·intro K hK; obtain ⟨x1, h1, h⟩ := bO_inv h; simp only [EV, seval]; refine CP (s_IsValidTableau_ok h1) ?_; obtain ⟨x3, hv1, h⟩ := bO_inv h; rcases br_inv hv1 with ⟨hc1, hv1⟩ | ⟨hc1, hv1⟩
  ·cases hv1; obtain ⟨x5, hv3, h⟩ := bO_inv h; replace hv3 := br_t hv3; cases hv3; (try dsimp only at h); simp only [EV, seval, hc1]; refine hK _ _ _ (show cutK _ _ _ from cutL ⟨_, rfl, h⟩ (Le_can [(32, some 64), (33, some 80), (34, some 96)] [] hρ (by kernel_rfl) ?_ ?_))
   ·simp only [AL, EV, seval, hc1]
   ·simp only [AL, EV, seval, hc1]
  ·obtain ⟨x6, h3, hv1⟩ := bO_inv hv1; simp only [EV, seval, hc1]; refine rC_p (s_IsValidPauli_ok h3) (by simp only [AL, EV, seval, hc1]) (le_d rfl) (no_j rfl) ?_; cases hv1; obtain ⟨x7, hv4, h⟩ := bO_inv h; rcases br_inv hv4 with ⟨hc3, hv4⟩ | ⟨hc3, hv4⟩
   ·cases hv4; simp only [EV, seval, hc1, hc3]; refine hK _ _ _ (show cutK _ _ _ from cutL ⟨_, rfl, h⟩ (Le_can [(32, some 64), (33, some 80), (34, some 96)] [] hρ (by kernel_rfl) ?_ ?_))
    ·simp only [AL, EV, seval, hc1, hc3]
    ·simp only [AL, EV, seval, hc1, hc3]
   ·cases hv4; simp only [EV, seval, hc1, hc3]; refine hK _ _ _ (show cutK _ _ _ from cutL ⟨_, rfl, h⟩ (Le_can [(32, some 64), (33, some 80), (34, some 96)] [] hρ (by kernel_rfl) ?_ ?_))
    ·simp only [AL, EV, seval, hc1, hc3]
    ·simp only [AL, EV, seval, hc1, hc3]
 ·rintro S ⟨v1, rfl, h⟩; unfold s_ConjugateByTableau_j1 at h; refine AW_condK (a := .bool v1) (by simp only [EV, seval]) (brK h (fun hc4 h => ?_) (fun hc4 h => ?_))
  ·refine AR hN fun K hK => ?_; simp only [EV, seval]; refine hK _ _ _ ?_; clear hK K; injection h with h; subst h; exact AX (b' := 64) [(4, .ptr 32 0), (5, .bool false)] [(32, .box 69 [.int .i64 0, .int .i64 0, .int .i64 0, .int .i64 0])] [(32, some 34)] [] hρ (EQ [] (by simp only [EV, Try.results165, seval]))
  ·refine AW_skip (AK ?_); refine AR hN fun K hK => ?_; simp only [EV, seval]; refine hK _ _ _ ?_; clear hK K; refine AW_cutK (fun S => ∃ (v36 : Int) (v37 : Int) (v38 : Int) (v39 : Int), S = ⟨mkT [(4, .ptr 32 0), (6, .ptr 33 0)], mkR [(32, .box 69 [.int .i64 0, .int .i64 0, .int .i64 0, .int .i64 0]), (33, .box 69 [.int .i64 v36, .int .i64 v37, .int .i64 v38, .int .i64 v39])], 64⟩ ∧ s_ConjugateByTableau_j2 v36 v37 v38 v39 = some r) ?_ ?_
   ·refine AR hN fun K hK => ?_; simp only [EV, seval]; refine hK _ _ _ ?_; clear hK K; refine AW_block ?_; refine AW_loopF (fun n S => ∃ (v23 : Int) (v24 : Int) (v25 : Int) (v26 : Int) (v27 : Int), S = ⟨mkT [(2, .ptr 32 0), (3, .ptr 33 0), (4, .ptr 34 0), (6, .ptr 35 0), (7, .int .i64 v23)], mkR [(32, .box 27 [.int .i64 a1, .sl (encL EIIII a2) a2.length]), (33, .box 69 [.int .i64 a3, .int .i64 a4, .int .i64 a5, .int .i64 a6]), (34, .box 69 [.int .i64 0, .int .i64 0, .int .i64 0, .int .i64 0]), (35, .box 69 [.int .i64 v24, .int .i64 v25, .int .i64 v26, .int .i64 v27])], 64⟩ ∧ s_ConjugateByTableau_l1 a2 a3 a4 a5 n v23 v24 v25 v26 v27 = some r) FU ?_ ?_ ?_
    ·refine cutL ⟨_, _, _, _, _, rfl, h⟩ (Le_can [(32, some 32), (33, some 33), (34, some 34), (35, some 144)] [] hρ (by kernel_rfl) ?_ ?_)
     ·simp only [AL, EV, seval]
     ·simp only [AL, EV, seval]
    ·rintro S ⟨_, _, _, _, _, _, h⟩; rw [s_ConjugateByTableau_l1] at h; cases h
    ·rintro n1 S ⟨v23, v24, v25, v26, v27, rfl, h⟩; rw [s_ConjugateByTableau_l1] at h; refine AW_seq ?_; refine AR hN fun K hK => ?_; simp only [EV, seval]; refine hK _ _ _ ?_; clear hK K; refine AW_condK (a := .bool (decide (v23 < a3))) (by simp only [EV, seval]) (brK h (fun hc11 h => ?_) (fun hc11 h => ?_))
     ·refine AW_skip (AK ?_); refine AW_cutK (fun S => ∃ (v32 : Int) (v33 : Int) (v34 : Int) (v35 : Int), S = ⟨mkT [(2, .ptr 32 0), (3, .ptr 33 0), (4, .ptr 34 0), (6, .ptr 35 0), (7, .int .i64 v23)], mkR [(32, .box 27 [.int .i64 a1, .sl (encL EIIII a2) a2.length]), (33, .box 69 [.int .i64 a3, .int .i64 a4, .int .i64 a5, .int .i64 a6]), (34, .box 69 [.int .i64 0, .int .i64 0, .int .i64 0, .int .i64 0]), (35, .box 69 [.int .i64 v32, .int .i64 v33, .int .i64 v34, .int .i64 v35])], 64⟩ ∧ s_ConjugateByTableau_j7 v23 (s_ConjugateByTableau_l1 a2 a3 a4 a5 n1) v32 v33 v34 v35 = some r) ?_ ?_
      ·refine AW_block ?_; refine AW_cutK (fun S => ∃ (v28 : Int) (v29 : Int) (v30 : Int) (v31 : Int), S = ⟨mkT [(2, .ptr 32 0), (3, .ptr 33 0), (4, .ptr 34 0), (6, .ptr 35 0), (7, .int .i64 v23)], mkR [(32, .box 27 [.int .i64 a1, .sl (encL EIIII a2) a2.length]), (33, .box 69 [.int .i64 a3, .int .i64 a4, .int .i64 a5, .int .i64 a6]), (34, .box 69 [.int .i64 0, .int .i64 0, .int .i64 0, .int .i64 0]), (35, .box 69 [.int .i64 v28, .int .i64 v29, .int .i64 v30, .int .i64 v31])], 64⟩ ∧ s_ConjugateByTableau_j8 a2 a3 a5 v23 (s_ConjugateByTableau_l1 a2 a3 a4 a5 n1) v28 v29 v30 v31 = some r) ?_ ?_
       ·refine AR hN fun K hK => ?_; obtain ⟨h20, h⟩ := gd_inv h; replace h20 := of_decide_eq_true h20; simp only [EV, seval, h20]; refine hK _ _ _ ?_; clear hK K; refine AW_condK (a := .bool ((bits .and .i64 (Int.fdiv a4 (2 ^ min (Int.toNat (IntKind.wrap .u64 v23)) (IntKind.bits .i64))) 1) == 1)) (by simp only [EV, seval, h20]) (brK h (fun hc12 h => ?_) (fun hc12 h => ?_))
        ·refine AS hN fun K hK => ?_; obtain ⟨q5, h21, h⟩ := bO_inv h; obtain ⟨⟨h22a, h22b⟩, h22c⟩ := geti_E EIIIIl h21; (try simp only [EV, seval] at h22c); obtain ⟨x12, h23, h⟩ := bO_inv h; simp only [EV, seval, h22a, h22b, h22c]; refine rC_p (s_MulPauli_ok h23) (by simp only [AL, EV, seval, h22a, h22b, h22c]) (le_d rfl) (no_j rfl) ?_; simp only [EV, seval, h22a, h22b, h22c]; refine hK _ _ _ (show cutK _ _ _ from cutL ⟨_, _, _, _, rfl, h⟩ (Le_can [(32, some 32), (33, some 33), (34, some 34), (35, some 35)] [] hρ (by kernel_rfl) ?_ ?_))
         ·simp only [AL, EV, seval, h22a, h22b, h22c]
         ·simp only [AL, EV, seval, h22a, h22b, h22c]
        ·refine AW_skip (show cutK _ _ _ from cutL ⟨_, _, _, _, rfl, h⟩ (Le_can [(32, some 32), (33, some 33), (34, some 34), (35, some 35)] [] hρ (by kernel_rfl) ?_ ?_))
         ·simp only [AL, EV, seval, h20]
         ·simp only [AL, EV, seval, h20]
       ·rintro S ⟨v28, v29, v30, v31, rfl, h⟩; unfold s_ConjugateByTableau_j8 at h; refine AR hN fun K hK => ?_; obtain ⟨h24, h⟩ := gd_inv h; replace h24 := of_decide_eq_true h24; simp only [EV, seval, h24]; refine hK _ _ _ ?_; clear hK K; refine AW_condK (a := .bool ((bits .and .i64 (Int.fdiv a5 (2 ^ min (Int.toNat (IntKind.wrap .u64 v23)) (IntKind.bits .i64))) 1) == 1)) (by simp only [EV, seval, h24]) (brK h (fun hc13 h => ?_) (fun hc13 h => ?_))
        ·refine AS hN fun K hK => ?_; obtain ⟨q6, h25, h⟩ := bO_inv h; obtain ⟨⟨h26a, h26b⟩, h26c⟩ := geti_E EIIIIl h25; (try simp only [EV, seval] at h26c); obtain ⟨x13, h27, h⟩ := bO_inv h; simp only [EV, seval, h26a, h26b, h26c]; refine rC_p (s_MulPauli_ok h27) (by simp only [AL, EV, seval, h26a, h26b, h26c]) (le_d rfl) (no_j rfl) ?_; simp only [EV, seval, h26a, h26b, h26c]; refine hK _ _ _ (show cutK _ _ _ from cutL ⟨_, _, _, _, rfl, h⟩ (Le_can [(32, some 32), (33, some 33), (34, some 34), (35, some 35)] [] hρ (by kernel_rfl) ?_ ?_))
         ·simp only [AL, EV, seval, h26a, h26b, h26c]
         ·simp only [AL, EV, seval, h26a, h26b, h26c]
        ·refine AW_skip (show cutK _ _ _ from cutL ⟨_, _, _, _, rfl, h⟩ (Le_can [(32, some 32), (33, some 33), (34, some 34), (35, some 35)] [] hρ (by kernel_rfl) ?_ ?_))
         ·simp only [AL, EV, seval, h24]
         ·simp only [AL, EV, seval, h24]
      ·rintro S ⟨v32, v33, v34, v35, rfl, h⟩; unfold s_ConjugateByTableau_j7 at h; refine AS hN fun K hK => ?_; simp only [EV, seval]; exact hK _ _ _ (AC ⟨_, _, _, _, _, rfl, h⟩ [(32, some 32), (33, some 33), (34, some 34), (35, some 35)] [] hρ)
     ·refine AW_exit (show cutK _ _ _ from cutL ⟨_, _, _, _, rfl, h⟩ (Le_can [(32, some 34), (33, some 35)] [] hρ (by kernel_rfl) ?_ ?_))
      ·simp only [AL, EV, seval]
      ·simp only [AL, EV, seval]
   ·rintro S ⟨v36, v37, v38, v39, rfl, h⟩; unfold s_ConjugateByTableau_j2 at h; refine AR hN fun K hK => ?_; simp only [EV, seval]; refine hK _ _ _ ?_; clear hK K; injection h with h; subst h; exact AX (b' := 64) [(4, .ptr 32 0), (5, .bool true)] [(32, .box 69 [.int .i64 v36, .int .i64 v37, .int .i64 v38, .int .i64 v39])] [(32, some 32)] [] hρ (EQ [] (by simp only [EV, Try.results165, seval]))
/- impl.CosetIndex -/
def i_CosetIndex_j5 (v9 : Int) (v10 : Int) (v11 : LQ) (kl1 : Int → Int → (LQ) → Option Int) (v12 : Bool) : Option Int :=
  br v12 (some v10) (kl1 v9 (IntKind.wrap .i64 (v10 + 1)) v11)
def i_CosetIndex_j2 : Option Int :=
  some (-1)
def i_CosetIndex_l1 : Nat → Int → Int → (LQ) → Option Int
  | 0, _, _, _ => none
  | n1 + 1, v9, v10, v11 =>
  br (decide (v10 < v9)) (bO (geti v11 v10) fun q5 => bO (br (q5.2.1 == 0) (some (q5.2.2.1 == 1)) (some false)) fun x7 => i_CosetIndex_j5 v9 v10 v11 (i_CosetIndex_l1 n1) x7) (i_CosetIndex_j2)
def i_CosetIndex_j1 (a1 : Int) (a2 : LQ) (v1 : Bool) : Option Int :=
  br v1 (some (-1)) (bO (i_ConjugateByTableau a1 a2 1 1 1 0) fun x4 => bO (geti a2 1) fun q1 => bO (geti a2 0) fun q2 => i_CosetIndex_l1 FU ((([(q1.1, q1.2.1, q1.2.2.1, q1.2.2.2), (q2.1, q2.2.1, q2.2.2.1, q2.2.2.2), (x4.1, x4.2.1, x4.2.2.1, x4.2.2.2.1)]).length : Int)) 0 ([(q1.1, q1.2.1, q1.2.2.1, q1.2.2.2), (q2.1, q2.2.1, q2.2.2.1, q2.2.2.2), (x4.1, x4.2.1, x4.2.2.1, x4.2.2.2.1)]))
def i_CosetIndex (a1 : Int) (a2 : LQ) : Option Int :=
  bO (br (a1 != 1) (some true) (bO (i_IsValidTableau a1 a2) fun x1 => some (!x1))) fun x2 => i_CosetIndex_j1 a1 a2 x2
set_option maxHeartbeats 4000000 in
theorem i_CosetIndex_ok {a1 : Int} {a2 : LQ} {r : Int} (h : i_CosetIndex a1 a2 = some r) :
    Spec Try.prog 127 [.agg [.int .i64 a1, .sl (encL EIIII a2) a2.length]] [] (.int .i64 r) [] := by
 unfold i_CosetIndex at h; refine spec_of Try.func127 rfl (by kernel_rfl) (by simp only [Try.ntmps127, List.length_cons, List.length_nil, Nat.reduceAdd, Nat.reduceLeDiff]) ?_; intro C hN hρ; rw [Try.ntmps127] at hN; unfold st0; simp only [tmps0, Nat.zero_add, Nat.reduceAdd]; refine AR hN fun K hK => ?_; simp only [EV, seval]; refine hK _ _ _ ?_; clear hK K; refine AW_seq ?_; refine AJ (fun S => ∃ (v1 : Bool), S = ⟨mkT [(1, .ptr 32 0), (14, .bool v1)], mkR [(32, .box 27 [.int .i64 a1, .sl (encL EIIII a2) a2.length])], 64⟩ ∧ i_CosetIndex_j1 a1 a2 v1 = some r) hN ?_ ?_
 ·intro K hK; obtain ⟨x2, hv1, h⟩ := bO_inv h; rcases br_inv hv1 with ⟨hc1, hv1⟩ | ⟨hc1, hv1⟩
  ·cases hv1; simp only [EV, seval, hc1]; refine hK _ _ _ (show cutK _ _ _ from cutL ⟨_, rfl, h⟩ (Le_can [(32, some 64)] [] hρ (by kernel_rfl) ?_ ?_))
   ·simp only [AL, EV, seval, hc1]
   ·simp only [AL, EV, seval, hc1]
  ·obtain ⟨x3, h2, hv1⟩ := bO_inv hv1; simp only [EV, seval, hc1]; refine rC_p (i_IsValidTableau_ok h2) (by simp only [AL, EV, seval, hc1]) (le_d rfl) (no_j rfl) ?_; cases hv1; simp only [EV, seval, hc1]; refine hK _ _ _ (show cutK _ _ _ from cutL ⟨_, rfl, h⟩ (Le_can [(32, some 64)] [] hρ (by kernel_rfl) ?_ ?_))
   ·simp only [AL, EV, seval, hc1]
   ·simp only [AL, EV, seval, hc1]
 ·rintro S ⟨v1, rfl, h⟩; unfold i_CosetIndex_j1 at h; refine AW_condK (a := .bool v1) (by simp only [EV, seval]) (brK h (fun hc2 h => ?_) (fun hc2 h => ?_))
  ·refine AR hN fun K hK => ?_; simp only [EV, seval]; refine hK _ _ _ ?_; clear hK K; injection h with h; subst h; exact AX (b' := 64) [(2, .int .i64 (-1))] [] [] [] hρ (EQ [] (by simp only [EV, Try.results127, seval]))
  ·refine AW_skip (AK ?_); refine AR hN fun K hK => ?_; obtain ⟨x4, h3, h⟩ := bO_inv h; simp only [EV, seval]; refine CP (i_ConjugateByTableau_ok h3) ?_; simp only [EV, seval]; refine hK _ _ _ ?_; clear hK K; refine AW_cutK (fun S => S = ⟨mkT [], mkR [], 64⟩ ∧ i_CosetIndex_j2 = some r) ?_ ?_
   ·refine AR hN fun K hK => ?_; obtain ⟨q1, h4, h⟩ := bO_inv h; obtain ⟨⟨h5a, h5b⟩, h5c⟩ := geti_E EIIIIl h4; (try simp only [EV, seval] at h5c); obtain ⟨q2, h6, h⟩ := bO_inv h; obtain ⟨⟨h7a, h7b⟩, h7c⟩ := geti_E EIIIIl h6; (try simp only [EV, seval] at h7c); (try simp only [EV, seval, h7c] at h5c); simp only [EV, seval, h5a, h5b, h5c, h7a, h7b, h7c]; refine hK _ _ _ ?_; clear hK K; refine AW_block ?_; refine AW_loopF (fun n S => ∃ (v9 : Int) (v10 : Int) (v11 : LQ), S = ⟨mkT [(30, .own 32 v11.length), (31, .int .i64 v9), (32, .int .i64 v10)], mkR [(32, .row 69 4 (encL EIIII v11))], 64⟩ ∧ i_CosetIndex_l1 n v9 v10 v11 = some r) FU ?_ ?_ ?_
    ·refine cutL ⟨_, _, _, rfl, h⟩ (Le_can [(32, some 1232)] [] hρ (by kernel_rfl) ?_ ?_)
     ·simp only [AL, EV, seval, h5a, h5b, h5c, h7a, h7b, h7c]
     ·simp only [AL, EV, seval, h5a, h5b, h5c, h7a, h7b, h7c]
    ·rintro S ⟨_, _, _, _, h⟩; rw [i_CosetIndex_l1] at h; cases h
    ·rintro n1 S ⟨v9, v10, v11, rfl, h⟩; rw [i_CosetIndex_l1] at h; refine AR hN fun K hK => ?_; simp only [EV, seval, h7c]; refine hK _ _ _ ?_; clear hK K; refine AW_seq ?_; refine AW_condK (a := .bool (decide (v10 < v9))) (by simp only [EV, seval, h7c]) (brK h (fun hc9 h => ?_) (fun hc9 h => ?_))
     ·refine AW_skip (AK ?_); refine AW_seq ?_; refine AW_block ?_; refine AR hN fun K hK => ?_; obtain ⟨q5, h12, h⟩ := bO_inv h; obtain ⟨⟨h13a, h13b⟩, h13c⟩ := geti_E EIIIIl h12; (try simp only [EV, seval] at h13c); simp only [EV, seval, h13a, h13b, h13c, h7c]; refine hK _ _ _ ?_; clear hK K; refine AJ (fun S => ∃ (v12 : Bool), S = ⟨mkT [(5, .int .i64 v10), (30, .own 32 v11.length), (31, .int .i64 v9), (32, .int .i64 v10), (44, .bool v12)], mkR [(32, .row 69 4 (encL EIIII v11))], 64⟩ ∧ i_CosetIndex_j5 v9 v10 v11 (i_CosetIndex_l1 n1) v12 = some r) hN ?_ ?_
      ·intro K hK; obtain ⟨x7, hv4, h⟩ := bO_inv h; rcases br_inv hv4 with ⟨hc10, hv4⟩ | ⟨hc10, hv4⟩
       ·cases hv4; simp only [EV, seval, hc10, h7c]; refine hK _ _ _ (show cutK _ _ _ from cutL ⟨_, rfl, h⟩ (Le_can [(32, some 32)] [] hρ (by kernel_rfl) ?_ ?_))
        ·simp only [AL, EV, seval, hc10, h7c]
        ·simp only [AL, EV, seval, hc10, h7c]
       ·cases hv4; simp only [EV, seval, hc10, h7c]; refine hK _ _ _ (show cutK _ _ _ from cutL ⟨_, rfl, h⟩ (Le_can [(32, some 32)] [] hρ (by kernel_rfl) ?_ ?_))
        ·simp only [AL, EV, seval, hc10, h7c]
        ·simp only [AL, EV, seval, hc10, h7c]
      ·rintro S ⟨v12, rfl, h⟩; unfold i_CosetIndex_j5 at h; refine AW_condK (a := .bool v12) (by simp only [EV, seval, h13a, h13b, h13c, h7c]) (brK h (fun hc11 h => ?_) (fun hc11 h => ?_))
       ·refine AR hN fun K hK => ?_; simp only [EV, seval, h7c]; refine hK _ _ _ ?_; clear hK K; injection h with h; subst h; refine AW_le (Le_can (lt := [(2, .int .i64 v10)]) (lr := []) (b' := 64) [] [] hρ (by kernel_rfl) ?_ ?_) (AW_ret (end_q [] (.inr rfl) (by kernel_rfl) (by kernel_rfl) ?_))
        ·simp only [AL, EV, seval, h7c]
        ·simp only [AL, EV, seval, h7c]
        ·simp only [EV, Try.results127, seval]
       ·refine AW_skip (AK ?_); refine AS hN fun K hK => ?_; simp only [EV, seval, h7c]; refine hK _ _ _ (show cutK _ _ _ from cutL ⟨_, _, _, rfl, h⟩ (Le_can [(32, some 32)] [] hρ (by kernel_rfl) ?_ ?_))
        ·simp only [AL, EV, seval, h7c]
        ·simp only [AL, EV, seval, h7c]
     ·refine AW_exit (show cutK _ _ _ from cutL ⟨rfl, h⟩ (Le_can [] [] hρ (by kernel_rfl) ?_ ?_))
      ·simp only [AL, EV, seval, h7c]
      ·simp only [AL, EV, seval, h7c]
   ·rintro S ⟨rfl, h⟩; unfold i_CosetIndex_j2 at h; refine AR hN fun K hK => ?_; simp only [EV, seval]; refine hK _ _ _ ?_; clear hK K; injection h with h; subst h; exact AX (b' := 64) [(2, .int .i64 (-1))] [] [] [] hρ (EQ [] (by simp only [EV, Try.results127, seval]))
/- spec.CosetIndex -/
def s_CosetIndex_j1 (a2 : LQ) (v1 : Bool) : Option Int :=
  br v1 (some (-1)) (bO (geti a2 1) fun q1 => br (q1.2.1 == 0) (some 0) (bO (geti a2 0) fun q2 => br (q2.2.1 == 0) (some 1) (some 2)))
def s_CosetIndex (a1 : Int) (a2 : LQ) : Option Int :=
  bO (s_IsValidTableau a1 a2) fun x1 => bO (br (!x1) (some true) (some (a1 != 1))) fun x2 => s_CosetIndex_j1 a2 x2
set_option maxHeartbeats 4000000 in
theorem s_CosetIndex_ok {a1 : Int} {a2 : LQ} {r : Int} (h : s_CosetIndex a1 a2 = some r) :
    Spec Try.prog 134 [.agg [.int .i64 a1, .sl (encL EIIII a2) a2.length]] [] (.int .i64 r) [] := by
 unfold s_CosetIndex at h; refine spec_of Try.func134 rfl (by kernel_rfl) (by simp only [Try.ntmps134, List.length_cons, List.length_nil, Nat.reduceAdd, Nat.reduceLeDiff]) ?_; intro C hN hρ; rw [Try.ntmps134] at hN; unfold st0; simp only [tmps0, Nat.zero_add, Nat.reduceAdd]; refine AR hN fun K hK => ?_; simp only [EV, seval]; refine hK _ _ _ ?_; clear hK K; refine AW_seq ?_; refine AJ (fun S => ∃ (v1 : Bool), S = ⟨mkT [(1, .ptr 32 0), (10, .bool v1)], mkR [(32, .box 27 [.int .i64 a1, .sl (encL EIIII a2) a2.length])], 64⟩ ∧ s_CosetIndex_j1 a2 v1 = some r) hN ?_ ?_
 ·intro K hK; obtain ⟨x1, h1, h⟩ := bO_inv h; simp only [EV, seval]; refine CP (s_IsValidTableau_ok h1) ?_; obtain ⟨x2, hv1, h⟩ := bO_inv h; rcases br_inv hv1 with ⟨hc1, hv1⟩ | ⟨hc1, hv1⟩
  ·cases hv1; simp only [EV, seval, hc1]; refine hK _ _ _ (show cutK _ _ _ from cutL ⟨_, rfl, h⟩ (Le_can [(32, some 64)] [] hρ (by kernel_rfl) ?_ ?_))
   ·simp only [AL, EV, seval, hc1]
   ·simp only [AL, EV, seval, hc1]
  ·cases hv1; simp only [EV, seval, hc1]; refine hK _ _ _ (show cutK _ _ _ from cutL ⟨_, rfl, h⟩ (Le_can [(32, some 64)] [] hρ (by kernel_rfl) ?_ ?_))
   ·simp only [AL, EV, seval, hc1]
   ·simp only [AL, EV, seval, hc1]
 ·rintro S ⟨v1, rfl, h⟩; unfold s_CosetIndex_j1 at h; refine AW_condK (a := .bool v1) (by simp only [EV, seval]) (brK h (fun hc2 h => ?_) (fun hc2 h => ?_))
  ·refine AR hN fun K hK => ?_; simp only [EV, seval]; refine hK _ _ _ ?_; clear hK K; injection h with h; subst h; exact AX (b' := 64) [(2, .int .i64 (-1))] [] [] [] hρ (EQ [] (by simp only [EV, Try.results134, seval]))
  ·refine AW_skip (AK ?_); refine AW_seq ?_; refine AR hN fun K hK => ?_; obtain ⟨q1, h2, h⟩ := bO_inv h; obtain ⟨⟨h3a, h3b⟩, h3c⟩ := geti_E EIIIIl h2; (try simp only [EV, seval] at h3c); simp only [EV, seval, h3a, h3b, h3c]; refine hK _ _ _ ?_; clear hK K; refine AW_condK (a := .bool (q1.2.1 == 0)) (by simp only [EV, seval, h3a, h3b, h3c]) (brK h (fun hc3 h => ?_) (fun hc3 h => ?_))
   ·refine AR hN fun K hK => ?_; simp only [EV, seval]; refine hK _ _ _ ?_; clear hK K; injection h with h; subst h; exact AX (b' := 64) [(2, .int .i64 0)] [] [] [] hρ (EQ [] (by simp only [EV, Try.results134, seval]))
   ·refine AW_skip (AK ?_); refine AW_seq ?_; refine AR hN fun K hK => ?_; obtain ⟨q2, h4, h⟩ := bO_inv h; obtain ⟨⟨h5a, h5b⟩, h5c⟩ := geti_E EIIIIl h4; (try simp only [EV, seval] at h5c); (try simp only [EV, seval, h5c] at h3c); simp only [EV, seval, h5a, h5b, h5c]; refine hK _ _ _ ?_; clear hK K; refine AW_condK (a := .bool (q2.2.1 == 0)) (by simp only [EV, seval, h5a, h5b, h5c]) (brK h (fun hc4 h => ?_) (fun hc4 h => ?_))
    ·refine AR hN fun K hK => ?_; simp only [EV, seval, h5c]; refine hK _ _ _ ?_; clear hK K; injection h with h; subst h; refine AW_le (Le_can (lt := [(2, .int .i64 1)]) (lr := []) (b' := 64) [] [] hρ (by kernel_rfl) ?_ ?_) (AW_ret (end_q [] (.inr rfl) (by kernel_rfl) (by kernel_rfl) ?_))
     ·simp only [AL, EV, seval, h5c]
     ·simp only [AL, EV, seval, h5c]
     ·simp only [EV, Try.results134, seval]
    ·refine AW_skip (AK ?_); refine AR hN fun K hK => ?_; simp only [EV, seval, h5c]; refine hK _ _ _ ?_; clear hK K; injection h with h; subst h; refine AW_le (Le_can (lt := [(2, .int .i64 2)]) (lr := []) (b' := 64) [] [] hρ (by kernel_rfl) ?_ ?_) (AW_ret (end_q [] (.inr rfl) (by kernel_rfl) (by kernel_rfl) ?_))
     ·simp only [AL, EV, seval, h5c]
     ·simp only [AL, EV, seval, h5c]
     ·simp only [EV, Try.results134, seval]
end Go.Proofs.Ytbkkfmcjfbbkaaa
