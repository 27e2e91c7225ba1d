/- Joined texts: Mdc Mpt Men Mtc. -/
import Derived.Test.YtbkkfmcjfbbkaaaGreatK1
import Derived.Test.YtbkkfmcjfbbkaaaGreatK4
import Derived.Test.YtbkkfmcjfbbkaaaGreatK6
import Derived.Test.YtbkkfmcjfbbkaaaGreatK5
/- Models of functions, and that the functions do what the models say; printed by a program. -/
namespace Go.Proofs.YtbkkfmcjfbbkaaaGreat
open Go.RowKit
set_option maxRecDepth 100000
set_option linter.unusedVariables false
set_option linter.unusedSimpArgs false
set_option linter.defProp false
set_option maxHeartbeats 4000000
/- spec.DrawComputeNormalForm -/
def s_DrawComputeNormalForm_j1 (v1 : LQ) : Option (LQ) :=
  some v1
def s_DrawComputeNormalForm (a1 : List Int) : Option (LQ) :=
  bO (s_l1New a1) fun x1 => bO (s_l30Run x1.1 x1.2.1 x1.2.2 14) fun x2 => bO (s_l1Once x2.2.1 x2.2.2.1 x2.2.2.2 10) fun x3 => br x3.1 (bO (s_l9Bent x3.2.1 x3.2.2.1 x3.2.2.2 2) fun x4 => gd (decide (x2.1.length + ([(x4.1, x4.2.1, x4.2.2.1, x4.2.2.2.1)]).length ≤ 16777216)) (s_DrawComputeNormalForm_j1 (x2.1 ++ ([(x4.1, x4.2.1, x4.2.2.1, x4.2.2.2.1)])))) (s_DrawComputeNormalForm_j1 x2.1)
theorem s_DrawComputeNormalForm_ok {a1 : List Int} {r : LQ} (h : s_DrawComputeNormalForm a1 = some r) :
    Spec Tryz.prog 17 [.sl (encL EB a1) a1.length] [] (.own 0 r.length) [.row 45 4 (encL EIIII r)] := by
 unfold s_DrawComputeNormalForm at h; refine SO Tryz.func17 rfl Tryz.ntmps17 fun C hN hρ => ?_; simp only [st0, tmps0, Nat.zero_add, Nat.reduceAdd]; refine AR hN fun K hK => ?_; simp only [EV, seval]; refine hK _ _ _ ?_; clear hK K; refine AR hN fun K hK => ?_; obtain ⟨x1, h1, h⟩ := bO_inv h; simp only [EV, seval]; refine rC_p (s_l1New_ok h1) (by simp only [AL, EV, seval]) (le_d rfl) (site_1 (by simp only [EV, seval])) ?_; simp only [EV, seval]; refine hK _ _ _ ?_; clear hK K; refine AR hN fun K hK => ?_; obtain ⟨x2, h2, h⟩ := bO_inv h; simp only [EV, seval]; refine rR_p [1104] (s_l30Run_ok h2) (by simp only [AL, EV, seval]) (by simp only [AL, EV, seval]) (by kernel_rfl) (by simp only [EV, solidO, List.mem_cons, List.not_mem_nil, or_false, forall_eq_or_imp, forall_eq, seval]) (le_d rfl) (le_d rfl) (site_1 (by simp only [EV, seval])) ?_; simp only [EV, seval]; refine hK _ _ _ ?_; clear hK K; refine AW_cutK (fun S => ∃ (v1 : LQ), S = ⟨mkT [(4, .own 32 v1.length)], mkR [(32, .row 45 4 (encL EIIII v1))], 64⟩ ∧ s_DrawComputeNormalForm_j1 v1 = some r) ?_ ?_
 ·refine AR hN fun K hK => ?_; obtain ⟨x3, h3, h⟩ := bO_inv h; simp only [EV, seval]; refine rR_p [1104] (s_l1Once_ok h3) (by simp only [AL, EV, seval]) (by simp only [AL, EV, seval]) (by kernel_rfl) (by simp only [EV, solidO, List.mem_cons, List.not_mem_nil, or_false, forall_eq_or_imp, forall_eq, seval]) (le_d rfl) (le_d rfl) (no_j rfl) ?_; simp only [EV, seval]; refine hK _ _ _ ?_; clear hK K; refine AB h (fun hc1 h => ?_) fun hc1 h => ?_
  ·refine AS hN fun K hK => ?_; obtain ⟨x4, h4, h⟩ := bO_inv h; simp only [EV, seval]; refine rR_p [1104] (s_l9Bent_ok h4) (by simp only [AL, EV, seval]) (by simp only [AL, EV, seval]) (by kernel_rfl) (by simp only [EV, solidO, List.mem_cons, List.not_mem_nil, or_false, forall_eq_or_imp, forall_eq, seval]) (le_d rfl) (le_d rfl) (no_j rfl) ?_; obtain ⟨h5, h⟩ := gd_inv h; replace h5 := of_decide_eq_true h5; (try simp only [EV, seval] at h5); simp only [EV, seval, h5]; refine hK _ _ _ (show cutK _ _ _ from cutL ⟨_, rfl, h⟩ (Le_can [(32, some 4224)] [] hρ (by kernel_rfl) ?_ ?_))
   ·simp only [AL, EV, seval, h5]
   ·simp only [AL, EV, seval, h5]
  ·refine AW_skip (show cutK _ _ _ from cutL ⟨_, rfl, h⟩ (Le_can [(32, some 2128)] [] hρ (by kernel_rfl) ?_ ?_))
   ·simp only [AL, EV, seval]
   ·simp only [AL, EV, seval]
 ·rintro S ⟨v1, rfl, h⟩; unfold s_DrawComputeNormalForm_j1 at h; refine AR hN fun K hK => ?_; simp only [EV, seval]; refine hK _ _ _ ?_; clear hK K; injection h with h; subst h; exact AX (b' := 64) [(2, .own 32 v1.length)] [(32, .row 45 4 (encL EIIII v1))] [(32, some 32)] [] hρ (EQ [32] (by simp only [EV, Tryz.results17, seval]))
end Go.Proofs.YtbkkfmcjfbbkaaaGreat
/- Models of functions, and that the functions do what the models say; printed by a program. -/
namespace Go.Proofs.YtbkkfmcjfbbkaaaGreat
open Go.RowKit
set_option maxRecDepth 100000
set_option linter.unusedVariables false
set_option linter.unusedSimpArgs false
set_option linter.defProp false
set_option maxHeartbeats 4000000
/- laws.apart -/
def l_apart_j4 (v8 : Int) (v9 : List (List (Int × Int × Int × Int × Int))) (v10 : List (List (Int × Int × Int × Int × Int))) (kl1 : Int → (List (List (Int × Int × Int × Int × Int))) → (List (List (Int × Int × Int × Int × Int))) → Option (Int × Bool)) (x12 : List (Int × Int × Int × Int × Int) × Bool) (x14 : List (Int × Int × Int × Int × Int) × Bool) (v11 : Bool) : Option (Int × Bool) :=
  br v11 (some (0, false)) (gd (decide (v9.length + ([x12.1]).length ≤ 16777216)) (gd (decide (v10.length + ([x14.1]).length ≤ 16777216)) (kl1 (IntKind.wrap .i64 (v8 + 1)) (v9 ++ ([x12.1])) (v10 ++ ([x14.1])))))
def l_apart_j1 (v12 : List (List (Int × Int × Int × Int × Int))) (v13 : List (List (Int × Int × Int × Int × Int))) : Option (Int × Bool) :=
  bO (s_GlobalPhase v12 v13) fun x16 => some (x16.1, x16.2)
def l_apart_l1 (a1 : LQ) (a2 : LQ) (a3 : Int) : Nat → Int → (List (List (Int × Int × Int × Int × Int))) → (List (List (Int × Int × Int × Int × Int))) → Option (Int × Bool)
  | 0, _, _, _ => none
  | n1 + 1, v8, v9, v10 =>
  gd (decide (¬ (IntKind.wrap .u64 a3) < 0)) (br (decide (v8 < (IntKind.wrap .i64 (1 * 2 ^ min (Int.toNat (IntKind.wrap .u64 a3)) (IntKind.bits .i64))))) (bO (s_BasisState a3 v8) fun x11 => bO (s_ApplyGates a1 x11) fun x12 => bO (s_BasisState a3 v8) fun x13 => bO (s_ApplyGates a2 x13) fun x14 => bO (br (!x12.2) (some true) (some (!x14.2))) fun x15 => l_apart_j4 v8 v9 v10 (l_apart_l1 a1 a2 a3 n1) x12 x14 x15) (l_apart_j1 v9 v10))
def l_apart (a1 : LQ) (a2 : LQ) (a3 : Int) : Option (Int × Bool) :=
  l_apart_l1 a1 a2 a3 FU 0 ([] : List (List (Int × Int × Int × Int × Int))) ([] : List (List (Int × Int × Int × Int × Int)))
theorem l_apart_ok {a1 : LQ} {a2 : LQ} {a3 : Int} {r : Int × Bool} (h : l_apart a1 a2 a3 = some r) :
    Spec Tryz.prog 19 [.sl (encL EIIII a1) a1.length, .sl (encL EIIII a2) a2.length, .int .i64 a3] [] (.tup [.int .i64 r.1, .bool r.2]) [] := by
 unfold l_apart at h; refine SO Tryz.func19 rfl Tryz.ntmps19 fun C hN hρ => ?_; simp only [st0, tmps0, Nat.zero_add, Nat.reduceAdd]; refine AR hN fun K hK => ?_; simp only [EV, seval]; refine hK _ _ _ ?_; clear hK K; refine AR hN fun K hK => ?_; simp only [EV, seval]; refine hK _ _ _ ?_; clear hK K; refine AR hN fun K hK => ?_; simp only [EV, seval]; refine hK _ _ _ ?_; clear hK K; refine AW_cutK (fun S => ∃ (v12 : List (List (Int × Int × Int × Int × Int))) (v13 : List (List (Int × Int × Int × Int × Int))), S = ⟨mkT [(8, .own 32 v12.length), (9, .own 33 v13.length)], mkR [(32, .row 68 1 (encL ELIIIIIE v12)), (33, .row 68 1 (encL ELIIIIIE v13))], 64⟩ ∧ l_apart_j1 v12 v13 = some r) ?_ ?_
 ·refine AR hN fun K hK => ?_; simp only [EV, seval]; refine hK _ _ _ ?_; clear hK K; refine AW_block ?_; refine AW_loopF (fun n S => ∃ (v8 : Int) (v9 : List (List (Int × Int × Int × Int × Int))) (v10 : List (List (Int × Int × Int × Int × Int))), S = ⟨mkT [(0, .sl (encL EIIII a1) a1.length), (1, .sl (encL EIIII a2) a2.length), (2, .int .i64 a3), (8, .own 32 v9.length), (9, .own 33 v10.length), (10, .int .i64 v8)], mkR [(32, .row 68 1 (encL ELIIIIIE v9)), (33, .row 68 1 (encL ELIIIIIE v10))], 64⟩ ∧ l_apart_l1 a1 a2 a3 n v8 v9 v10 = some r) FU ?_ ?_ ?_
  ·refine cutL ⟨_, _, _, rfl, h⟩ (Le_can [(32, some 1088), (33, some 2112)] [] hρ (by kernel_rfl) ?_ ?_)
   ·simp only [AL, EV, seval]
   ·simp only [AL, EV, seval]
  ·rintro S ⟨_, _, _, _, h⟩; rw [l_apart_l1] at h; cases h
  ·rintro n1 S ⟨v8, v9, v10, rfl, h⟩; rw [l_apart_l1] at h; refine AW_seq ?_; refine AR hN fun K hK => ?_; obtain ⟨h15, h⟩ := gd_inv h; replace h15 := of_decide_eq_true h15; simp only [EV, seval, h15]; refine hK _ _ _ ?_; clear hK K; refine AW_condK (a := .bool (decide (v8 < (IntKind.wrap .i64 (1 * 2 ^ min (Int.toNat (IntKind.wrap .u64 a3)) (IntKind.bits .i64)))))) (by simp only [EV, seval, h15]) (brK h (fun hc7 h => ?_) (fun hc7 h => ?_))
   ·refine AW_skip (AK ?_); refine AW_seq ?_; refine AW_block ?_; refine AR hN fun K hK => ?_; obtain ⟨x11, h16, h⟩ := bO_inv h; simp only [EV, seval]; refine rC_p (s_BasisState_ok h16) (by simp only [AL, EV, seval]) (le_d rfl) (site_1 (by simp only [EV, seval])) ?_; obtain ⟨x12, h17, h⟩ := bO_inv h; simp only [EV, seval]; refine rC_l (s_ApplyGates_ok h17) (by simp only [AL, EV, seval]) (by simp only [AL, EF, and_self]) (le_d rfl) (site_1 (by simp only [EV, seval])) ?_; simp only [EV, seval]; refine hK _ _ _ ?_; clear hK K; refine AR hN fun K hK => ?_; obtain ⟨x13, h18, h⟩ := bO_inv h; simp only [EV, seval]; refine rC_p (s_BasisState_ok h18) (by simp only [AL, EV, seval]) (le_d rfl) (site_1 (by simp only [EV, seval])) ?_; obtain ⟨x14, h19, h⟩ := bO_inv h; simp only [EV, seval]; refine rC_l (s_ApplyGates_ok h19) (by simp only [AL, EV, seval]) (by simp only [AL, EF, and_self]) (le_d rfl) (site_1 (by simp only [EV, seval])) ?_; simp only [EV, seval]; refine hK _ _ _ ?_; clear hK K; refine AW_seq ?_; refine AJ (fun S => ∃ (v11 : Bool), S = ⟨mkT [(0, .sl (encL EIIII a1) a1.length), (1, .sl (encL EIIII a2) a2.length), (2, .int .i64 a3), (8, .own 32 v9.length), (9, .own 33 v10.length), (10, .int .i64 v8), (11, .own 34 x12.1.length), (13, .own 35 x14.1.length), (45, .bool v11)], mkR [(32, .row 68 1 (encL ELIIIIIE v9)), (33, .row 68 1 (encL ELIIIIIE v10)), (34, .row 110 5 (encL EIIIII x12.1)), (35, .row 110 5 (encL EIIIII x14.1))], 64⟩ ∧ l_apart_j4 v8 v9 v10 (l_apart_l1 a1 a2 a3 n1) x12 x14 v11 = some r) hN ?_ ?_
    ·intro K hK; obtain ⟨x15, hv3, h⟩ := bO_inv h; rcases br_inv hv3 with ⟨hc8, hv3⟩ | ⟨hc8, hv3⟩
     ·cases hv3; simp only [EV, seval, hc8]; refine hK _ _ _ (show cutK _ _ _ from cutL ⟨_, rfl, h⟩ (Le_can [(32, some 32), (33, some 33), (34, some 1152), (35, some 2176)] [] hρ (by kernel_rfl) ?_ ?_))
      ·simp only [AL, EV, seval, hc8]
      ·simp only [AL, EV, seval, hc8]
     ·cases hv3; simp only [EV, seval, hc8]; refine hK _ _ _ (show cutK _ _ _ from cutL ⟨_, rfl, h⟩ (Le_can [(32, some 32), (33, some 33), (34, some 1152), (35, some 2176)] [] hρ (by kernel_rfl) ?_ ?_))
      ·simp only [AL, EV, seval, hc8]
      ·simp only [AL, EV, seval, hc8]
    ·rintro S ⟨v11, rfl, h⟩; unfold l_apart_j4 at h; refine AB h (fun hc9 h => ?_) fun hc9 h => ?_
     ·refine AR hN fun K hK => ?_; simp only [EV, seval]; refine hK _ _ _ ?_; clear hK K; injection h with h; subst h; exact AX (b' := 64) [(6, .int .i64 0), (7, .bool false)] [] [] [] hρ (EQ [] (by simp only [EV, Tryz.results19, seval]))
     ·refine AW_skip (AK ?_); refine AW_le (Le_can (lt := [(0, .sl (encL EIIII a1) a1.length), (1, .sl (encL EIIII a2) a2.length), (2, .int .i64 a3), (8, .own 32 v9.length), (9, .own 33 v10.length), (10, .int .i64 v8), (11, .sl (encL EIIIII x12.1) x12.1.length), (13, .own 35 x14.1.length)]) (lr := [(32, .row 68 1 (encL ELIIIIIE v9)), (33, .row 68 1 (encL ELIIIIIE v10)), (35, .row 110 5 (encL EIIIII x14.1))]) (b' := 80) [(32, some 32), (33, some 33), (35, some 35)] [34] hρ (by kernel_rfl) ?_ ?_) ?_
      ·simp only [AL, EV, seval]
      ·simp only [AL, EV, seval]
      refine AR hN fun K hK => ?_; obtain ⟨h20, h⟩ := gd_inv h; replace h20 := of_decide_eq_true h20; (try simp only [EV, seval] at h20); simp only [EV, seval, h20]; refine hK _ _ _ ?_; clear hK K; refine AW_le (Le_can (lt := [(0, .sl (encL EIIII a1) a1.length), (1, .sl (encL EIIII a2) a2.length), (2, .int .i64 a3), (8, .own 128 (v9 ++ ([x12.1])).length), (9, .own 33 v10.length), (10, .int .i64 v8), (13, .sl (encL EIIIII x14.1) x14.1.length)]) (lr := [(33, .row 68 1 (encL ELIIIIIE v10)), (128, .row 68 1 (encL ELIIIIIE (v9 ++ ([x12.1]))))]) (b' := 1120) [(128, some 128), (33, some 33)] [35] hρ (by kernel_rfl) ?_ ?_) ?_
      ·simp only [AL, EV, seval]
      ·simp only [AL, EV, seval]
      refine AS hN fun K hK => ?_; obtain ⟨h21, h⟩ := gd_inv h; replace h21 := of_decide_eq_true h21; (try simp only [EV, seval] at h21); simp only [EV, seval, h21]; refine hK _ _ _ (show AW _ _ _ _ _ from ?_); refine AS hN fun K hK => ?_; simp only [EV, seval]; exact hK _ _ _ (AC ⟨_, _, _, rfl, h⟩ [(32, some 128), (33, some 1168)] [] hρ)
   ·refine AW_exit (show cutK _ _ _ from cutL ⟨_, _, rfl, h⟩ (Le_can [(32, some 32), (33, some 33)] [] hρ (by kernel_rfl) ?_ ?_))
    ·simp only [AL, EV, seval, h15]
    ·simp only [AL, EV, seval, h15]
 ·rintro S ⟨v12, v13, rfl, h⟩; unfold l_apart_j1 at h; refine AR hN fun K hK => ?_; obtain ⟨x16, h22, h⟩ := bO_inv h; simp only [EV, seval]; refine rC_l (s_GlobalPhase_ok h22) (by simp only [AL, EV, seval]) (by simp only [AL, EF, and_self]) (le_d rfl) (no_j rfl) ?_; simp only [EV, seval]; refine hK _ _ _ ?_; clear hK K; injection h with h; subst h; exact AX (b' := 64) [(6, .int .i64 x16.1), (7, .bool x16.2)] [] [] [] hρ (EQ [] (by simp only [EV, Tryz.results19, seval]))
end Go.Proofs.YtbkkfmcjfbbkaaaGreat
/- Models of functions, and that the functions do what the models say; printed by a program. -/
namespace Go.Proofs.YtbkkfmcjfbbkaaaGreat
open Go.RowKit
set_option maxRecDepth 100000
set_option linter.unusedVariables false
set_option linter.unusedSimpArgs false
set_option linter.defProp false
set_option maxHeartbeats 4000000
/- spec.l1Ints -/
def s_l1Ints_j1 : Option Bool :=
  some true
def s_l1Ints_l1 (a1 : List Int) (a2 : List Int) : Nat → Int → Option Bool
  | 0, _ => none
  | n1 + 1, v2 =>
  br (decide (v2 < ((a1.length : Int)))) (bO (geti a1 v2) fun q5 => bO (geti a2 v2) fun q6 => br (q5 != q6) (some false) ((s_l1Ints_l1 a1 a2 n1) (IntKind.wrap .i64 (v2 + 1)))) (s_l1Ints_j1)
def s_l1Ints (a1 : List Int) (a2 : List Int) : Option Bool :=
  br (((a1.length : Int)) != ((a2.length : Int))) (some false) (s_l1Ints_l1 a1 a2 FU 0)
theorem s_l1Ints_ok {a1 : List Int} {a2 : List Int} {r : Bool} (h : s_l1Ints a1 a2 = some r) :
    Spec Tryz.prog 45 [.sl (encL EI a1) a1.length, .sl (encL EI a2) a2.length] [] (.bool r) [] := by
 unfold s_l1Ints at h; refine SO Tryz.func45 rfl Tryz.ntmps45 fun C hN hρ => ?_; simp only [st0, tmps0, Nat.zero_add, Nat.reduceAdd]; refine AR hN fun K hK => ?_; simp only [EV, seval]; refine hK _ _ _ ?_; clear hK K; refine AW_seq ?_; refine AR hN fun K hK => ?_; simp only [EV, seval]; refine hK _ _ _ ?_; clear hK K; refine AB h (fun hc1 h => ?_) fun hc1 h => ?_
 ·refine AR hN fun K hK => ?_; simp only [EV, seval]; refine hK _ _ _ ?_; clear hK K; injection h with h; subst h; exact AX (b' := 64) [(4, .bool false)] [] [] [] hρ (EQ [] (by simp only [EV, Tryz.results45, seval]))
 ·refine AW_skip (AK ?_); refine AW_cutK (fun S => S = ⟨mkT [], mkR [], 64⟩ ∧ s_l1Ints_j1 = some r) ?_ ?_
  ·refine AR hN fun K hK => ?_; simp only [EV, seval]; refine hK _ _ _ ?_; clear hK K; refine AW_block ?_; refine AW_loopF (fun n S => ∃ (v2 : Int), S = ⟨mkT [(0, .sl (encL EI a1) a1.length), (1, .sl (encL EI a2) a2.length), (5, .int .i64 v2)], mkR [], 64⟩ ∧ s_l1Ints_l1 a1 a2 n v2 = some r) FU ?_ ?_ ?_
   ·refine cutL ⟨_, rfl, h⟩ (Le_can [] [] hρ (by kernel_rfl) ?_ ?_)
    ·simp only [AL, EV, seval]
    ·simp only [AL, EV, seval]
   ·rintro S ⟨_, _, h⟩; rw [s_l1Ints_l1] at h; cases h
   ·rintro n1 S ⟨v2, rfl, h⟩; rw [s_l1Ints_l1] at h; refine AW_seq ?_; refine AR hN fun K hK => ?_; simp only [EV, seval]; refine hK _ _ _ ?_; clear hK K; refine AB h (fun hc6 h => ?_) fun hc6 h => ?_
    ·refine AW_skip (AK ?_); refine AW_seq ?_; refine AW_block ?_; refine AR hN fun K hK => ?_; obtain ⟨q5, h9, h⟩ := bO_inv h; obtain ⟨⟨h10a, h10b⟩, h10c⟩ := geti_E EIl h9; (try simp only [EV, seval] at h10c); obtain ⟨q6, h11, h⟩ := bO_inv h; obtain ⟨⟨h12a, h12b⟩, h12c⟩ := geti_E EIl h11; (try simp only [EV, seval] at h12c); simp only [EV, seval, h10a, h10b, h10c, h12a, h12b, h12c]; refine hK _ _ _ ?_; clear hK K; refine AW_condK (a := .bool (q5 != q6)) (by simp only [EV, seval, h10a, h10b, h10c, h12a, h12b, h12c]) (brK h (fun hc7 h => ?_) (fun hc7 h => ?_))
     ·refine AR hN fun K hK => ?_; simp only [EV, seval]; refine hK _ _ _ ?_; clear hK K; injection h with h; subst h; exact AX (b' := 64) [(4, .bool false)] [] [] [] hρ (EQ [] (by simp only [EV, Tryz.results45, seval]))
     ·refine AW_skip (AK ?_); refine AS hN fun K hK => ?_; simp only [EV, seval]; exact hK _ _ _ (AC ⟨_, rfl, h⟩ [] [] hρ)
    ·refine AW_exit (show cutK _ _ _ from cutL ⟨rfl, h⟩ (Le_can [] [] hρ (by kernel_rfl) ?_ ?_))
     ·simp only [AL, EV, seval]
     ·simp only [AL, EV, seval]
  ·rintro S ⟨rfl, h⟩; unfold s_l1Ints_j1 at h; refine AR hN fun K hK => ?_; simp only [EV, seval]; refine hK _ _ _ ?_; clear hK K; injection h with h; subst h; exact AX (b' := 64) [(4, .bool true)] [] [] [] hρ (EQ [] (by simp only [EV, Tryz.results45, seval]))
/- spec.EqualNormalForm -/
def s_EqualNormalForm_j1 (v1 : Bool) : Option Bool :=
  some v1
def s_EqualNormalForm (a1 : List Int) (a2 : Int) (a3 : LQ) (a4 : List Int) (a5 : Int) (a6 : LQ) : Option Bool :=
  bO (s_l1Ints a1 a4) fun x1 => bO (br x1 (bO (s_EqualTableau a2 a3 a5 a6) fun x2 => some x2) (some false)) fun x3 => s_EqualNormalForm_j1 x3
theorem s_EqualNormalForm_ok {a1 : List Int} {a2 : Int} {a3 : LQ} {a4 : List Int} {a5 : Int} {a6 : LQ} {r : Bool} (h : s_EqualNormalForm a1 a2 a3 a4 a5 a6 = some r) :
    Spec Tryz.prog 16 [.agg [.sl (encL EI a1) a1.length, .int .i64 a2, .sl (encL EIIII a3) a3.length], .agg [.sl (encL EI a4) a4.length, .int .i64 a5, .sl (encL EIIII a6) a6.length]] [] (.bool r) [] := by
 unfold s_EqualNormalForm at h; refine SO Tryz.func16 rfl Tryz.ntmps16 fun C hN hρ => ?_; simp only [st0, tmps0, Nat.zero_add, Nat.reduceAdd]; refine AR hN fun K hK => ?_; simp only [EV, seval]; refine hK _ _ _ ?_; clear hK K; refine AJ (fun S => ∃ (v1 : Bool), S = ⟨mkT [(4, .bool v1)], mkR [], 64⟩ ∧ s_EqualNormalForm_j1 v1 = some r) hN ?_ ?_
 ·intro K hK; obtain ⟨x1, h1, h⟩ := bO_inv h; simp only [EV, seval]; refine CP (s_l1Ints_ok h1) ?_; obtain ⟨x3, hv1, h⟩ := bO_inv h; rcases br_inv hv1 with ⟨hc1, hv1⟩ | ⟨hc1, hv1⟩
  ·obtain ⟨x4, h3, hv1⟩ := bO_inv hv1; simp only [EV, seval, hc1]; refine rC_p (s_EqualTableau_ok h3) (by simp only [AL, EV, seval, hc1]) (le_d rfl) (no_j rfl) ?_; cases hv1; simp only [EV, seval, hc1]; refine hK _ _ _ (show cutK _ _ _ from cutL ⟨_, rfl, h⟩ (Le_can [] [] hρ (by kernel_rfl) ?_ ?_))
   ·simp only [AL, EV, seval, hc1]
   ·simp only [AL, EV, seval, hc1]
  ·cases hv1; simp only [EV, seval, hc1]; refine hK _ _ _ (show cutK _ _ _ from cutL ⟨_, rfl, h⟩ (Le_can [] [] hρ (by kernel_rfl) ?_ ?_))
   ·simp only [AL, EV, seval, hc1]
   ·simp only [AL, EV, seval, hc1]
 ·rintro S ⟨v1, rfl, h⟩; unfold s_EqualNormalForm_j1 at h; injection h with h; subst h; exact AX (b' := 64) [(4, .bool v1)] [] [] [] hρ (EQ [] (by simp only [EV, Tryz.results16, seval]))
/- impl.same[int] -/
def i_same_int__j1 : Option Bool :=
  some true
def i_same_int__l1 (a1 : List Int) (a2 : List Int) : Nat → Int → Int → Option Bool
  | 0, _, _ => none
  | n1 + 1, v4, v5 =>
  br (decide (v5 < v4)) (bO (geti a1 v5) fun q5 => bO (geti a2 v5) fun q6 => br (q5 != q6) (some false) ((i_same_int__l1 a1 a2 n1) v4 (IntKind.wrap .i64 (v5 + 1)))) (i_same_int__j1)
def i_same_int_ (a1 : List Int) (a2 : List Int) : Option Bool :=
  br (((a1.length : Int)) != ((a2.length : Int))) (some false) (i_same_int__l1 a1 a2 FU ((a1.length : Int)) 0)
theorem i_same_int__ok {a1 : List Int} {a2 : List Int} {r : Bool} (h : i_same_int_ a1 a2 = some r) :
    Spec Tryz.prog 43 [.sl (encL EI a1) a1.length, .sl (encL EI a2) a2.length] [] (.bool r) [] := by
 unfold i_same_int_ at h; refine SO Tryz.func43 rfl Tryz.ntmps43 fun C hN hρ => ?_; simp only [st0, tmps0, Nat.zero_add, Nat.reduceAdd]; refine AR hN fun K hK => ?_; simp only [EV, seval]; refine hK _ _ _ ?_; clear hK K; refine AW_seq ?_; refine AR hN fun K hK => ?_; simp only [EV, seval]; refine hK _ _ _ ?_; clear hK K; refine AB h (fun hc1 h => ?_) fun hc1 h => ?_
 ·refine AR hN fun K hK => ?_; simp only [EV, seval]; refine hK _ _ _ ?_; clear hK K; injection h with h; subst h; exact AX (b' := 64) [(4, .bool false)] [] [] [] hρ (EQ [] (by simp only [EV, Tryz.results43, seval]))
 ·refine AW_skip (AK ?_); refine AW_cutK (fun S => S = ⟨mkT [], mkR [], 64⟩ ∧ i_same_int__j1 = some r) ?_ ?_
  ·refine AR hN fun K hK => ?_; simp only [EV, seval]; refine hK _ _ _ ?_; clear hK K; refine AW_block ?_; refine AW_loopF (fun n S => ∃ (v4 : Int) (v5 : Int), S = ⟨mkT [(0, .sl (encL EI a1) a1.length), (1, .sl (encL EI a2) a2.length), (12, .int .i64 v4), (13, .int .i64 v5)], mkR [], 64⟩ ∧ i_same_int__l1 a1 a2 n v4 v5 = some r) FU ?_ ?_ ?_
   ·refine cutL ⟨_, _, rfl, h⟩ (Le_can [] [] hρ (by kernel_rfl) ?_ ?_)
    ·simp only [AL, EV, seval]
    ·simp only [AL, EV, seval]
   ·rintro S ⟨_, _, _, h⟩; rw [i_same_int__l1] at h; cases h
   ·rintro n1 S ⟨v4, v5, rfl, h⟩; rw [i_same_int__l1] at h; refine AR hN fun K hK => ?_; simp only [EV, seval]; refine hK _ _ _ ?_; clear hK K; refine AW_seq ?_; refine AB h (fun hc6 h => ?_) fun hc6 h => ?_
    ·refine AW_skip (AK ?_); refine AW_seq ?_; refine AW_block ?_; refine AR hN fun K hK => ?_; simp only [EV, seval]; refine hK _ _ _ ?_; clear hK K; refine AR hN fun K hK => ?_; obtain ⟨q5, h9, h⟩ := bO_inv h; obtain ⟨⟨h10a, h10b⟩, h10c⟩ := geti_E EIl h9; (try simp only [EV, seval] at h10c); obtain ⟨q6, h11, h⟩ := bO_inv h; obtain ⟨⟨h12a, h12b⟩, h12c⟩ := geti_E EIl h11; (try simp only [EV, seval] at h12c); simp only [EV, seval, h10a, h10b, h10c, h12a, h12b, h12c]; refine hK _ _ _ ?_; clear hK K; refine AW_condK (a := .bool (q5 != q6)) (by simp only [EV, seval, h10a, h10b, h10c, h12a, h12b, h12c]) (brK h (fun hc7 h => ?_) (fun hc7 h => ?_))
     ·refine AR hN fun K hK => ?_; simp only [EV, seval]; refine hK _ _ _ ?_; clear hK K; injection h with h; subst h; exact AX (b' := 64) [(4, .bool false)] [] [] [] hρ (EQ [] (by simp only [EV, Tryz.results43, seval]))
     ·refine AW_skip (AK ?_); refine AS hN fun K hK => ?_; simp only [EV, seval]; exact hK _ _ _ (AC ⟨_, _, rfl, h⟩ [] [] hρ)
    ·refine AW_exit (show cutK _ _ _ from cutL ⟨rfl, h⟩ (Le_can [] [] hρ (by kernel_rfl) ?_ ?_))
     ·simp only [AL, EV, seval]
     ·simp only [AL, EV, seval]
  ·rintro S ⟨rfl, h⟩; unfold i_same_int__j1 at h; refine AR hN fun K hK => ?_; simp only [EV, seval]; refine hK _ _ _ ?_; clear hK K; injection h with h; subst h; exact AX (b' := 64) [(4, .bool true)] [] [] [] hρ (EQ [] (by simp only [EV, Tryz.results43, seval]))
/- impl.EqualNormalForm -/
def i_EqualNormalForm_j1 (v1 : Bool) : Option Bool :=
  some v1
def i_EqualNormalForm (a1 : List Int) (a2 : Int) (a3 : LQ) (a4 : List Int) (a5 : Int) (a6 : LQ) : Option Bool :=
  bO (i_same_int_ a1 a4) fun x1 => bO (br x1 (bO (i_EqualTableau a2 a3 a5 a6) fun x2 => some x2) (some false)) fun x3 => i_EqualNormalForm_j1 x3
theorem i_EqualNormalForm_ok {a1 : List Int} {a2 : Int} {a3 : LQ} {a4 : List Int} {a5 : Int} {a6 : LQ} {r : Bool} (h : i_EqualNormalForm a1 a2 a3 a4 a5 a6 = some r) :
    Spec Tryz.prog 15 [.agg [.sl (encL EI a1) a1.length, .int .i64 a2, .sl (encL EIIII a3) a3.length], .agg [.sl (encL EI a4) a4.length, .int .i64 a5, .sl (encL EIIII a6) a6.length]] [] (.bool r) [] := by
 unfold i_EqualNormalForm at h; refine SO Tryz.func15 rfl Tryz.ntmps15 fun C hN hρ => ?_; simp only [st0, tmps0, Nat.zero_add, Nat.reduceAdd]; refine AR hN fun K hK => ?_; simp only [EV, seval]; refine hK _ _ _ ?_; clear hK K; refine AJ (fun S => ∃ (v1 : Bool), S = ⟨mkT [(4, .bool v1)], mkR [], 64⟩ ∧ i_EqualNormalForm_j1 v1 = some r) hN ?_ ?_
 ·intro K hK; obtain ⟨x1, h1, h⟩ := bO_inv h; simp only [EV, seval]; refine CP (i_same_int__ok h1) ?_; obtain ⟨x3, hv1, h⟩ := bO_inv h; rcases br_inv hv1 with ⟨hc1, hv1⟩ | ⟨hc1, hv1⟩
  ·obtain ⟨x4, h3, hv1⟩ := bO_inv hv1; simp only [EV, seval, hc1]; refine rC_p (i_EqualTableau_ok h3) (by simp only [AL, EV, seval, hc1]) (le_d rfl) (no_j rfl) ?_; cases hv1; simp only [EV, seval, hc1]; refine hK _ _ _ (show cutK _ _ _ from cutL ⟨_, rfl, h⟩ (Le_can [] [] hρ (by kernel_rfl) ?_ ?_))
   ·simp only [AL, EV, seval, hc1]
   ·simp only [AL, EV, seval, hc1]
  ·cases hv1; simp only [EV, seval, hc1]; refine hK _ _ _ (show cutK _ _ _ from cutL ⟨_, rfl, h⟩ (Le_can [] [] hρ (by kernel_rfl) ?_ ?_))
   ·simp only [AL, EV, seval, hc1]
   ·simp only [AL, EV, seval, hc1]
 ·rintro S ⟨v1, rfl, h⟩; unfold i_EqualNormalForm_j1 at h; injection h with h; subst h; exact AX (b' := 64) [(4, .bool v1)] [] [] [] hρ (EQ [] (by simp only [EV, Tryz.results15, seval]))
end Go.Proofs.YtbkkfmcjfbbkaaaGreat
/- Models of functions, and that the functions do what the models say; printed by a program. -/
namespace Go.Proofs.YtbkkfmcjfbbkaaaGreat
open Go.RowKit
set_option maxRecDepth 100000
set_option linter.unusedVariables false
set_option linter.unusedSimpArgs false
set_option linter.defProp false
set_option maxHeartbeats 4000000
/- spec.CountGates -/
def s_CountGates_j4 (v6 : Int) (kl1 : Int → Int → Option Int) (v7 : Int) : Option Int :=
  kl1 v7 (IntKind.wrap .i64 (v6 + 1))
def s_CountGates_j1 (v8 : Int) : Option Int :=
  some v8
def s_CountGates_l1 (a2 : LQ) (a3 : Int) : Nat → Int → Int → Option Int
  | 0, _, _ => none
  | n1 + 1, v5, v6 =>
  br (decide (v6 < ((a2.length : Int)))) (bO (geti a2 v6) fun q3 => br (q3.1 == a3) (s_CountGates_j4 v6 (s_CountGates_l1 a2 a3 n1) (IntKind.wrap .i64 (v5 + 1))) (s_CountGates_j4 v6 (s_CountGates_l1 a2 a3 n1) v5)) (s_CountGates_j1 v5)
def s_CountGates (a1 : Int) (a2 : LQ) (a3 : Int) : Option Int :=
  s_CountGates_l1 a2 a3 FU 0 0
theorem s_CountGates_ok {a1 : Int} {a2 : LQ} {a3 : Int} {r : Int} (h : s_CountGates a1 a2 a3 = some r) :
    Spec Tryz.prog 96 [.agg [.int .i64 a1, .sl (encL EIIII a2) a2.length], .int .i64 a3] [] (.int .i64 r) [] := by
 unfold s_CountGates at h; refine SO Tryz.func96 rfl Tryz.ntmps96 fun C hN hρ => ?_; simp only [st0, tmps0, Nat.zero_add, Nat.reduceAdd]; refine AR hN fun K hK => ?_; simp only [EV, seval]; refine hK _ _ _ ?_; clear hK K; refine AR hN fun K hK => ?_; simp only [EV, seval]; refine hK _ _ _ ?_; clear hK K; refine AW_cutK (fun S => ∃ (v8 : Int), S = ⟨mkT [(5, .int .i64 v8)], mkR [], 64⟩ ∧ s_CountGates_j1 v8 = some r) ?_ ?_
 ·refine AR hN fun K hK => ?_; simp only [EV, seval]; refine hK _ _ _ ?_; clear hK K; refine AW_block ?_; refine AW_loopF (fun n S => ∃ (v5 : Int) (v6 : Int), S = ⟨mkT [(1, .int .i64 a3), (2, .ptr 32 0), (5, .int .i64 v5), (6, .int .i64 v6)], mkR [(32, .box 75 [.int .i64 a1, .sl (encL EIIII a2) a2.length])], 64⟩ ∧ s_CountGates_l1 a2 a3 n v5 v6 = some r) FU ?_ ?_ ?_
  ·refine cutL ⟨_, _, rfl, h⟩ (Le_can [(32, some 64)] [] hρ (by kernel_rfl) ?_ ?_)
   ·simp only [AL, EV, seval]
   ·simp only [AL, EV, seval]
  ·rintro S ⟨_, _, _, h⟩; rw [s_CountGates_l1] at h; cases h
  ·rintro n1 S ⟨v5, v6, rfl, h⟩; rw [s_CountGates_l1] at h; refine AW_seq ?_; refine AR hN fun K hK => ?_; simp only [EV, seval]; refine hK _ _ _ ?_; clear hK K; refine AB h (fun hc5 h => ?_) fun hc5 h => ?_
   ·refine AW_skip (AK ?_); refine AW_cutK (fun S => ∃ (v7 : Int), S = ⟨mkT [(1, .int .i64 a3), (2, .ptr 32 0), (5, .int .i64 v7), (6, .int .i64 v6)], mkR [(32, .box 75 [.int .i64 a1, .sl (encL EIIII a2) a2.length])], 64⟩ ∧ s_CountGates_j4 v6 (s_CountGates_l1 a2 a3 n1) v7 = some r) ?_ ?_
    ·refine AW_block ?_; refine AR hN fun K hK => ?_; obtain ⟨q3, h5, h⟩ := bO_inv h; obtain ⟨⟨h6a, h6b⟩, h6c⟩ := geti_E EIIIIl h5; (try simp only [EV, seval] at h6c); simp only [EV, seval, h6a, h6b, h6c]; refine hK _ _ _ ?_; clear hK K; refine AW_condK (a := .bool (q3.1 == a3)) (by simp only [EV, seval, h6a, h6b, h6c]) (brK h (fun hc6 h => ?_) (fun hc6 h => ?_))
     ·refine AS hN fun K hK => ?_; simp only [EV, seval]; exact hK _ _ _ (AC ⟨_, rfl, h⟩ [(32, some 32)] [] hρ)
     ·refine AW_skip (show cutK _ _ _ from cutL ⟨_, rfl, h⟩ (Le_can [(32, some 32)] [] hρ (by kernel_rfl) ?_ ?_))
      ·simp only [AL, EV, seval, h6a, h6b, h6c]
      ·simp only [AL, EV, seval, h6a, h6b, h6c]
    ·rintro S ⟨v7, rfl, h⟩; unfold s_CountGates_j4 at h; refine AS hN fun K hK => ?_; simp only [EV, seval]; exact hK _ _ _ (AC ⟨_, _, rfl, h⟩ [(32, some 32)] [] hρ)
   ·refine AW_exit (show cutK _ _ _ from cutL ⟨_, rfl, h⟩ (Le_can [] [] hρ (by kernel_rfl) ?_ ?_))
    ·simp only [AL, EV, seval]
    ·simp only [AL, EV, seval]
 ·rintro S ⟨v8, rfl, h⟩; unfold s_CountGates_j1 at h; refine AR hN fun K hK => ?_; simp only [EV, seval]; refine hK _ _ _ ?_; clear hK K; injection h with h; subst h; exact AX (b' := 64) [(4, .int .i64 v8)] [] [] [] hρ (EQ [] (by simp only [EV, Tryz.results96, seval]))
/- spec.TCount -/
def s_TCount (a1 : Int) (a2 : LQ) : Option Int :=
  bO (s_CountGates a1 a2 7) fun x1 => bO (s_CountGates a1 a2 8) fun x2 => some (IntKind.wrap .i64 (x1 + x2))
theorem s_TCount_ok {a1 : Int} {a2 : LQ} {r : Int} (h : s_TCount a1 a2 = some r) :
    Spec Tryz.prog 55 [.agg [.int .i64 a1, .sl (encL EIIII a2) a2.length]] [] (.int .i64 r) [] := by
 unfold s_TCount at h; refine SO Tryz.func55 rfl Tryz.ntmps55 fun C hN hρ => ?_; simp only [st0, tmps0, Nat.zero_add, Nat.reduceAdd]; refine AR hN fun K hK => ?_; simp only [EV, seval]; refine hK _ _ _ ?_; clear hK K; refine AR hN fun K hK => ?_; obtain ⟨x1, h1, h⟩ := bO_inv h; simp only [EV, seval]; refine CP (s_CountGates_ok h1) ?_; obtain ⟨x2, h2, h⟩ := bO_inv h; simp only [EV, seval]; refine CP (s_CountGates_ok h2) ?_; simp only [EV, seval]; refine hK _ _ _ ?_; clear hK K; injection h with h; subst h; exact AX (b' := 64) [(2, .int .i64 (IntKind.wrap .i64 (x1 + x2)))] [] [] [] hρ (EQ [] (by simp only [EV, Tryz.results55, seval]))
/- laws.tCount -/
def l_tCount (a1 : LQ) : Option Int :=
  bO (s_TCount 0 a1) fun x1 => some x1
theorem l_tCount_ok {a1 : LQ} {r : Int} (h : l_tCount a1 = some r) :
    Spec Tryz.prog 20 [.sl (encL EIIII a1) a1.length] [] (.int .i64 r) [] := by
 unfold l_tCount at h; refine SO Tryz.func20 rfl Tryz.ntmps20 fun C hN hρ => ?_; simp only [st0, tmps0, Nat.zero_add, Nat.reduceAdd]; refine AR hN fun K hK => ?_; simp only [EV, seval]; refine hK _ _ _ ?_; clear hK K; refine AR hN fun K hK => ?_; obtain ⟨x1, h1, h⟩ := bO_inv h; simp only [EV, seval]; refine CP (s_TCount_ok h1) ?_; simp only [EV, seval]; refine hK _ _ _ ?_; clear hK K; injection h with h; subst h; exact AX (b' := 64) [(2, .int .i64 x1)] [] [] [] hρ (EQ [] (by simp only [EV, Tryz.results20, seval]))
end Go.Proofs.YtbkkfmcjfbbkaaaGreat
