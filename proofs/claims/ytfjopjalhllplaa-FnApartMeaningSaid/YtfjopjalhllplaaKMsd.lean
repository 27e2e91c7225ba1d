/- Models of functions, and that the functions do what the models say; printed by a program. -/
import Derived.Test.YtfjopjalhllplaaK1
import Derived.Test.YtfjopjalhllplaaK6
namespace Go.Proofs.Ytfjopjalhllplaa
open Go.RowKit
set_option maxRecDepth 100000
set_option linter.unusedVariables false
set_option linter.unusedSimpArgs false
set_option linter.defProp false
set_option maxHeartbeats 4000000
/- spec.l23Gate -/
def s_l23Gate_j2 (a1 : Int) (v6 : List (LF)) : Option (Int × List (LF) × Bool) :=
  some (a1, v6, true)
def s_l23Gate_l1 (a1 : Int) (a2 : List (LF)) (a4 a5 a6 a7 : Int) : Nat → Int → (List (LF)) → Option (Int × List (LF) × Bool)
  | 0, _, _ => none
  | n1 + 1, v4, v5 =>
  br (decide (v4 < ((a2.length : Int)))) (bO (geti a2 v4) fun q3 => bO (s_ApplyGate a4 a5 a6 a7 q3) fun x4 => br (!x4.2) (some (0, [], false)) (gd (decide (v5.length + ([x4.1]).length ≤ 16777216)) ((s_l23Gate_l1 a1 a2 a4 a5 a6 a7 n1) (IntKind.wrap .i64 (v4 + 1)) (v5 ++ ([x4.1]))))) (s_l23Gate_j2 a1 v5)
def s_l23Gate_j1 (a1 : Int) (a2 : List (LF)) (a4 a5 a6 a7 : Int) (v1 : Bool) : Option (Int × List (LF) × Bool) :=
  br v1 (some (a1, a2, true)) (s_l23Gate_l1 a1 a2 a4 a5 a6 a7 FU 0 ([] : List (LF)))
def s_l23Gate (a1 : Int) (a2 : List (LF)) (a3 a4 a5 a6 a7 a8 a9 a10 : Int) : Option (Int × List (LF) × Bool) :=
  bO (br (decide (0 < a10)) (gd (decide (¬ (IntKind.wrap .u64 (IntKind.wrap .i64 (a10 - 1))) < 0)) (some ((bits .and .i64 (Int.fdiv a1 (2 ^ min (Int.toNat (IntKind.wrap .u64 (IntKind.wrap .i64 (a10 - 1)))) (IntKind.bits .i64))) 1) == 0))) (some false)) fun x1 => s_l23Gate_j1 a1 a2 a4 a5 a6 a7 x1
theorem s_l23Gate_ok {a1 : Int} {a2 : List (LF)} {a3 a4 a5 a6 a7 a8 a9 a10 : Int} {r : Int × List (LF) × Bool} (h : s_l23Gate a1 a2 a3 a4 a5 a6 a7 a8 a9 a10 = some r) :
    Spec Try.prog 54 [.agg [.int .i64 a1, .sl (encL ELIIIIIE a2) a2.length], .agg [.int .i64 a3, .int .i64 a4, .int .i64 a5, .int .i64 a6, .int .i64 a7, .int .i64 a8, .int .i64 a9, .int .i64 a10]] [] (.tup [.agg [.int .i64 r.1, .sl (encL ELIIIIIE r.2.1) r.2.1.length], .bool r.2.2]) [] := by
 unfold s_l23Gate at h; refine SO Try.func54 rfl Try.ntmps54 fun C hN hρ => ?_; simp only [st0, tmps0, Nat.zero_add, Nat.reduceAdd]; refine AN hN ?_; refine AW_seq ?_; refine AJ (fun S => ∃ (v1 : Bool), S = ⟨mkT [(2, .ptr 32 0), (3, .ptr 33 0), (4, .ptr 34 0), (23, .bool v1)], mkR [(32, .box 38 [.int .i64 a1, .sl (encL ELIIIIIE a2) a2.length]), (33, .box 70 [.int .i64 a3, .int .i64 a4, .int .i64 a5, .int .i64 a6, .int .i64 a7, .int .i64 a8, .int .i64 a9, .int .i64 a10]), (34, .box 38 [.int .i64 0, .nil])], 64⟩ ∧ s_l23Gate_j1 a1 a2 a4 a5 a6 a7 v1 = some r) hN ?_ ?_
 ·intro K hK; obtain ⟨x1, hv1, h⟩ := bO_inv h; rcases br_inv hv1 with ⟨hc1, hv1⟩ | ⟨hc1, hv1⟩
  ·obtain ⟨h2, hv1⟩ := gd_inv hv1; replace h2 := of_decide_eq_true h2; cases hv1; simp only [EV, seval, hc1, h2]; refine hK _ _ _ (show cutK _ _ _ from cutL ⟨_, rfl, h⟩ (Le_can [(32, some 64), (33, some 80), (34, some 96)] [] hρ (by kernel_rfl) ?_ ?_))
   ·simp only [AL, EV, seval, hc1, h2]
   ·simp only [AL, EV, seval, hc1, h2]
  ·cases hv1; simp only [EV, seval, hc1]; refine hK _ _ _ (show cutK _ _ _ from cutL ⟨_, rfl, h⟩ (Le_can [(32, some 64), (33, some 80), (34, some 96)] [] hρ (by kernel_rfl) ?_ ?_))
   ·simp only [AL, EV, seval, hc1]
   ·simp only [AL, EV, seval, hc1]
 ·rintro S ⟨v1, rfl, h⟩; unfold s_l23Gate_j1 at h; refine AB h (fun hc2 h => ?_) fun hc2 h => ?_
  ·refine AN hN ?_; injection h with h; subst h; exact AX (b' := 64) [(4, .ptr 32 0), (5, .bool true)] [(32, .box 38 [.int .i64 a1, .sl (encL ELIIIIIE a2) a2.length])] [(32, some 34)] [] hρ (EQ [])
  ·refine AW_skip (AK ?_); refine AN hN ?_; refine AW_cutK (fun S => ∃ (v6 : List (LF)), S = ⟨mkT [(4, .ptr 32 0), (6, .ptr 33 0)], mkR [(32, .box 38 [.int .i64 0, .nil]), (33, .box 38 [.int .i64 a1, .own 34 v6.length]), (34, .row 39 1 (encL ELIIIIIE v6))], 64⟩ ∧ s_l23Gate_j2 a1 v6 = some r) ?_ ?_
   ·refine AN hN ?_; refine AW_block ?_; refine AW_loopF (fun n S => ∃ (v4 : Int) (v5 : List (LF)), S = ⟨mkT [(2, .ptr 32 0), (3, .ptr 33 0), (4, .ptr 34 0), (6, .ptr 35 0), (7, .int .i64 v4)], mkR [(32, .box 38 [.int .i64 a1, .sl (encL ELIIIIIE a2) a2.length]), (33, .box 70 [.int .i64 a3, .int .i64 a4, .int .i64 a5, .int .i64 a6, .int .i64 a7, .int .i64 a8, .int .i64 a9, .int .i64 a10]), (34, .box 38 [.int .i64 0, .nil]), (35, .box 38 [.int .i64 a1, .own 36 v5.length]), (36, .row 39 1 (encL ELIIIIIE v5))], 64⟩ ∧ s_l23Gate_l1 a1 a2 a4 a5 a6 a7 n v4 v5 = some r) FU ?_ ?_ ?_
    ·exact AC ⟨_, _, rfl, h⟩ [(32, some 32), (33, some 33), (34, some 34), (35, some 112), (36, none)] [] hρ
    ·rintro S ⟨_, _, _, h⟩; rw [s_l23Gate_l1] at h; cases h
    ·rintro n1 S ⟨v4, v5, rfl, h⟩; rw [s_l23Gate_l1] at h; refine AW_seq ?_; refine AN hN ?_; refine AB h (fun hc7 h => ?_) fun hc7 h => ?_
     ·refine AW_skip (AK ?_); refine AW_seq ?_; refine AW_block ?_; refine AR hN fun K hK => ?_; obtain ⟨q3, h11, h⟩ := bO_inv h; obtain ⟨⟨h12a, h12b⟩, h12c⟩ := geti_E ELIIIIIEl h11; (try simp only [EV, seval] at h12c); obtain ⟨x4, h13, h⟩ := bO_inv h; simp only [EV, seval, h12a, h12b, h12c]; refine rC_p (s_ApplyGate_ok h13) (by simp only [AL, EV, seval, h12a, h12b, h12c]) (le_d rfl) (site_1 (by simp only [EV, seval])) ?_; simp only [EV, seval, h12a, h12b, h12c]; refine hK _ _ _ ?_; clear hK K; refine AW_seq ?_; refine AN hN ?_; refine AB h (fun hc8 h => ?_) fun hc8 h => ?_
      ·refine AN hN ?_; injection h with h; subst h; exact AX (b' := 64) [(4, .ptr 32 0), (5, .bool false)] [(32, .box 38 [.int .i64 0, .sl (encL ELIIIIIE ([])) 0])] [(32, some 34)] [] hρ (EQ [])
      ·refine AW_skip (AK ?_); refine AW_le (Le_can (lt := [(2, .ptr 32 0), (3, .ptr 33 0), (4, .ptr 34 0), (6, .ptr 35 0), (7, .int .i64 v4), (8, .sl (encL EIIIII x4.1) x4.1.length)]) (lr := [(32, .box 38 [.int .i64 a1, .sl (encL ELIIIIIE a2) a2.length]), (33, .box 70 [.int .i64 a3, .int .i64 a4, .int .i64 a5, .int .i64 a6, .int .i64 a7, .int .i64 a8, .int .i64 a9, .int .i64 a10]), (34, .box 38 [.int .i64 0, .nil]), (35, .box 38 [.int .i64 a1, .own 36 v5.length]), (36, .row 39 1 (encL ELIIIIIE v5))]) (b' := 3152) [(32, some 32), (33, some 33), (34, some 34), (35, some 35), (36, some 36)] [1200] hρ (by kernel_rfl) ?_ ?_) ?_
       ·simp only [AL, EV, seval]
       ·simp only [AL, EV, seval]
       refine AS hN fun K hK => ?_; obtain ⟨h14, h⟩ := gd_inv h; replace h14 := of_decide_eq_true h14; (try simp only [EV, seval] at h14); simp only [EV, seval, h14]; refine hK _ _ _ (show AW _ _ _ _ _ from ?_); refine AS hN fun K hK => ?_; simp only [EV, seval]; exact hK _ _ _ (AC ⟨_, _, rfl, h⟩ [(32, some 32), (33, some 33), (34, some 34), (35, some 35), (36, some 3216)] [] hρ)
     ·exact AW_exit (AC ⟨_, rfl, h⟩ [(32, some 34), (33, some 35), (34, some 36)] [] hρ)
   ·rintro S ⟨v6, rfl, h⟩; unfold s_l23Gate_j2 at h; refine AN hN ?_; injection h with h; subst h; exact AX (b' := 64) [(4, .ptr 32 0), (5, .bool true)] [(32, .box 38 [.int .i64 a1, .sl (encL ELIIIIIE v6) v6.length])] [(32, some 32)] [34] hρ (EQ [])
end Go.Proofs.Ytfjopjalhllplaa
