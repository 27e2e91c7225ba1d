/- Models of functions, and that the functions do what the models say; printed by a program. -/
import Derived.Test.YtfjopjalhllplaaK1
import Derived.Test.YtfjopjalhllplaaKMsd
import Derived.Test.YtfjopjalhllplaaKMsc
namespace Go.Proofs.Ytfjopjalhllplaa
open Go.RowKit
set_option maxRecDepth 100000
set_option linter.unusedVariables false
set_option linter.unusedSimpArgs false
set_option linter.defProp false
set_option maxHeartbeats 4000000
/- spec.l23Step -/
def s_l23Step_j4 (v6 : Int) (kl1 : Int → (List (Int × List (LF))) → Option (List (Int × List (LF)) × Bool)) (v8 : List (Int × List (LF))) : Option (List (Int × List (LF)) × Bool) :=
  kl1 (IntKind.wrap .i64 (v6 + 1)) v8
def s_l23Step_j1 (v9 : List (Int × List (LF))) : Option (List (Int × List (LF)) × Bool) :=
  some (v9, true)
def s_l23Step_l1 (a1 : List (Int × List (LF))) (a2 a3 a4 a5 a6 a7 a8 a9 : Int) : Nat → Int → (List (Int × List (LF))) → Option (List (Int × List (LF)) × Bool)
  | 0, _, _ => none
  | n1 + 1, v6, v7 =>
  br (decide (v6 < ((a1.length : Int)))) (br (a2 == 1) (bO (geti a1 v6) fun q7 => bO (s_l23Gate q7.1 q7.2 a2 a3 a4 a5 a6 a7 a8 a9) fun x5 => br (!x5.2.2) (some ([], false)) (gd (decide (v7.length + ([(x5.1, x5.2.1)]).length ≤ 16777216)) (s_l23Step_j4 v6 (s_l23Step_l1 a1 a2 a3 a4 a5 a6 a7 a8 a9 n1) (v7 ++ ([(x5.1, x5.2.1)]))))) (br (a2 == 2) (bO (geti a1 v6) fun q8 => bO (s_MeasureBranch q8.1 q8.2 a7 a8) fun x6 => gd (decide (v7.length + x6.length ≤ 16777216)) (s_l23Step_j4 v6 (s_l23Step_l1 a1 a2 a3 a4 a5 a6 a7 a8 a9 n1) (v7 ++ x6))) (bO (geti a1 v6) fun q9 => gd (decide (v7.length + ([(q9.1, q9.2)]).length ≤ 16777216)) (s_l23Step_j4 v6 (s_l23Step_l1 a1 a2 a3 a4 a5 a6 a7 a8 a9 n1) (v7 ++ ([(q9.1, q9.2)])))))) (s_l23Step_j1 v7)
def s_l23Step (a1 : List (Int × List (LF))) (a2 a3 a4 a5 a6 a7 a8 a9 : Int) : Option (List (Int × List (LF)) × Bool) :=
  s_l23Step_l1 a1 a2 a3 a4 a5 a6 a7 a8 a9 FU 0 ([] : List (Int × List (LF)))
theorem s_l23Step_ok {a1 : List (Int × List (LF))} {a2 a3 a4 a5 a6 a7 a8 a9 : Int} {r : List (Int × List (LF)) × Bool} (h : s_l23Step a1 a2 a3 a4 a5 a6 a7 a8 a9 = some r) :
    Spec Try.prog 40 [.sl (encL EILLIIIIIEE a1) a1.length, .agg [.int .i64 a2, .int .i64 a3, .int .i64 a4, .int .i64 a5, .int .i64 a6, .int .i64 a7, .int .i64 a8, .int .i64 a9]] [] (.tup [.own 0 r.1.length, .bool r.2]) [.row 38 2 (encL EILLIIIIIEE r.1)] := by
 unfold s_l23Step at h; refine SO Try.func40 rfl Try.ntmps40 fun C hN hρ => ?_; simp only [st0, tmps0, Nat.zero_add, Nat.reduceAdd]; refine AN hN ?_; refine AN hN ?_; refine AW_cutK (fun S => ∃ (v9 : List (Int × List (LF))), S = ⟨mkT [(6, .own 32 v9.length)], mkR [(32, .row 38 2 (encL EILLIIIIIEE v9))], 64⟩ ∧ s_l23Step_j1 v9 = some r) ?_ ?_
 ·refine AN hN ?_; refine AW_block ?_; refine AW_loopF (fun n S => ∃ (v6 : Int) (v7 : List (Int × List (LF))), S = ⟨mkT [(0, .sl (encL EILLIIIIIEE a1) a1.length), (3, .ptr 32 0), (6, .own 33 v7.length), (7, .int .i64 v6)], mkR [(32, .box 70 [.int .i64 a2, .int .i64 a3, .int .i64 a4, .int .i64 a5, .int .i64 a6, .int .i64 a7, .int .i64 a8, .int .i64 a9]), (33, .row 38 2 (encL EILLIIIIIEE v7))], 64⟩ ∧ s_l23Step_l1 a1 a2 a3 a4 a5 a6 a7 a8 a9 n v6 v7 = some r) FU ?_ ?_ ?_
  ·exact AC ⟨_, _, rfl, h⟩ [(32, some 64), (33, some 1088)] [] hρ
  ·rintro S ⟨_, _, _, h⟩; rw [s_l23Step_l1] at h; cases h
  ·rintro n1 S ⟨v6, v7, rfl, h⟩; rw [s_l23Step_l1] at h; refine AW_seq ?_; refine AN hN ?_; refine AB h (fun hc9 h => ?_) fun hc9 h => ?_
   ·refine AW_skip (AK ?_); refine AW_cutK (fun S => ∃ (v8 : List (Int × List (LF))), S = ⟨mkT [(0, .sl (encL EILLIIIIIEE a1) a1.length), (3, .ptr 32 0), (6, .own 33 v8.length), (7, .int .i64 v6)], mkR [(32, .box 70 [.int .i64 a2, .int .i64 a3, .int .i64 a4, .int .i64 a5, .int .i64 a6, .int .i64 a7, .int .i64 a8, .int .i64 a9]), (33, .row 38 2 (encL EILLIIIIIEE v8))], 64⟩ ∧ s_l23Step_j4 v6 (s_l23Step_l1 a1 a2 a3 a4 a5 a6 a7 a8 a9 n1) v8 = some r) ?_ ?_
    ·refine AW_block ?_; refine AN hN ?_; refine AW_block ?_; refine AN hN ?_; refine AB h (fun hc10 h => ?_) fun hc10 h => ?_
     ·refine AR hN fun K hK => ?_; obtain ⟨q7, h23, h⟩ := bO_inv h; obtain ⟨⟨h24a, h24b⟩, h24c⟩ := geti_E EILLIIIIIEEl h23; (try simp only [EV, seval] at h24c); obtain ⟨x5, h25, h⟩ := bO_inv h; simp only [EV, seval, h24a, h24b, h24c]; refine rC_p (s_l23Gate_ok h25) (by simp only [AL, EV, seval, h24a, h24b, h24c]) (le_d rfl) (no_j rfl) ?_; simp only [EV, seval, h24a, h24b, h24c]; refine hK _ _ _ ?_; clear hK K; refine AW_seq ?_; refine AN hN ?_; refine AB h (fun hc11 h => ?_) fun hc11 h => ?_
      ·refine AN hN ?_; injection h with h; subst h; exact AX (b' := 64) [(4, .own 32 0), (5, .bool false)] [(32, .row 38 2 (encL EILLIIIIIEE ([])))] [(32, some 5184)] [] hρ (EQ [32])
      ·refine AW_skip (AK ?_); refine AS hN fun K hK => ?_; obtain ⟨h26, h⟩ := gd_inv h; replace h26 := of_decide_eq_true h26; (try simp only [EV, seval] at h26); simp only [EV, seval, h26]; refine hK _ _ _ (show cutK _ _ _ from cutL ⟨_, rfl, h⟩ (Le_can [(32, some 32), (33, some 5232)] [] hρ (by kernel_rfl) ?_ ?_))
       ·simp only [AL, EV, seval, h26]
       ·simp only [AL, EV, seval, h26]
     ·refine AN hN ?_; refine AB h (fun hc12 h => ?_) fun hc12 h => ?_
      ·refine AS hN fun K hK => ?_; obtain ⟨q8, h27, h⟩ := bO_inv h; obtain ⟨⟨h28a, h28b⟩, h28c⟩ := geti_E EILLIIIIIEEl h27; (try simp only [EV, seval] at h28c); obtain ⟨x6, h29, h⟩ := bO_inv h; simp only [EV, seval, h28a, h28b, h28c]; refine rC_p (s_MeasureBranch_ok h29) (by simp only [AL, EV, seval, h28a, h28b, h28c]) (le_d rfl) (site_1 (by simp only [EV, seval])) ?_; obtain ⟨h30, h⟩ := gd_inv h; replace h30 := of_decide_eq_true h30; (try simp only [EV, seval] at h30); simp only [EV, seval, h28a, h28b, h28c, h30]; refine hK _ _ _ (show cutK _ _ _ from cutL ⟨_, rfl, h⟩ (Le_can [(32, some 32), (33, some 4320)] [] hρ (by kernel_rfl) ?_ ?_))
       ·simp only [AL, EV, seval, h28a, h28b, h28c, h30]
       ·simp only [AL, EV, seval, h28a, h28b, h28c, h30]
      ·refine AS hN fun K hK => ?_; obtain ⟨q9, h31, h⟩ := bO_inv h; obtain ⟨⟨h32a, h32b⟩, h32c⟩ := geti_E EILLIIIIIEEl h31; (try simp only [EV, seval] at h32c); obtain ⟨h33, h⟩ := gd_inv h; replace h33 := of_decide_eq_true h33; (try simp only [EV, seval] at h33); simp only [EV, seval, h32a, h32b, h32c, h33]; refine hK _ _ _ (show cutK _ _ _ from cutL ⟨_, rfl, h⟩ (Le_can [(32, some 32), (33, some 4256)] [] hρ (by kernel_rfl) ?_ ?_))
       ·simp only [AL, EV, seval, h32a, h32b, h32c, h33]
       ·simp only [AL, EV, seval, h32a, h32b, h32c, h33]
    ·rintro S ⟨v8, rfl, h⟩; unfold s_l23Step_j4 at h; refine AS hN fun K hK => ?_; simp only [EV, seval]; exact hK _ _ _ (AC ⟨_, _, rfl, h⟩ [(32, some 32), (33, some 33)] [] hρ)
   ·exact AW_exit (AC ⟨_, rfl, h⟩ [(32, some 33)] [] hρ)
 ·rintro S ⟨v9, rfl, h⟩; unfold s_l23Step_j1 at h; refine AN hN ?_; injection h with h; subst h; exact AX (b' := 64) [(4, .own 32 v9.length), (5, .bool true)] [(32, .row 38 2 (encL EILLIIIIIEE v9))] [(32, some 32)] [] hρ (EQ [32])
end Go.Proofs.Ytfjopjalhllplaa
