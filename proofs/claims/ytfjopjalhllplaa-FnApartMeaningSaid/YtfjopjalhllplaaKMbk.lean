/- Models of functions, and that the functions do what the models say; printed by a program. -/
import Derived.Test.YtfjopjalhllplaaK1
import Derived.Test.YtfjopjalhllplaaKMbi
import Derived.Test.YtfjopjalhllplaaKMbj
namespace Go.Proofs.Ytfjopjalhllplaa
open Go.RowKit
set_option maxRecDepth 100000
set_option linter.unusedVariables false
set_option linter.unusedSimpArgs false
set_option linter.defProp false
set_option maxHeartbeats 4000000
/- impl.BranchPhases -/
def i_BranchPhases_j13 (v25 v26 : Int) (kl4 : Int → Int → (List Int) → Option (List Int × Bool)) (v34 : List Int) : Option (List Int × Bool) :=
  kl4 v25 (IntKind.wrap .i64 (v26 + 1)) v34
def i_BranchPhases_j14 (v25 v26 : Int) (v27 : List Int) (kl4 : Int → Int → (List Int) → Option (List Int × Bool)) (v33 : Int) : Option (List Int × Bool) :=
  br (v33 == 8) (some ([], false)) (gd (decide (v27.length + ([v33]).length ≤ 16777216)) (i_BranchPhases_j13 v25 v26 kl4 (v27 ++ ([v33]))))
def i_BranchPhases_j17 (v25 v26 : Int) (v27 : List Int) (kl4 : Int → Int → (List Int) → Option (List Int × Bool)) (v31 : Int) (kl5 : Int → Option (List Int × Bool)) (v32 : Bool) : Option (List Int × Bool) :=
  br v32 (kl5 (IntKind.wrap .i64 (v31 + 1))) (i_BranchPhases_j14 v25 v26 v27 kl4 v31)
def i_BranchPhases_l5 (a1 : List (Int × List (LF))) (a2 : List (Int × List (LF))) (v25 v26 : Int) (v27 : List Int) (kl4 : Int → Int → (List Int) → Option (List Int × Bool)) : Nat → Int → Option (List Int × Bool)
  | 0, _ => none
  | n5 + 1, v31 =>
  bO (br (decide (v31 < 8)) (bO (geti a1 v26) fun q23 => bO (geti a2 v26) fun q24 => bO (i_isTimes q23.1 q23.2 q24.1 q24.2 v31) fun x20 => some (!x20)) (some false)) fun x21 => i_BranchPhases_j17 v25 v26 v27 kl4 v31 (i_BranchPhases_l5 a1 a2 v25 v26 v27 kl4 n5) x21
def i_BranchPhases_j2 (v35 : List Int) : Option (List Int × Bool) :=
  some (v35, true)
def i_BranchPhases_l2 (a1 : List (Int × List (LF))) (a2 : List (Int × List (LF))) : Nat → Int → Int → (List Int) → Option (List Int × Bool)
  | 0, _, _, _ => none
  | n4 + 1, v25, v26, v27 =>
  br (decide (v26 < v25)) (i_BranchPhases_l5 a1 a2 v25 v26 v27 (i_BranchPhases_l2 a1 a2 n4) FU 0) (i_BranchPhases_j2 v27)
def i_BranchPhases_j1 (a1 : List (Int × List (LF))) (a2 : List (Int × List (LF))) : Option (List Int × Bool) :=
  i_BranchPhases_l2 a1 a2 FU ((a1.length : Int)) 0 ([] : List Int)
def i_BranchPhases_l1 (a1 : List (Int × List (LF))) (a2 : List (Int × List (LF))) : Nat → Int → Int → Option (List Int × Bool)
  | 0, _, _ => none
  | n1 + 1, v4, v5 =>
  br (decide (v5 < v4)) (bO (geti a1 v5) fun q5 => bO (geti a2 v5) fun q6 => bO (i_sameSizes q5.1 q5.2 q6.1 q6.2) fun x3 => br (!x3) (some ([], false)) ((i_BranchPhases_l1 a1 a2 n1) v4 (IntKind.wrap .i64 (v5 + 1)))) (i_BranchPhases_j1 a1 a2)
def i_BranchPhases (a1 : List (Int × List (LF))) (a2 : List (Int × List (LF))) : Option (List Int × Bool) :=
  br (((a1.length : Int)) != ((a2.length : Int))) (some ([], false)) (i_BranchPhases_l1 a1 a2 FU ((a1.length : Int)) 0)
theorem i_BranchPhases_ok {a1 : List (Int × List (LF))} {a2 : List (Int × List (LF))} {r : List Int × Bool} (h : i_BranchPhases a1 a2 = some r) :
    Spec Try.prog 6 [.sl (encL EILLIIIIIEE a1) a1.length, .sl (encL EILLIIIIIEE a2) a2.length] [] (.tup [.own 0 r.1.length, .bool r.2]) [.row 3 1 (encL EI r.1)] := by
 unfold i_BranchPhases at h; refine SO Try.func6 rfl Try.ntmps6 fun C hN hρ => ?_; simp only [st0, tmps0, Nat.zero_add, Nat.reduceAdd]; refine AN hN ?_; refine AW_seq ?_; refine AN hN ?_; refine AB h (fun hc1 h => ?_) fun hc1 h => ?_
 ·refine AN hN ?_; injection h with h; subst h; exact AX (b' := 64) [(4, .own 32 0), (5, .bool false)] [(32, .row 3 1 (encL EI ([])))] [(32, none)] [] hρ (EQ [32])
 ·refine AW_skip (AK ?_); refine AW_cutK (fun S => S = ⟨mkT [(0, .sl (encL EILLIIIIIEE a1) a1.length), (1, .sl (encL EILLIIIIIEE a2) a2.length)], mkR [], 64⟩ ∧ i_BranchPhases_j1 a1 a2 = some r) ?_ ?_
  ·refine AN hN ?_; refine AW_block ?_; refine AW_loopF (fun n S => ∃ (v4 v5 : Int), S = ⟨mkT [(0, .sl (encL EILLIIIIIEE a1) a1.length), (1, .sl (encL EILLIIIIIEE a2) a2.length), (16, .int .i64 v4), (17, .int .i64 v5)], mkR [], 64⟩ ∧ i_BranchPhases_l1 a1 a2 n v4 v5 = some r) FU ?_ ?_ ?_
   ·exact AC ⟨_, _, rfl, h⟩ [] [] hρ
   ·rintro S ⟨_, _, _, h⟩; rw [i_BranchPhases_l1] at h; cases h
   ·rintro n1 S ⟨v4, v5, rfl, h⟩; rw [i_BranchPhases_l1] at h; refine AN hN ?_; refine AW_seq ?_; refine AB h (fun hc6 h => ?_) fun hc6 h => ?_
    ·refine AW_skip (AK ?_); refine AW_seq ?_; refine AW_block ?_; refine AN hN ?_; refine AR hN fun K hK => ?_; obtain ⟨q5, h11, h⟩ := bO_inv h; obtain ⟨⟨h12a, h12b⟩, h12c⟩ := geti_E EILLIIIIIEEl h11; (try simp only [EV, seval] at h12c); obtain ⟨q6, h13, h⟩ := bO_inv h; obtain ⟨⟨h14a, h14b⟩, h14c⟩ := geti_E EILLIIIIIEEl h13; (try simp only [EV, seval] at h14c); obtain ⟨x3, h15, h⟩ := bO_inv h; simp only [EV, seval, h12a, h12b, h12c, h14a, h14b, h14c]; refine rC_p (i_sameSizes_ok h15) (by simp only [AL, EV, seval, h12a, h12b, h12c, h14a, h14b, h14c]) (le_d rfl) (no_j rfl) ?_; simp only [EV, seval, h12a, h12b, h12c, h14a, h14b, h14c]; refine hK _ _ _ ?_; clear hK K; refine AW_condK (a := .bool (!x3)) (by simp only [EV, seval, h12a, h12b, h12c, h14a, h14b, h14c]) (brK h (fun hc7 h => ?_) (fun hc7 h => ?_))
     ·refine AN hN ?_; injection h with h; subst h; exact AX (b' := 64) [(4, .own 32 0), (5, .bool false)] [(32, .row 3 1 (encL EI ([])))] [(32, none)] [] hρ (EQ [32])
     ·refine AW_skip (AK ?_); refine AS hN fun K hK => ?_; simp only [EV, seval]; exact hK _ _ _ (AC ⟨_, _, rfl, h⟩ [] [] hρ)
    ·exact AW_exit (AC ⟨rfl, h⟩ [] [] hρ)
  ·rintro S ⟨rfl, h⟩; unfold i_BranchPhases_j1 at h; refine AN hN ?_; refine AW_cutK (fun S => ∃ (v35 : List Int), S = ⟨mkT [(7, .own 32 v35.length)], mkR [(32, .row 3 1 (encL EI v35))], 64⟩ ∧ i_BranchPhases_j2 v35 = some r) ?_ ?_
   ·refine AN hN ?_; refine AW_block ?_; refine AW_loopF (fun n S => ∃ (v25 v26 : Int) (v27 : List Int), S = ⟨mkT [(0, .sl (encL EILLIIIIIEE a1) a1.length), (1, .sl (encL EILLIIIIIEE a2) a2.length), (7, .own 32 v27.length), (33, .int .i64 v25), (34, .int .i64 v26)], mkR [(32, .row 3 1 (encL EI v27))], 64⟩ ∧ i_BranchPhases_l2 a1 a2 n v25 v26 v27 = some r) FU ?_ ?_ ?_
    ·exact AC ⟨_, _, _, rfl, h⟩ [(32, some 64)] [] hρ
    ·rintro S ⟨_, _, _, _, h⟩; rw [i_BranchPhases_l2] at h; cases h
    ·rintro n4 S ⟨v25, v26, v27, rfl, h⟩; rw [i_BranchPhases_l2] at h; refine AN hN ?_; refine AW_seq ?_; refine AB h (fun hc24 h => ?_) fun hc24 h => ?_
     ·refine AW_skip (AK ?_); refine AW_cutK (fun S => ∃ (v34 : List Int), S = ⟨mkT [(0, .sl (encL EILLIIIIIEE a1) a1.length), (1, .sl (encL EILLIIIIIEE a2) a2.length), (7, .own 32 v34.length), (33, .int .i64 v25), (34, .int .i64 v26)], mkR [(32, .row 3 1 (encL EI v34))], 64⟩ ∧ i_BranchPhases_j13 v25 v26 (i_BranchPhases_l2 a1 a2 n4) v34 = some r) ?_ ?_
      ·refine AW_block ?_; refine AN hN ?_; refine AN hN ?_; refine AW_cutK (fun S => ∃ (v33 : Int), S = ⟨mkT [(0, .sl (encL EILLIIIIIEE a1) a1.length), (1, .sl (encL EILLIIIIIEE a2) a2.length), (7, .own 32 v27.length), (9, .int .i64 v33), (33, .int .i64 v25), (34, .int .i64 v26)], mkR [(32, .row 3 1 (encL EI v27))], 64⟩ ∧ i_BranchPhases_j14 v25 v26 v27 (i_BranchPhases_l2 a1 a2 n4) v33 = some r) ?_ ?_
       ·refine AW_block ?_; refine AW_loopF (fun n S => ∃ (v31 : Int), S = ⟨mkT [(0, .sl (encL EILLIIIIIEE a1) a1.length), (1, .sl (encL EILLIIIIIEE a2) a2.length), (7, .own 32 v27.length), (8, .int .i64 v26), (9, .int .i64 v31), (33, .int .i64 v25), (34, .int .i64 v26)], mkR [(32, .row 3 1 (encL EI v27))], 64⟩ ∧ i_BranchPhases_l5 a1 a2 v25 v26 v27 (i_BranchPhases_l2 a1 a2 n4) n v31 = some r) FU ?_ ?_ ?_
        ·exact AC ⟨_, rfl, h⟩ [(32, some 32)] [] hρ
        ·rintro S ⟨_, _, h⟩; rw [i_BranchPhases_l5] at h; cases h
        ·rintro n5 S ⟨v31, rfl, h⟩; rw [i_BranchPhases_l5] at h; refine AW_seq ?_; refine AJ (fun S => ∃ (v32 : Bool), S = ⟨mkT [(0, .sl (encL EILLIIIIIEE a1) a1.length), (1, .sl (encL EILLIIIIIEE a2) a2.length), (7, .own 32 v27.length), (8, .int .i64 v26), (9, .int .i64 v31), (33, .int .i64 v25), (34, .int .i64 v26), (51, .bool v32)], mkR [(32, .row 3 1 (encL EI v27))], 64⟩ ∧ i_BranchPhases_j17 v25 v26 v27 (i_BranchPhases_l2 a1 a2 n4) v31 (i_BranchPhases_l5 a1 a2 v25 v26 v27 (i_BranchPhases_l2 a1 a2 n4) n5) v32 = some r) hN ?_ ?_
         ·intro K hK; obtain ⟨x21, hv9, h⟩ := bO_inv h; rcases br_inv hv9 with ⟨hc29, hv9⟩ | ⟨hc29, hv9⟩
          ·obtain ⟨q25, h63, hv9⟩ := bO_inv hv9; obtain ⟨⟨h64a, h64b⟩, h64c⟩ := geti_E EILLIIIIIEEl h63; (try simp only [EV, seval] at h64c); obtain ⟨q26, h65, hv9⟩ := bO_inv hv9; obtain ⟨⟨h66a, h66b⟩, h66c⟩ := geti_E EILLIIIIIEEl h65; (try simp only [EV, seval] at h66c); obtain ⟨x22, h67, hv9⟩ := bO_inv hv9; simp only [EV, seval, hc29, h64a, h64b, h64c, h66a, h66b, h66c]; refine rC_p (i_isTimes_ok h67) (by simp only [AL, EV, seval, hc29, h64a, h64b, h64c, h66a, h66b, h66c]) (le_d rfl) (no_j rfl) ?_; cases hv9; simp only [EV, seval, hc29, h64a, h64b, h64c, h66a, h66b, h66c]; refine hK _ _ _ (show cutK _ _ _ from cutL ⟨_, rfl, h⟩ (Le_can [(32, some 32)] [] hρ (by kernel_rfl) ?_ ?_))
           ·simp only [AL, EV, seval, hc29, h64a, h64b, h64c, h66a, h66b, h66c]
           ·simp only [AL, EV, seval, hc29, h64a, h64b, h64c, h66a, h66b, h66c]
          ·cases hv9; simp only [EV, seval, hc29]; refine hK _ _ _ (show cutK _ _ _ from cutL ⟨_, rfl, h⟩ (Le_can [(32, some 32)] [] hρ (by kernel_rfl) ?_ ?_))
           ·simp only [AL, EV, seval, hc29]
           ·simp only [AL, EV, seval, hc29]
         ·rintro S ⟨v32, rfl, h⟩; unfold i_BranchPhases_j17 at h; refine AB h (fun hc30 h => ?_) fun hc30 h => ?_
          ·refine AW_skip (AK ?_); refine AW_block ?_; refine AS hN fun K hK => ?_; simp only [EV, seval]; exact hK _ _ _ (AC ⟨_, rfl, h⟩ [(32, some 32)] [] hρ)
          ·exact AW_exit (AC ⟨_, rfl, h⟩ [(32, some 32)] [] hρ)
       ·rintro S ⟨v33, rfl, h⟩; unfold i_BranchPhases_j14 at h; refine AW_seq ?_; refine AN hN ?_; refine AB h (fun hc31 h => ?_) fun hc31 h => ?_
        ·refine AN hN ?_; injection h with h; subst h; exact AX (b' := 64) [(4, .own 32 0), (5, .bool false)] [(32, .row 3 1 (encL EI ([])))] [(32, none)] [] hρ (EQ [32])
        ·refine AW_skip (AK ?_); refine AS hN fun K hK => ?_; obtain ⟨h68, h⟩ := gd_inv h; replace h68 := of_decide_eq_true h68; (try simp only [EV, seval] at h68); simp only [EV, seval, h68]; refine hK _ _ _ (show cutK _ _ _ from cutL ⟨_, rfl, h⟩ (Le_can [(32, some 1136)] [] hρ (by kernel_rfl) ?_ ?_))
         ·simp only [AL, EV, seval, h68]
         ·simp only [AL, EV, seval, h68]
      ·rintro S ⟨v34, rfl, h⟩; unfold i_BranchPhases_j13 at h; refine AS hN fun K hK => ?_; simp only [EV, seval]; exact hK _ _ _ (AC ⟨_, _, _, rfl, h⟩ [(32, some 32)] [] hρ)
     ·exact AW_exit (AC ⟨_, rfl, h⟩ [(32, some 32)] [] hρ)
   ·rintro S ⟨v35, rfl, h⟩; unfold i_BranchPhases_j2 at h; refine AN hN ?_; injection h with h; subst h; exact AX (b' := 64) [(4, .own 32 v35.length), (5, .bool true)] [(32, .row 3 1 (encL EI v35))] [(32, some 32)] [] hρ (EQ [32])
/- impl.EqualUpToPhases -/
def i_EqualUpToPhases (a1 : List (Int × List (LF))) (a2 : List (Int × List (LF))) : Option Bool :=
  bO (i_BranchPhases a1 a2) fun x1 => some x1.2
theorem i_EqualUpToPhases_ok {a1 : List (Int × List (LF))} {a2 : List (Int × List (LF))} {r : Bool} (h : i_EqualUpToPhases a1 a2 = some r) :
    Spec Try.prog 9 [.sl (encL EILLIIIIIEE a1) a1.length, .sl (encL EILLIIIIIEE a2) a2.length] [] (.bool r) [] := by
 unfold i_EqualUpToPhases at h; refine SO Try.func9 rfl Try.ntmps9 fun C hN hρ => ?_; simp only [st0, tmps0, Nat.zero_add, Nat.reduceAdd]; refine AN hN ?_; refine AR hN fun K hK => ?_; obtain ⟨x1, h1, h⟩ := bO_inv h; simp only [EV, seval]; refine rC_p (i_BranchPhases_ok h1) (by simp only [AL, EV, seval]) (le_d rfl) (site_1 (by simp only [EV, seval])) ?_; simp only [EV, seval]; refine hK _ _ _ ?_; clear hK K; refine AN hN ?_; injection h with h; subst h; exact AX (b' := 64) [(4, .bool x1.2)] [] [] [] hρ (EQ [])
end Go.Proofs.Ytfjopjalhllplaa
