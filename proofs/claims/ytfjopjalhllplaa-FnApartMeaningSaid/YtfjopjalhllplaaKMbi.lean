/- Models of functions, and that the functions do what the models say; printed by a program. -/
import Derived.Test.YtfjopjalhllplaaK1
namespace Go.Proofs.Ytfjopjalhllplaa
open Go.RowKit
set_option maxRecDepth 100000
set_option linter.unusedVariables false
set_option linter.unusedSimpArgs false
set_option linter.defProp false
set_option maxHeartbeats 4000000
/- impl.sameSizes -/
def i_sameSizes_j2 : Option Bool :=
  some true
def i_sameSizes_l1 (a2 : List (LF)) (a4 : List (LF)) : Nat → Int → Int → Option Bool
  | 0, _, _ => none
  | n1 + 1, v5, v6 =>
  br (decide (v6 < v5)) (bO (geti a2 v6) fun q5 => bO (geti a4 v6) fun q6 => br (((q5.length : Int)) != ((q6.length : Int))) (some false) ((i_sameSizes_l1 a2 a4 n1) v5 (IntKind.wrap .i64 (v6 + 1)))) (i_sameSizes_j2)
def i_sameSizes_j1 (a2 : List (LF)) (a4 : List (LF)) (v1 : Bool) : Option Bool :=
  br v1 (some false) (i_sameSizes_l1 a2 a4 FU ((a2.length : Int)) 0)
def i_sameSizes (a1 : Int) (a2 : List (LF)) (a3 : Int) (a4 : List (LF)) : Option Bool :=
  bO (br (a1 != a3) (some true) (some (((a2.length : Int)) != ((a4.length : Int))))) fun x1 => i_sameSizes_j1 a2 a4 x1
theorem i_sameSizes_ok {a1 : Int} {a2 : List (LF)} {a3 : Int} {a4 : List (LF)} {r : Bool} (h : i_sameSizes a1 a2 a3 a4 = some r) :
    Spec Try.prog 16 [.agg [.int .i64 a1, .sl (encL ELIIIIIE a2) a2.length], .agg [.int .i64 a3, .sl (encL ELIIIIIE a4) a4.length]] [] (.bool r) [] := by
 unfold i_sameSizes at h; refine SO Try.func16 rfl Try.ntmps16 fun C hN hρ => ?_; simp only [st0, tmps0, Nat.zero_add, Nat.reduceAdd]; refine AN hN ?_; refine AW_seq ?_; refine AJ (fun S => ∃ (v1 : Bool), S = ⟨mkT [(2, .ptr 32 0), (3, .ptr 33 0), (19, .bool v1)], mkR [(32, .box 38 [.int .i64 a1, .sl (encL ELIIIIIE a2) a2.length]), (33, .box 38 [.int .i64 a3, .sl (encL ELIIIIIE a4) a4.length])], 64⟩ ∧ i_sameSizes_j1 a2 a4 v1 = some r) hN ?_ ?_
 ·intro K hK; obtain ⟨x1, hv1, h⟩ := bO_inv h; rcases br_inv hv1 with ⟨hc1, hv1⟩ | ⟨hc1, hv1⟩
  ·cases hv1; simp only [EV, seval, hc1]; refine hK _ _ _ (show cutK _ _ _ from cutL ⟨_, rfl, h⟩ (Le_can [(32, some 64), (33, some 80)] [] hρ (by kernel_rfl) ?_ ?_))
   ·simp only [AL, EV, seval, hc1]
   ·simp only [AL, EV, seval, hc1]
  ·cases hv1; simp only [EV, seval, hc1]; refine hK _ _ _ (show cutK _ _ _ from cutL ⟨_, rfl, h⟩ (Le_can [(32, some 64), (33, some 80)] [] hρ (by kernel_rfl) ?_ ?_))
   ·simp only [AL, EV, seval, hc1]
   ·simp only [AL, EV, seval, hc1]
 ·rintro S ⟨v1, rfl, h⟩; unfold i_sameSizes_j1 at h; refine AB h (fun hc2 h => ?_) fun hc2 h => ?_
  ·refine AN hN ?_; injection h with h; subst h; exact AX (b' := 64) [(4, .bool false)] [] [] [] hρ (EQ [])
  ·refine AW_skip (AK ?_); refine AW_cutK (fun S => S = ⟨mkT [], mkR [], 64⟩ ∧ i_sameSizes_j2 = some r) ?_ ?_
   ·refine AN hN ?_; refine AW_block ?_; refine AW_loopF (fun n S => ∃ (v5 v6 : Int), S = ⟨mkT [(2, .ptr 32 0), (3, .ptr 33 0), (22, .int .i64 v5), (23, .int .i64 v6)], mkR [(32, .box 38 [.int .i64 a1, .sl (encL ELIIIIIE a2) a2.length]), (33, .box 38 [.int .i64 a3, .sl (encL ELIIIIIE a4) a4.length])], 64⟩ ∧ i_sameSizes_l1 a2 a4 n v5 v6 = some r) FU ?_ ?_ ?_
    ·exact AC ⟨_, _, rfl, h⟩ [(32, some 32), (33, some 33)] [] hρ
    ·rintro S ⟨_, _, _, h⟩; rw [i_sameSizes_l1] at h; cases h
    ·rintro n1 S ⟨v5, v6, rfl, h⟩; rw [i_sameSizes_l1] at h; refine AN hN ?_; refine AW_seq ?_; refine AB h (fun hc7 h => ?_) fun hc7 h => ?_
     ·refine AW_skip (AK ?_); refine AW_seq ?_; refine AW_block ?_; refine AN hN ?_; refine AR hN fun K hK => ?_; obtain ⟨q5, h9, h⟩ := bO_inv h; obtain ⟨⟨h10a, h10b⟩, h10c⟩ := geti_E ELIIIIIEl h9; (try simp only [EV, seval] at h10c); obtain ⟨q6, h11, h⟩ := bO_inv h; obtain ⟨⟨h12a, h12b⟩, h12c⟩ := geti_E ELIIIIIEl h11; (try simp only [EV, seval] at h12c); simp only [EV, seval, h10a, h10b, h10c, h12a, h12b, h12c]; refine hK _ _ _ ?_; clear hK K; refine AW_condK (a := .bool (((q5.length : Int)) != ((q6.length : Int)))) (by simp only [EV, seval, h10a, h10b, h10c, h12a, h12b, h12c]) (brK h (fun hc8 h => ?_) (fun hc8 h => ?_))
      ·refine AN hN ?_; injection h with h; subst h; exact AX (b' := 64) [(4, .bool false)] [] [] [] hρ (EQ [])
      ·refine AW_skip (AK ?_); refine AS hN fun K hK => ?_; simp only [EV, seval]; exact hK _ _ _ (AC ⟨_, _, rfl, h⟩ [(32, some 32), (33, some 33)] [] hρ)
     ·exact AW_exit (AC ⟨rfl, h⟩ [] [] hρ)
   ·rintro S ⟨rfl, h⟩; unfold i_sameSizes_j2 at h; refine AN hN ?_; injection h with h; subst h; exact AX (b' := 64) [(4, .bool true)] [] [] [] hρ (EQ [])
end Go.Proofs.Ytfjopjalhllplaa
