/- Models of functions, and that the functions do what the models say; printed by a program. -/
import Derived.Test.YtfjopjalhllplaaK1
import Derived.Test.YtfjopjalhllplaaKMbs
namespace Go.Proofs.Ytfjopjalhllplaa
open Go.RowKit
set_option maxRecDepth 100000
set_option linter.unusedVariables false
set_option linter.unusedSimpArgs false
set_option linter.defProp false
set_option maxHeartbeats 4000000
/- spec.l24Apart -/
def s_l24Apart_j1 : Option (Int × Bool) :=
  some (0, false)
def s_l24Apart_j4 (a2 : List (LF)) (a4 : List (LF)) (v4 : Int) (kl1 : Int → Option (Int × Bool)) (v5 : Bool) : Option (Int × Bool) :=
  br v5 (bO (s_l24Cols a2 a4 v4) fun x6 => br x6 (some (v4, true)) (kl1 (IntKind.wrap .i64 (v4 + 1)))) (s_l24Apart_j1)
def s_l24Apart_l1 (a1 : Int) (a2 : List (LF)) (a3 : Int) (a4 : List (LF)) : Nat → Int → Option (Int × Bool)
  | 0, _ => none
  | n1 + 1, v4 =>
  bO (br (decide (v4 < 8)) (some (a1 == a3)) (some false)) fun x5 => s_l24Apart_j4 a2 a4 v4 (s_l24Apart_l1 a1 a2 a3 a4 n1) x5
def s_l24Apart (a1 : Int) (a2 : List (LF)) (a3 : Int) (a4 : List (LF)) : Option (Int × Bool) :=
  s_l24Apart_l1 a1 a2 a3 a4 FU 0
theorem s_l24Apart_ok {a1 : Int} {a2 : List (LF)} {a3 : Int} {a4 : List (LF)} {r : Int × Bool} (h : s_l24Apart a1 a2 a3 a4 = some r) :
    Spec Try.prog 18 [.agg [.int .i64 a1, .sl (encL ELIIIIIE a2) a2.length], .agg [.int .i64 a3, .sl (encL ELIIIIIE a4) a4.length]] [] (.tup [.int .i64 r.1, .bool r.2]) [] := by
 unfold s_l24Apart at h; refine SO Try.func18 rfl Try.ntmps18 fun C hN hρ => ?_; simp only [st0, tmps0, Nat.zero_add, Nat.reduceAdd]; refine AN hN ?_; refine AW_cutK (fun S => S = ⟨mkT [], mkR [], 64⟩ ∧ s_l24Apart_j1 = some r) ?_ ?_
 ·refine AN hN ?_; refine AW_block ?_; refine AW_loopF (fun n S => ∃ (v4 : Int), S = ⟨mkT [(2, .ptr 32 0), (3, .ptr 33 0), (6, .int .i64 v4)], mkR [(32, .box 38 [.int .i64 a1, .sl (encL ELIIIIIE a2) a2.length]), (33, .box 38 [.int .i64 a3, .sl (encL ELIIIIIE a4) a4.length])], 64⟩ ∧ s_l24Apart_l1 a1 a2 a3 a4 n v4 = some r) FU ?_ ?_ ?_
  ·exact AC ⟨_, rfl, h⟩ [(32, some 64), (33, some 80)] [] hρ
  ·rintro S ⟨_, _, h⟩; rw [s_l24Apart_l1] at h; cases h
  ·rintro n1 S ⟨v4, rfl, h⟩; rw [s_l24Apart_l1] at h; refine AW_seq ?_; refine AJ (fun S => ∃ (v5 : Bool), S = ⟨mkT [(2, .ptr 32 0), (3, .ptr 33 0), (6, .int .i64 v4), (15, .bool v5)], mkR [(32, .box 38 [.int .i64 a1, .sl (encL ELIIIIIE a2) a2.length]), (33, .box 38 [.int .i64 a3, .sl (encL ELIIIIIE a4) a4.length])], 64⟩ ∧ s_l24Apart_j4 a2 a4 v4 (s_l24Apart_l1 a1 a2 a3 a4 n1) v5 = some r) hN ?_ ?_
   ·intro K hK; obtain ⟨x5, hv3, h⟩ := bO_inv h; rcases br_inv hv3 with ⟨hc7, hv3⟩ | ⟨hc7, hv3⟩
    ·cases hv3; simp only [EV, seval, hc7]; refine hK _ _ _ (show cutK _ _ _ from cutL ⟨_, rfl, h⟩ (Le_can [(32, some 32), (33, some 33)] [] hρ (by kernel_rfl) ?_ ?_))
     ·simp only [AL, EV, seval, hc7]
     ·simp only [AL, EV, seval, hc7]
    ·cases hv3; simp only [EV, seval, hc7]; refine hK _ _ _ (show cutK _ _ _ from cutL ⟨_, rfl, h⟩ (Le_can [(32, some 32), (33, some 33)] [] hρ (by kernel_rfl) ?_ ?_))
     ·simp only [AL, EV, seval, hc7]
     ·simp only [AL, EV, seval, hc7]
   ·rintro S ⟨v5, rfl, h⟩; unfold s_l24Apart_j4 at h; refine AB h (fun hc8 h => ?_) fun hc8 h => ?_
    ·refine AW_skip (AK ?_); refine AW_seq ?_; refine AW_block ?_; obtain ⟨x6, h3, h⟩ := bO_inv h; refine AP hN (s_l24Cols_ok h3) ?_; refine AB h (fun hc9 h => ?_) fun hc9 h => ?_
     ·refine AN hN ?_; injection h with h; subst h; exact AX (b' := 64) [(4, .int .i64 v4), (5, .bool true)] [] [] [] hρ (EQ [])
     ·refine AW_skip (AK ?_); refine AS hN fun K hK => ?_; simp only [EV, seval]; exact hK _ _ _ (AC ⟨_, rfl, h⟩ [(32, some 32), (33, some 33)] [] hρ)
    ·exact AW_exit (AC ⟨rfl, h⟩ [] [] hρ)
 ·rintro S ⟨rfl, h⟩; unfold s_l24Apart_j1 at h; refine AN hN ?_; injection h with h; subst h; exact AX (b' := 64) [(4, .int .i64 0), (5, .bool false)] [] [] [] hρ (EQ [])
end Go.Proofs.Ytfjopjalhllplaa
