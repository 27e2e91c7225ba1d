/- Models of functions, and that the functions do what the models say; printed by a program. -/
import Derived.Test.YtfjopjalhllplaaK1
import Derived.Test.YtfjopjalhllplaaK6
namespace Go.Proofs.Ytfjopjalhllplaa
open Go.RowKit
set_option maxRecDepth 100000
set_option linter.unusedVariables false
set_option linter.unusedSimpArgs false
set_option linter.defProp false
set_option maxHeartbeats 4000000
/- impl.isTimes -/
def i_isTimes_j13 (v27 v28 : Int) (kl4 : Int → Int → Option Bool) (v29 : Bool) : Option Bool :=
  br v29 (some false) (kl4 v27 (IntKind.wrap .i64 (v28 + 1)))
def i_isTimes_j10 (v20 v21 : Int) (kl3 : Int → Int → Option Bool) : Option Bool :=
  kl3 v20 (IntKind.wrap .i64 (v21 + 1))
def i_isTimes_l4 (a4 : List (LF)) (a5 v20 v21 : Int) (kl3 : Int → Int → Option Bool) (q21 : LF) : Nat → Int → Int → Option Bool
  | 0, _, _ => none
  | n4 + 1, v27, v28 =>
  br (decide (v28 < v27)) (bO (geti a4 v21) fun q28 => bO (geti q28 v28) fun q29 => bO (i_PhaseFactor a5) fun x25 => bO (i_MulDOmega q29.1 q29.2.1 q29.2.2.1 q29.2.2.2.1 q29.2.2.2.2 x25.1 x25.2.1 x25.2.2.1 x25.2.2.2.1 x25.2.2.2.2) fun x26 => bO (br (!x26.2.2.2.2.2) (some true) (bO (geti q21 v28) fun q30 => some (!((x26.1 == q30.1) && ((x26.2.1 == q30.2.1) && ((x26.2.2.1 == q30.2.2.1) && ((x26.2.2.2.1 == q30.2.2.2.1) && (x26.2.2.2.2.1 == q30.2.2.2.2)))))))) fun x27 => i_isTimes_j13 v27 v28 (i_isTimes_l4 a4 a5 v20 v21 kl3 q21 n4) x27) (i_isTimes_j10 v20 v21 kl3)
def i_isTimes_j1 : Option Bool :=
  some true
def i_isTimes_l1 (a2 : List (LF)) (a4 : List (LF)) (a5 : Int) : Nat → Int → Int → Option Bool
  | 0, _, _ => none
  | n3 + 1, v20, v21 =>
  br (decide (v21 < v20)) (bO (geti a2 v21) fun q21 => i_isTimes_l4 a4 a5 v20 v21 (i_isTimes_l1 a2 a4 a5 n3) q21 FU ((q21.length : Int)) 0) (i_isTimes_j1)
def i_isTimes (a1 : Int) (a2 : List (LF)) (a3 : Int) (a4 : List (LF)) (a5 : Int) : Option Bool :=
  i_isTimes_l1 a2 a4 a5 FU ((a2.length : Int)) 0
theorem i_isTimes_ok {a1 : Int} {a2 : List (LF)} {a3 : Int} {a4 : List (LF)} {a5 : Int} {r : Bool} (h : i_isTimes a1 a2 a3 a4 a5 = some r) :
    Spec Try.prog 17 [.agg [.int .i64 a1, .sl (encL ELIIIIIE a2) a2.length], .agg [.int .i64 a3, .sl (encL ELIIIIIE a4) a4.length], .int .i64 a5] [] (.bool r) [] := by
 unfold i_isTimes at h; refine SO Try.func17 rfl Try.ntmps17 fun C hN hρ => ?_; simp only [st0, tmps0, Nat.zero_add, Nat.reduceAdd]; refine AN hN ?_; refine AW_cutK (fun S => S = ⟨mkT [], mkR [], 64⟩ ∧ i_isTimes_j1 = some r) ?_ ?_
 ·refine AN hN ?_; refine AW_block ?_; refine AW_loopF (fun n S => ∃ (v20 v21 : Int), S = ⟨mkT [(2, .int .i64 a5), (3, .ptr 32 0), (4, .ptr 33 0), (13, .int .i64 v20), (14, .int .i64 v21)], mkR [(32, .box 38 [.int .i64 a1, .sl (encL ELIIIIIE a2) a2.length]), (33, .box 38 [.int .i64 a3, .sl (encL ELIIIIIE a4) a4.length])], 64⟩ ∧ i_isTimes_l1 a2 a4 a5 n v20 v21 = some r) FU ?_ ?_ ?_
  ·exact AC ⟨_, _, rfl, h⟩ [(32, some 64), (33, some 80)] [] hρ
  ·rintro S ⟨_, _, _, h⟩; rw [i_isTimes_l1] at h; cases h
  ·rintro n3 S ⟨v20, v21, rfl, h⟩; rw [i_isTimes_l1] at h; refine AN hN ?_; refine AW_seq ?_; refine AB h (fun hc21 h => ?_) fun hc21 h => ?_
   ·refine AW_skip (AK ?_); refine AW_cutK (fun S => S = ⟨mkT [(2, .int .i64 a5), (3, .ptr 32 0), (4, .ptr 33 0), (13, .int .i64 v20), (14, .int .i64 v21)], mkR [(32, .box 38 [.int .i64 a1, .sl (encL ELIIIIIE a2) a2.length]), (33, .box 38 [.int .i64 a3, .sl (encL ELIIIIIE a4) a4.length])], 64⟩ ∧ i_isTimes_j10 v20 v21 (i_isTimes_l1 a2 a4 a5 n3) = some r) ?_ ?_
    ·refine AW_block ?_; refine AN hN ?_; refine AR hN fun K hK => ?_; obtain ⟨q21, h53, h⟩ := bO_inv h; obtain ⟨⟨h54a, h54b⟩, h54c⟩ := geti_E ELIIIIIEl h53; (try simp only [EV, seval] at h54c); simp only [EV, seval, h54a, h54b, h54c]; refine hK _ _ _ ?_; clear hK K; refine AW_block ?_; refine AW_loopF (fun n S => ∃ (v27 v28 : Int), S = ⟨mkT [(2, .int .i64 a5), (3, .ptr 32 0), (4, .ptr 33 0), (7, .int .i64 v21), (13, .int .i64 v20), (14, .int .i64 v21), (22, .int .i64 v27), (23, .int .i64 v28)], mkR [(32, .box 38 [.int .i64 a1, .sl (encL ELIIIIIE a2) a2.length]), (33, .box 38 [.int .i64 a3, .sl (encL ELIIIIIE a4) a4.length])], 64⟩ ∧ i_isTimes_l4 a4 a5 v20 v21 (i_isTimes_l1 a2 a4 a5 n3) q21 n v27 v28 = some r) FU ?_ ?_ ?_
     ·refine cutL ⟨_, _, rfl, h⟩ (Le_can [(32, some 32), (33, some 33)] [] hρ (by kernel_rfl) ?_ ?_)
      ·simp only [AL, EV, seval, h54a, h54b, h54c]
      ·simp only [AL, EV, seval, h54a, h54b, h54c]
     ·rintro S ⟨_, _, _, h⟩; rw [i_isTimes_l4] at h; cases h
     ·rintro n4 S ⟨v27, v28, rfl, h⟩; rw [i_isTimes_l4] at h; refine AN hN ?_; refine AW_seq ?_; refine AB h (fun hc28 h => ?_) fun hc28 h => ?_
      ·refine AW_skip (AK ?_); refine AW_seq ?_; refine AW_block ?_; refine AN hN ?_; refine AR hN fun K hK => ?_; obtain ⟨q28, h71, h⟩ := bO_inv h; obtain ⟨⟨h72a, h72b⟩, h72c⟩ := geti_E ELIIIIIEl h71; (try simp only [EV, seval] at h72c); obtain ⟨q29, h73, h⟩ := bO_inv h; obtain ⟨⟨h74a, h74b⟩, h74c⟩ := geti_E EIIIIIl h73; (try simp only [EV, seval] at h74c); obtain ⟨x25, h75, h⟩ := bO_inv h; simp only [EV, seval, h72a, h72b, h72c, h74a, h74b, h74c]; refine rC_p (i_PhaseFactor_ok h75) (by simp only [AL, EV, seval, h72a, h72b, h72c, h74a, h74b, h74c]) (le_d rfl) (no_j rfl) ?_; obtain ⟨x26, h76, h⟩ := bO_inv h; simp only [EV, seval, h72a, h72b, h72c, h74a, h74b, h74c]; refine rC_p (i_MulDOmega_ok h76) (by simp only [AL, EV, seval, h72a, h72b, h72c, h74a, h74b, h74c]) (le_d rfl) (no_j rfl) ?_; simp only [EV, seval, h72a, h72b, h72c, h74a, h74b, h74c]; refine hK _ _ _ ?_; clear hK K; refine AJ (fun S => ∃ (v29 : Bool), S = ⟨mkT [(2, .int .i64 a5), (3, .ptr 32 0), (4, .ptr 33 0), (7, .int .i64 v21), (13, .int .i64 v20), (14, .int .i64 v21), (22, .int .i64 v27), (23, .int .i64 v28), (53, .bool v29)], mkR [(32, .box 38 [.int .i64 a1, .sl (encL ELIIIIIE a2) a2.length]), (33, .box 38 [.int .i64 a3, .sl (encL ELIIIIIE a4) a4.length])], 64⟩ ∧ i_isTimes_j13 v27 v28 (i_isTimes_l4 a4 a5 v20 v21 (i_isTimes_l1 a2 a4 a5 n3) q21 n4) v29 = some r) hN ?_ ?_
       ·intro K hK; obtain ⟨x27, hv9, h⟩ := bO_inv h; rcases br_inv hv9 with ⟨hc29, hv9⟩ | ⟨hc29, hv9⟩
        ·cases hv9; simp only [EV, seval, hc29]; refine hK _ _ _ (show cutK _ _ _ from cutL ⟨_, rfl, h⟩ (Le_can [(32, some 32), (33, some 33)] [] hρ (by kernel_rfl) ?_ ?_))
         ·simp only [AL, EV, seval, hc29]
         ·simp only [AL, EV, seval, hc29]
        ·obtain ⟨q31, h79, hv9⟩ := bO_inv hv9; obtain ⟨⟨h80a, h80b⟩, h80c⟩ := geti_E EIIIIIl h79; (try simp only [EV, seval] at h80c); cases hv9; simp only [EV, seval, hc29, h54a, h54b, h54c, h80a, h80b, h80c]; refine hK _ _ _ (show cutK _ _ _ from cutL ⟨_, rfl, h⟩ (Le_can [(32, some 32), (33, some 33)] [] hρ (by kernel_rfl) ?_ ?_))
         ·simp only [AL, EV, seval, hc29, h54a, h54b, h54c, h80a, h80b, h80c]
         ·simp only [AL, EV, seval, hc29, h54a, h54b, h54c, h80a, h80b, h80c]
       ·rintro S ⟨v29, rfl, h⟩; unfold i_isTimes_j13 at h; refine AW_condK (a := .bool v29) (by simp only [EV, seval, h72a, h72b, h72c, h74a, h74b, h74c]) (brK h (fun hc30 h => ?_) (fun hc30 h => ?_))
        ·refine AN hN ?_; injection h with h; subst h; exact AX (b' := 64) [(6, .bool false)] [] [] [] hρ (EQ [])
        ·refine AW_skip (AK ?_); refine AS hN fun K hK => ?_; simp only [EV, seval]; exact hK _ _ _ (AC ⟨_, _, rfl, h⟩ [(32, some 32), (33, some 33)] [] hρ)
      ·exact AW_exit (AC ⟨rfl, h⟩ [(32, some 32), (33, some 33)] [] hρ)
    ·rintro S ⟨rfl, h⟩; unfold i_isTimes_j10 at h; refine AS hN fun K hK => ?_; simp only [EV, seval]; exact hK _ _ _ (AC ⟨_, _, rfl, h⟩ [(32, some 32), (33, some 33)] [] hρ)
   ·exact AW_exit (AC ⟨rfl, h⟩ [] [] hρ)
 ·rintro S ⟨rfl, h⟩; unfold i_isTimes_j1 at h; refine AN hN ?_; injection h with h; subst h; exact AX (b' := 64) [(6, .bool true)] [] [] [] hρ (EQ [])
end Go.Proofs.Ytfjopjalhllplaa
