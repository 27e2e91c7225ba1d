/- Models of functions, and that the functions do what the models say; printed by a program. -/
import Derived.Test.YtfjopjalhllplaaK1
import Derived.Test.YtfjopjalhllplaaK6
namespace Go.Proofs.Ytfjopjalhllplaa
open Go.RowKit
set_option maxRecDepth 100000
set_option linter.unusedVariables false
set_option linter.unusedSimpArgs false
set_option linter.defProp false
set_option maxHeartbeats 4000000
/- spec.l24Cols -/
def s_l24Cols_j13 (v16 : Int) (kl4 : Int → Option Bool) (v17 : Bool) : Option Bool :=
  br v17 (some false) (kl4 (IntKind.wrap .i64 (v16 + 1)))
def s_l24Cols_j10 (v12 : Int) (kl3 : Int → Option Bool) : Option Bool :=
  kl3 (IntKind.wrap .i64 (v12 + 1))
def s_l24Cols_l4 (a3 v12 : Int) (kl3 : Int → Option Bool) (q17 : LF) (q18 : LF) : Nat → Int → Option Bool
  | 0, _ => none
  | n4 + 1, v16 =>
  br (decide (v16 < ((q17.length : Int)))) (bO (s_PhaseFactor a3) fun x25 => bO (geti q18 v16) fun q23 => bO (s_MulDOmega x25.1 x25.2.1 x25.2.2.1 x25.2.2.2.1 x25.2.2.2.2 q23.1 q23.2.1 q23.2.2.1 q23.2.2.2.1 q23.2.2.2.2) fun x26 => bO (br (!x26.2.2.2.2.2) (some true) (bO (geti q17 v16) fun q24 => some (!((x26.1 == q24.1) && ((x26.2.1 == q24.2.1) && ((x26.2.2.1 == q24.2.2.1) && ((x26.2.2.2.1 == q24.2.2.2.1) && (x26.2.2.2.2.1 == q24.2.2.2.2)))))))) fun x27 => s_l24Cols_j13 v16 (s_l24Cols_l4 a3 v12 kl3 q17 q18 n4) x27) (s_l24Cols_j10 v12 kl3)
def s_l24Cols_j1 : Option Bool :=
  some true
def s_l24Cols_l1 (a1 : List (LF)) (a2 : List (LF)) (a3 : Int) : Nat → Int → Option Bool
  | 0, _ => none
  | n3 + 1, v12 =>
  br (decide (v12 < ((a1.length : Int)))) (bO (geti a1 v12) fun q17 => bO (geti a2 v12) fun q18 => br (((q17.length : Int)) != ((q18.length : Int))) (some false) (s_l24Cols_l4 a3 v12 (s_l24Cols_l1 a1 a2 a3 n3) q17 q18 FU 0)) (s_l24Cols_j1)
def s_l24Cols (a1 : List (LF)) (a2 : List (LF)) (a3 : Int) : Option Bool :=
  br (((a1.length : Int)) != ((a2.length : Int))) (some false) (s_l24Cols_l1 a1 a2 a3 FU 0)
theorem s_l24Cols_ok {a1 : List (LF)} {a2 : List (LF)} {a3 : Int} {r : Bool} (h : s_l24Cols a1 a2 a3 = some r) :
    Spec Try.prog 27 [.sl (encL ELIIIIIE a1) a1.length, .sl (encL ELIIIIIE a2) a2.length, .int .i64 a3] [] (.bool r) [] := by
 unfold s_l24Cols at h; refine SO Try.func27 rfl Try.ntmps27 fun C hN hρ => ?_; simp only [st0, tmps0, Nat.zero_add, Nat.reduceAdd]; refine AN hN ?_; refine AW_seq ?_; refine AN hN ?_; refine AB h (fun hc1 h => ?_) fun hc1 h => ?_
 ·refine AN hN ?_; injection h with h; subst h; exact AX (b' := 64) [(6, .bool false)] [] [] [] hρ (EQ [])
 ·refine AW_skip (AK ?_); refine AW_cutK (fun S => S = ⟨mkT [], mkR [], 64⟩ ∧ s_l24Cols_j1 = some r) ?_ ?_
  ·refine AN hN ?_; refine AW_block ?_; refine AW_loopF (fun n S => ∃ (v12 : Int), S = ⟨mkT [(0, .sl (encL ELIIIIIE a1) a1.length), (1, .sl (encL ELIIIIIE a2) a2.length), (2, .int .i64 a3), (7, .int .i64 v12)], mkR [], 64⟩ ∧ s_l24Cols_l1 a1 a2 a3 n v12 = some r) FU ?_ ?_ ?_
   ·exact AC ⟨_, rfl, h⟩ [] [] hρ
   ·rintro S ⟨_, _, h⟩; rw [s_l24Cols_l1] at h; cases h
   ·rintro n3 S ⟨v12, rfl, h⟩; rw [s_l24Cols_l1] at h; refine AW_seq ?_; refine AN hN ?_; refine AB h (fun hc24 h => ?_) fun hc24 h => ?_
    ·refine AW_skip (AK ?_); refine AW_cutK (fun S => S = ⟨mkT [(0, .sl (encL ELIIIIIE a1) a1.length), (1, .sl (encL ELIIIIIE a2) a2.length), (2, .int .i64 a3), (7, .int .i64 v12)], mkR [], 64⟩ ∧ s_l24Cols_j10 v12 (s_l24Cols_l1 a1 a2 a3 n3) = some r) ?_ ?_
     ·refine AW_block ?_; refine AW_seq ?_; refine AR hN fun K hK => ?_; obtain ⟨q17, h45, h⟩ := bO_inv h; obtain ⟨⟨h46a, h46b⟩, h46c⟩ := geti_E ELIIIIIEl h45; (try simp only [EV, seval] at h46c); obtain ⟨q18, h47, h⟩ := bO_inv h; obtain ⟨⟨h48a, h48b⟩, h48c⟩ := geti_E ELIIIIIEl h47; (try simp only [EV, seval] at h48c); simp only [EV, seval, h46a, h46b, h46c, h48a, h48b, h48c]; refine hK _ _ _ ?_; clear hK K; refine AW_condK (a := .bool (((q17.length : Int)) != ((q18.length : Int)))) (by simp only [EV, seval, h46a, h46b, h46c, h48a, h48b, h48c]) (brK h (fun hc25 h => ?_) (fun hc25 h => ?_))
      ·refine AN hN ?_; injection h with h; subst h; exact AX (b' := 64) [(6, .bool false)] [] [] [] hρ (EQ [])
      ·refine AW_skip (AK ?_); refine AN hN ?_; refine AW_block ?_; refine AW_loopF (fun n S => ∃ (v16 : Int), S = ⟨mkT [(0, .sl (encL ELIIIIIE a1) a1.length), (1, .sl (encL ELIIIIIE a2) a2.length), (2, .int .i64 a3), (7, .int .i64 v12), (8, .int .i64 v16)], mkR [], 64⟩ ∧ s_l24Cols_l4 a3 v12 (s_l24Cols_l1 a1 a2 a3 n3) q17 q18 n v16 = some r) FU ?_ ?_ ?_
       ·exact AC ⟨_, rfl, h⟩ [] [] hρ
       ·rintro S ⟨_, _, h⟩; rw [s_l24Cols_l4] at h; cases h
       ·rintro n4 S ⟨v16, rfl, h⟩; rw [s_l24Cols_l4] at h; refine AW_seq ?_; refine AR hN fun K hK => ?_; simp only [EV, seval, h46a, h46b, h46c]; refine hK _ _ _ ?_; clear hK K; refine AW_condK (a := .bool (decide (v16 < ((q17.length : Int))))) (by simp only [EV, seval, h46a, h46b, h46c]) (brK h (fun hc32 h => ?_) (fun hc32 h => ?_))
        ·refine AW_skip (AK ?_); refine AW_seq ?_; refine AW_block ?_; refine AR hN fun K hK => ?_; obtain ⟨x25, h61, h⟩ := bO_inv h; simp only [EV, seval]; refine CP (s_PhaseFactor_ok h61) ?_; obtain ⟨q23, h62, h⟩ := bO_inv h; obtain ⟨⟨h63a, h63b⟩, h63c⟩ := geti_E EIIIIIl h62; (try simp only [EV, seval] at h63c); obtain ⟨x26, h64, h⟩ := bO_inv h; simp only [EV, seval, h48a, h48b, h48c, h63a, h63b, h63c]; refine rC_p (s_MulDOmega_ok h64) (by simp only [AL, EV, seval, h48a, h48b, h48c, h63a, h63b, h63c]) (le_d rfl) (no_j rfl) ?_; simp only [EV, seval, h48a, h48b, h48c, h63a, h63b, h63c]; refine hK _ _ _ ?_; clear hK K; refine AJ (fun S => ∃ (v17 : Bool), S = ⟨mkT [(0, .sl (encL ELIIIIIE a1) a1.length), (1, .sl (encL ELIIIIIE a2) a2.length), (2, .int .i64 a3), (7, .int .i64 v12), (8, .int .i64 v16), (67, .bool v17)], mkR [], 64⟩ ∧ s_l24Cols_j13 v16 (s_l24Cols_l4 a3 v12 (s_l24Cols_l1 a1 a2 a3 n3) q17 q18 n4) v17 = some r) hN ?_ ?_
         ·intro K hK; obtain ⟨x27, hv9, h⟩ := bO_inv h; rcases br_inv hv9 with ⟨hc33, hv9⟩ | ⟨hc33, hv9⟩
          ·cases hv9; simp only [EV, seval, hc33]; refine hK _ _ _ (show cutK _ _ _ from cutL ⟨_, rfl, h⟩ (Le_can [] [] hρ (by kernel_rfl) ?_ ?_))
           ·simp only [AL, EV, seval, hc33]
           ·simp only [AL, EV, seval, hc33]
          ·obtain ⟨q25, h67, hv9⟩ := bO_inv hv9; obtain ⟨⟨h68a, h68b⟩, h68c⟩ := geti_E EIIIIIl h67; (try simp only [EV, seval] at h68c); cases hv9; simp only [EV, seval, hc33, h46a, h46b, h46c, h68a, h68b, h68c]; refine hK _ _ _ (show cutK _ _ _ from cutL ⟨_, rfl, h⟩ (Le_can [] [] hρ (by kernel_rfl) ?_ ?_))
           ·simp only [AL, EV, seval, hc33, h46a, h46b, h46c, h68a, h68b, h68c]
           ·simp only [AL, EV, seval, hc33, h46a, h46b, h46c, h68a, h68b, h68c]
         ·rintro S ⟨v17, rfl, h⟩; unfold s_l24Cols_j13 at h; refine AW_condK (a := .bool v17) (by simp only [EV, seval, h48a, h48b, h48c, h63a, h63b, h63c]) (brK h (fun hc34 h => ?_) (fun hc34 h => ?_))
          ·refine AN hN ?_; injection h with h; subst h; exact AX (b' := 64) [(6, .bool false)] [] [] [] hρ (EQ [])
          ·refine AW_skip (AK ?_); refine AS hN fun K hK => ?_; simp only [EV, seval]; exact hK _ _ _ (AC ⟨_, rfl, h⟩ [] [] hρ)
        ·refine AW_exit (show cutK _ _ _ from cutL ⟨rfl, h⟩ (Le_can [] [] hρ (by kernel_rfl) ?_ ?_))
         ·simp only [AL, EV, seval, h46a, h46b, h46c]
         ·simp only [AL, EV, seval, h46a, h46b, h46c]
     ·rintro S ⟨rfl, h⟩; unfold s_l24Cols_j10 at h; refine AS hN fun K hK => ?_; simp only [EV, seval]; exact hK _ _ _ (AC ⟨_, rfl, h⟩ [] [] hρ)
    ·exact AW_exit (AC ⟨rfl, h⟩ [] [] hρ)
  ·rintro S ⟨rfl, h⟩; unfold s_l24Cols_j1 at h; refine AN hN ?_; injection h with h; subst h; exact AX (b' := 64) [(6, .bool true)] [] [] [] hρ (EQ [])
end Go.Proofs.Ytfjopjalhllplaa
