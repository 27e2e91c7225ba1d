/- Models of functions, and that the functions do what the models say; printed by a program. -/
import Derived.Test.YtplbdmigbakmlaaK1
namespace Go.Proofs.Ytplbdmigbakmlaa
open Go.RowKit
set_option maxRecDepth 100000
set_option linter.unusedVariables false
set_option linter.unusedSimpArgs false
set_option linter.defProp false
set_option maxHeartbeats 4000000
/- laws.big -/
def l_big (a1 : List Int) : Option Bool :=
  some (decide (1048576 < ((a1.length : Int))))
theorem l_big_ok {a1 : List Int} {r : Bool} (h : l_big a1 = some r) :
    Spec Try.prog 6 [.sl (encL EB a1) a1.length] [] (.bool r) [] := by
 unfold l_big at h; refine SO Try.func6 rfl Try.ntmps6 fun C hN hρ => ?_; simp only [st0, tmps0, Nat.zero_add, Nat.reduceAdd]; refine AR hN fun K hK => ?_; simp only [EV, seval]; refine hK _ _ _ ?_; clear hK K; refine AR hN fun K hK => ?_; simp only [EV, seval]; refine hK _ _ _ ?_; clear hK K; injection h with h; subst h; exact AX (b' := 64) [(2, .bool (decide (1048576 < ((a1.length : Int)))))] [] [] [] hρ (EQ [] (by simp only [EV, Try.results6, seval]))
/- spec.EqualTableau -/
def s_EqualTableau_j2 : Option Bool :=
  some true
def s_EqualTableau_l1 (a2 : LQ) (a4 : LQ) : Nat → Int → Option Bool
  | 0, _ => none
  | n1 + 1, v3 =>
  br (decide (v3 < ((a2.length : Int)))) (bO (geti a2 v3) fun q5 => bO (geti a4 v3) fun q6 => br (!((q5.1 == q6.1) && ((q5.2.1 == q6.2.1) && ((q5.2.2.1 == q6.2.2.1) && (q5.2.2.2 == q6.2.2.2))))) (some false) ((s_EqualTableau_l1 a2 a4 n1) (IntKind.wrap .i64 (v3 + 1)))) (s_EqualTableau_j2)
def s_EqualTableau_j1 (a2 : LQ) (a4 : LQ) (v1 : Bool) : Option Bool :=
  br v1 (some false) (s_EqualTableau_l1 a2 a4 FU 0)
def s_EqualTableau (a1 : Int) (a2 : LQ) (a3 : Int) (a4 : LQ) : Option Bool :=
  bO (br (a1 != a3) (some true) (some (((a2.length : Int)) != ((a4.length : Int))))) fun x1 => s_EqualTableau_j1 a2 a4 x1
theorem s_EqualTableau_ok {a1 : Int} {a2 : LQ} {a3 : Int} {a4 : LQ} {r : Bool} (h : s_EqualTableau a1 a2 a3 a4 = some r) :
    Spec Try.prog 17 [.agg [.int .i64 a1, .sl (encL EIIII a2) a2.length], .agg [.int .i64 a3, .sl (encL EIIII a4) a4.length]] [] (.bool r) [] := by
 unfold s_EqualTableau at h; refine SO Try.func17 rfl Try.ntmps17 fun C hN hρ => ?_; simp only [st0, tmps0, Nat.zero_add, Nat.reduceAdd]; refine AR hN fun K hK => ?_; simp only [EV, seval]; refine hK _ _ _ ?_; clear hK K; refine AW_seq ?_; refine AJ (fun S => ∃ (v1 : Bool), S = ⟨mkT [(2, .ptr 32 0), (3, .ptr 33 0), (19, .bool v1)], mkR [(32, .box 42 [.int .i64 a1, .sl (encL EIIII a2) a2.length]), (33, .box 42 [.int .i64 a3, .sl (encL EIIII a4) a4.length])], 64⟩ ∧ s_EqualTableau_j1 a2 a4 v1 = some r) hN ?_ ?_
 ·intro K hK; obtain ⟨x1, hv1, h⟩ := bO_inv h; rcases br_inv hv1 with ⟨hc1, hv1⟩ | ⟨hc1, hv1⟩
  ·cases hv1; simp only [EV, seval, hc1]; refine hK _ _ _ (show cutK _ _ _ from cutL ⟨_, rfl, h⟩ (Le_can [(32, some 64), (33, some 80)] [] hρ (by kernel_rfl) ?_ ?_))
   ·simp only [AL, EV, seval, hc1]
   ·simp only [AL, EV, seval, hc1]
  ·cases hv1; simp only [EV, seval, hc1]; refine hK _ _ _ (show cutK _ _ _ from cutL ⟨_, rfl, h⟩ (Le_can [(32, some 64), (33, some 80)] [] hρ (by kernel_rfl) ?_ ?_))
   ·simp only [AL, EV, seval, hc1]
   ·simp only [AL, EV, seval, hc1]
 ·rintro S ⟨v1, rfl, h⟩; unfold s_EqualTableau_j1 at h; refine AB h (fun hc2 h => ?_) fun hc2 h => ?_
  ·refine AR hN fun K hK => ?_; simp only [EV, seval]; refine hK _ _ _ ?_; clear hK K; injection h with h; subst h; exact AX (b' := 64) [(4, .bool false)] [] [] [] hρ (EQ [] (by simp only [EV, Try.results17, seval]))
  ·refine AW_skip (AK ?_); refine AW_cutK (fun S => S = ⟨mkT [], mkR [], 64⟩ ∧ s_EqualTableau_j2 = some r) ?_ ?_
   ·refine AR hN fun K hK => ?_; simp only [EV, seval]; refine hK _ _ _ ?_; clear hK K; refine AW_block ?_; refine AW_loopF (fun n S => ∃ (v3 : Int), S = ⟨mkT [(2, .ptr 32 0), (3, .ptr 33 0), (5, .int .i64 v3)], mkR [(32, .box 42 [.int .i64 a1, .sl (encL EIIII a2) a2.length]), (33, .box 42 [.int .i64 a3, .sl (encL EIIII a4) a4.length])], 64⟩ ∧ s_EqualTableau_l1 a2 a4 n v3 = some r) FU ?_ ?_ ?_
    ·refine cutL ⟨_, rfl, h⟩ (Le_can [(32, some 32), (33, some 33)] [] hρ (by kernel_rfl) ?_ ?_)
     ·simp only [AL, EV, seval]
     ·simp only [AL, EV, seval]
    ·rintro S ⟨_, _, h⟩; rw [s_EqualTableau_l1] at h; cases h
    ·rintro n1 S ⟨v3, rfl, h⟩; rw [s_EqualTableau_l1] at h; refine AW_seq ?_; refine AR hN fun K hK => ?_; simp only [EV, seval]; refine hK _ _ _ ?_; clear hK K; refine AB h (fun hc7 h => ?_) fun hc7 h => ?_
     ·refine AW_skip (AK ?_); refine AW_seq ?_; refine AW_block ?_; refine AR hN fun K hK => ?_; obtain ⟨q5, h9, h⟩ := bO_inv h; obtain ⟨⟨h10a, h10b⟩, h10c⟩ := geti_E EIIIIl h9; (try simp only [EV, seval] at h10c); obtain ⟨q6, h11, h⟩ := bO_inv h; obtain ⟨⟨h12a, h12b⟩, h12c⟩ := geti_E EIIIIl h11; (try simp only [EV, seval] at h12c); simp only [EV, seval, h10a, h10b, h10c, h12a, h12b, h12c]; refine hK _ _ _ ?_; clear hK K; refine AW_condK (a := .bool (!((q5.1 == q6.1) && ((q5.2.1 == q6.2.1) && ((q5.2.2.1 == q6.2.2.1) && (q5.2.2.2 == q6.2.2.2)))))) (by simp only [EV, seval, h10a, h10b, h10c, h12a, h12b, h12c]) (brK h (fun hc8 h => ?_) (fun hc8 h => ?_))
      ·refine AR hN fun K hK => ?_; simp only [EV, seval]; refine hK _ _ _ ?_; clear hK K; injection h with h; subst h; exact AX (b' := 64) [(4, .bool false)] [] [] [] hρ (EQ [] (by simp only [EV, Try.results17, seval]))
      ·refine AW_skip (AK ?_); refine AS hN fun K hK => ?_; simp only [EV, seval]; exact hK _ _ _ (AC ⟨_, rfl, h⟩ [(32, some 32), (33, some 33)] [] hρ)
     ·refine AW_exit (show cutK _ _ _ from cutL ⟨rfl, h⟩ (Le_can [] [] hρ (by kernel_rfl) ?_ ?_))
      ·simp only [AL, EV, seval]
      ·simp only [AL, EV, seval]
   ·rintro S ⟨rfl, h⟩; unfold s_EqualTableau_j2 at h; refine AR hN fun K hK => ?_; simp only [EV, seval]; refine hK _ _ _ ?_; clear hK K; injection h with h; subst h; exact AX (b' := 64) [(4, .bool true)] [] [] [] hρ (EQ [] (by simp only [EV, Try.results17, seval]))
/- impl.same[impl.Pauli] -/
def i_same_impl_Pauli__j1 : Option Bool :=
  some true
def i_same_impl_Pauli__l1 (a1 : LQ) (a2 : LQ) : Nat → Int → Int → Option Bool
  | 0, _, _ => none
  | n1 + 1, v4, v5 =>
  br (decide (v5 < v4)) (bO (geti a1 v5) fun q5 => bO (geti a2 v5) fun q6 => br (!((q5.1 == q6.1) && ((q5.2.1 == q6.2.1) && ((q5.2.2.1 == q6.2.2.1) && (q5.2.2.2 == q6.2.2.2))))) (some false) ((i_same_impl_Pauli__l1 a1 a2 n1) v4 (IntKind.wrap .i64 (v5 + 1)))) (i_same_impl_Pauli__j1)
def i_same_impl_Pauli_ (a1 : LQ) (a2 : LQ) : Option Bool :=
  br (((a1.length : Int)) != ((a2.length : Int))) (some false) (i_same_impl_Pauli__l1 a1 a2 FU ((a1.length : Int)) 0)
theorem i_same_impl_Pauli__ok {a1 : LQ} {a2 : LQ} {r : Bool} (h : i_same_impl_Pauli_ a1 a2 = some r) :
    Spec Try.prog 53 [.sl (encL EIIII a1) a1.length, .sl (encL EIIII a2) a2.length] [] (.bool r) [] := by
 unfold i_same_impl_Pauli_ at h; refine SO Try.func53 rfl Try.ntmps53 fun C hN hρ => ?_; simp only [st0, tmps0, Nat.zero_add, Nat.reduceAdd]; refine AR hN fun K hK => ?_; simp only [EV, seval]; refine hK _ _ _ ?_; clear hK K; refine AW_seq ?_; refine AR hN fun K hK => ?_; simp only [EV, seval]; refine hK _ _ _ ?_; clear hK K; refine AB h (fun hc1 h => ?_) fun hc1 h => ?_
 ·refine AR hN fun K hK => ?_; simp only [EV, seval]; refine hK _ _ _ ?_; clear hK K; injection h with h; subst h; exact AX (b' := 64) [(4, .bool false)] [] [] [] hρ (EQ [] (by simp only [EV, Try.results53, seval]))
 ·refine AW_skip (AK ?_); refine AW_cutK (fun S => S = ⟨mkT [], mkR [], 64⟩ ∧ i_same_impl_Pauli__j1 = some r) ?_ ?_
  ·refine AR hN fun K hK => ?_; simp only [EV, seval]; refine hK _ _ _ ?_; clear hK K; refine AW_block ?_; refine AW_loopF (fun n S => ∃ (v4 : Int) (v5 : Int), S = ⟨mkT [(0, .sl (encL EIIII a1) a1.length), (1, .sl (encL EIIII a2) a2.length), (12, .int .i64 v4), (13, .int .i64 v5)], mkR [], 64⟩ ∧ i_same_impl_Pauli__l1 a1 a2 n v4 v5 = some r) FU ?_ ?_ ?_
   ·refine cutL ⟨_, _, rfl, h⟩ (Le_can [] [] hρ (by kernel_rfl) ?_ ?_)
    ·simp only [AL, EV, seval]
    ·simp only [AL, EV, seval]
   ·rintro S ⟨_, _, _, h⟩; rw [i_same_impl_Pauli__l1] at h; cases h
   ·rintro n1 S ⟨v4, v5, rfl, h⟩; rw [i_same_impl_Pauli__l1] at h; refine AR hN fun K hK => ?_; simp only [EV, seval]; refine hK _ _ _ ?_; clear hK K; refine AW_seq ?_; refine AB h (fun hc6 h => ?_) fun hc6 h => ?_
    ·refine AW_skip (AK ?_); refine AW_seq ?_; refine AW_block ?_; refine AR hN fun K hK => ?_; simp only [EV, seval]; refine hK _ _ _ ?_; clear hK K; refine AR hN fun K hK => ?_; obtain ⟨q5, h9, h⟩ := bO_inv h; obtain ⟨⟨h10a, h10b⟩, h10c⟩ := geti_E EIIIIl h9; (try simp only [EV, seval] at h10c); obtain ⟨q6, h11, h⟩ := bO_inv h; obtain ⟨⟨h12a, h12b⟩, h12c⟩ := geti_E EIIIIl h11; (try simp only [EV, seval] at h12c); simp only [EV, seval, h10a, h10b, h10c, h12a, h12b, h12c]; refine hK _ _ _ ?_; clear hK K; refine AW_condK (a := .bool (!((q5.1 == q6.1) && ((q5.2.1 == q6.2.1) && ((q5.2.2.1 == q6.2.2.1) && (q5.2.2.2 == q6.2.2.2)))))) (by simp only [EV, seval, h10a, h10b, h10c, h12a, h12b, h12c]) (brK h (fun hc7 h => ?_) (fun hc7 h => ?_))
     ·refine AR hN fun K hK => ?_; simp only [EV, seval]; refine hK _ _ _ ?_; clear hK K; injection h with h; subst h; exact AX (b' := 64) [(4, .bool false)] [] [] [] hρ (EQ [] (by simp only [EV, Try.results53, seval]))
     ·refine AW_skip (AK ?_); refine AS hN fun K hK => ?_; simp only [EV, seval]; exact hK _ _ _ (AC ⟨_, _, rfl, h⟩ [] [] hρ)
    ·refine AW_exit (show cutK _ _ _ from cutL ⟨rfl, h⟩ (Le_can [] [] hρ (by kernel_rfl) ?_ ?_))
     ·simp only [AL, EV, seval]
     ·simp only [AL, EV, seval]
  ·rintro S ⟨rfl, h⟩; unfold i_same_impl_Pauli__j1 at h; refine AR hN fun K hK => ?_; simp only [EV, seval]; refine hK _ _ _ ?_; clear hK K; injection h with h; subst h; exact AX (b' := 64) [(4, .bool true)] [] [] [] hρ (EQ [] (by simp only [EV, Try.results53, seval]))
/- impl.EqualTableau -/
def i_EqualTableau_j1 (v1 : Bool) : Option Bool :=
  some v1
def i_EqualTableau (a1 : Int) (a2 : LQ) (a3 : Int) (a4 : LQ) : Option Bool :=
  bO (br (a1 == a3) (bO (i_same_impl_Pauli_ a2 a4) fun x1 => some x1) (some false)) fun x2 => i_EqualTableau_j1 x2
theorem i_EqualTableau_ok {a1 : Int} {a2 : LQ} {a3 : Int} {a4 : LQ} {r : Bool} (h : i_EqualTableau a1 a2 a3 a4 = some r) :
    Spec Try.prog 18 [.agg [.int .i64 a1, .sl (encL EIIII a2) a2.length], .agg [.int .i64 a3, .sl (encL EIIII a4) a4.length]] [] (.bool r) [] := by
 unfold i_EqualTableau at h; refine SO Try.func18 rfl Try.ntmps18 fun C hN hρ => ?_; simp only [st0, tmps0, Nat.zero_add, Nat.reduceAdd]; refine AR hN fun K hK => ?_; simp only [EV, seval]; refine hK _ _ _ ?_; clear hK K; refine AJ (fun S => ∃ (v1 : Bool), S = ⟨mkT [(4, .bool v1)], mkR [], 64⟩ ∧ i_EqualTableau_j1 v1 = some r) hN ?_ ?_
 ·intro K hK; obtain ⟨x2, hv1, h⟩ := bO_inv h; rcases br_inv hv1 with ⟨hc1, hv1⟩ | ⟨hc1, hv1⟩
  ·obtain ⟨x3, h2, hv1⟩ := bO_inv hv1; simp only [EV, seval, hc1]; refine rC_p (i_same_impl_Pauli__ok h2) (by simp only [AL, EV, seval, hc1]) (le_d rfl) (no_j rfl) ?_; cases hv1; simp only [EV, seval, hc1]; refine hK _ _ _ (show cutK _ _ _ from cutL ⟨_, rfl, h⟩ (Le_can [] [] hρ (by kernel_rfl) ?_ ?_))
   ·simp only [AL, EV, seval, hc1]
   ·simp only [AL, EV, seval, hc1]
  ·cases hv1; simp only [EV, seval, hc1]; refine hK _ _ _ (show cutK _ _ _ from cutL ⟨_, rfl, h⟩ (Le_can [] [] hρ (by kernel_rfl) ?_ ?_))
   ·simp only [AL, EV, seval, hc1]
   ·simp only [AL, EV, seval, hc1]
 ·rintro S ⟨v1, rfl, h⟩; unfold i_EqualTableau_j1 at h; injection h with h; subst h; exact AX (b' := 64) [(4, .bool v1)] [] [] [] hρ (EQ [] (by simp only [EV, Try.results18, seval]))
end Go.Proofs.Ytplbdmigbakmlaa
