/- Joined texts: Mu Mn Mnw Mv Mo. -/
import Derived.Test.YtfjopjalhllplaaGreatK1
import Derived.Test.YtfjopjalhllplaaGreatK3
import Derived.Test.YtfjopjalhllplaaGreatK2
/- Models of functions, and that the functions do what the models say; printed by a program. -/
namespace Go.Proofs.YtfjopjalhllplaaGreat
open Go.RowKit
set_option maxRecDepth 100000
set_option linter.unusedVariables false
set_option linter.unusedSimpArgs false
set_option linter.defProp false
set_option maxHeartbeats 4000000
/- spec.l14One -/
def s_l14One (a1 a2 : Int) : Option (Int × Int × Int × Int) :=
  some (a1, a2, 0, 0)
theorem s_l14One_ok {a1 a2 : Int} {r : Int × Int × Int × Int} (h : s_l14One a1 a2 = some r) :
    Spec Tryz.prog 79 [.int .i64 a1, .int .i64 a2] [] (.agg [.int .i64 r.1, .int .i64 r.2.1, .int .i64 r.2.2.1, .int .i64 r.2.2.2]) [] := by
 unfold s_l14One at h; refine SO Tryz.func79 rfl Tryz.ntmps79 fun C hN hρ => ?_; simp only [st0, tmps0, Nat.zero_add, Nat.reduceAdd]; refine AN hN ?_; refine AN hN ?_; injection h with h; subst h; exact AX (b' := 64) [(4, .ptr 32 0)] [(32, .box 48 [.int .i64 a1, .int .i64 a2, .int .i64 0, .int .i64 0])] [(32, some 64)] [] hρ (EQ [])
/- impl.one -/
def i_one (a1 a2 : Int) : Option (Int × Int × Int × Int) :=
  some (a1, a2, 0, 0)
theorem i_one_ok {a1 a2 : Int} {r : Int × Int × Int × Int} (h : i_one a1 a2 = some r) :
    Spec Tryz.prog 76 [.int .i64 a1, .int .i64 a2] [] (.agg [.int .i64 r.1, .int .i64 r.2.1, .int .i64 r.2.2.1, .int .i64 r.2.2.2]) [] := by
 unfold i_one at h; refine SO Tryz.func76 rfl Tryz.ntmps76 fun C hN hρ => ?_; simp only [st0, tmps0, Nat.zero_add, Nat.reduceAdd]; refine AN hN ?_; refine AN hN ?_; injection h with h; subst h; exact AX (b' := 64) [(4, .ptr 32 0)] [(32, .box 48 [.int .i64 a1, .int .i64 a2, .int .i64 0, .int .i64 0])] [(32, some 64)] [] hρ (EQ [])
/- laws.big -/
def l_big (a1 : List Int) : Option Bool :=
  some (decide (1048576 < ((a1.length : Int))))
theorem l_big_ok {a1 : List Int} {r : Bool} (h : l_big a1 = some r) :
    Spec Tryz.prog 6 [.sl (encL EB a1) a1.length] [] (.bool r) [] := by
 unfold l_big at h; refine SO Tryz.func6 rfl Tryz.ntmps6 fun C hN hρ => ?_; simp only [st0, tmps0, Nat.zero_add, Nat.reduceAdd]; refine AN hN ?_; refine AN hN ?_; injection h with h; subst h; exact AX (b' := 64) [(2, .bool (decide (1048576 < ((a1.length : Int)))))] [] [] [] hρ (EQ [])
/- spec.EqualTableau -/
def s_EqualTableau_j2 : Option Bool :=
  some true
def s_EqualTableau_l1 (a2 : LQ) (a4 : LQ) : Nat → Int → Option Bool
  | 0, _ => none
  | n1 + 1, v3 =>
  br (decide (v3 < ((a2.length : Int)))) (bO (geti a2 v3) fun q5 => bO (geti a4 v3) fun q6 => br (!((q5.1 == q6.1) && ((q5.2.1 == q6.2.1) && ((q5.2.2.1 == q6.2.2.1) && (q5.2.2.2 == q6.2.2.2))))) (some false) ((s_EqualTableau_l1 a2 a4 n1) (IntKind.wrap .i64 (v3 + 1)))) (s_EqualTableau_j2)
def s_EqualTableau_j1 (a2 : LQ) (a4 : LQ) (v1 : Bool) : Option Bool :=
  br v1 (some false) (s_EqualTableau_l1 a2 a4 FU 0)
def s_EqualTableau (a1 : Int) (a2 : LQ) (a3 : Int) (a4 : LQ) : Option Bool :=
  bO (br (a1 != a3) (some true) (some (((a2.length : Int)) != ((a4.length : Int))))) fun x1 => s_EqualTableau_j1 a2 a4 x1
theorem s_EqualTableau_ok {a1 : Int} {a2 : LQ} {a3 : Int} {a4 : LQ} {r : Bool} (h : s_EqualTableau a1 a2 a3 a4 = some r) :
    Spec Tryz.prog 207 [.agg [.int .i64 a1, .sl (encL EIIII a2) a2.length], .agg [.int .i64 a3, .sl (encL EIIII a4) a4.length]] [] (.bool r) [] := by
 unfold s_EqualTableau at h; refine SO Tryz.func207 rfl Tryz.ntmps207 fun C hN hρ => ?_; simp only [st0, tmps0, Nat.zero_add, Nat.reduceAdd]; refine AN hN ?_; refine AW_seq ?_; refine AJ (fun S => ∃ (v1 : Bool), S = ⟨mkT [(2, .ptr 32 0), (3, .ptr 33 0), (19, .bool v1)], mkR [(32, .box 116 [.int .i64 a1, .sl (encL EIIII a2) a2.length]), (33, .box 116 [.int .i64 a3, .sl (encL EIIII a4) a4.length])], 64⟩ ∧ s_EqualTableau_j1 a2 a4 v1 = some r) hN ?_ ?_
 ·intro K hK; obtain ⟨x1, hv1, h⟩ := bO_inv h; rcases br_inv hv1 with ⟨hc1, hv1⟩ | ⟨hc1, hv1⟩
  ·cases hv1; simp only [EV, seval, hc1]; refine hK _ _ _ (show cutK _ _ _ from cutL ⟨_, rfl, h⟩ (Le_can [(32, some 64), (33, some 80)] [] hρ (by kernel_rfl) ?_ ?_))
   ·simp only [AL, EV, seval, hc1]
   ·simp only [AL, EV, seval, hc1]
  ·cases hv1; simp only [EV, seval, hc1]; refine hK _ _ _ (show cutK _ _ _ from cutL ⟨_, rfl, h⟩ (Le_can [(32, some 64), (33, some 80)] [] hρ (by kernel_rfl) ?_ ?_))
   ·simp only [AL, EV, seval, hc1]
   ·simp only [AL, EV, seval, hc1]
 ·rintro S ⟨v1, rfl, h⟩; unfold s_EqualTableau_j1 at h; refine AB h (fun hc2 h => ?_) fun hc2 h => ?_
  ·refine AN hN ?_; injection h with h; subst h; exact AX (b' := 64) [(4, .bool false)] [] [] [] hρ (EQ [])
  ·refine AW_skip (AK ?_); refine AW_cutK (fun S => S = ⟨mkT [], mkR [], 64⟩ ∧ s_EqualTableau_j2 = some r) ?_ ?_
   ·refine AN hN ?_; refine AW_block ?_; refine AW_loopF (fun n S => ∃ (v3 : Int), S = ⟨mkT [(2, .ptr 32 0), (3, .ptr 33 0), (5, .int .i64 v3)], mkR [(32, .box 116 [.int .i64 a1, .sl (encL EIIII a2) a2.length]), (33, .box 116 [.int .i64 a3, .sl (encL EIIII a4) a4.length])], 64⟩ ∧ s_EqualTableau_l1 a2 a4 n v3 = some r) FU ?_ ?_ ?_
    ·exact AC ⟨_, rfl, h⟩ [(32, some 32), (33, some 33)] [] hρ
    ·rintro S ⟨_, _, h⟩; rw [s_EqualTableau_l1] at h; cases h
    ·rintro n1 S ⟨v3, rfl, h⟩; rw [s_EqualTableau_l1] at h; refine AW_seq ?_; refine AN hN ?_; refine AB h (fun hc7 h => ?_) fun hc7 h => ?_
     ·refine AW_skip (AK ?_); refine AW_seq ?_; refine AW_block ?_; refine AR hN fun K hK => ?_; obtain ⟨q5, h9, h⟩ := bO_inv h; obtain ⟨⟨h10a, h10b⟩, h10c⟩ := geti_E EIIIIl h9; (try simp only [EV, seval] at h10c); obtain ⟨q6, h11, h⟩ := bO_inv h; obtain ⟨⟨h12a, h12b⟩, h12c⟩ := geti_E EIIIIl h11; (try simp only [EV, seval] at h12c); simp only [EV, seval, h10a, h10b, h10c, h12a, h12b, h12c]; refine hK _ _ _ ?_; clear hK K; refine AW_condK (a := .bool (!((q5.1 == q6.1) && ((q5.2.1 == q6.2.1) && ((q5.2.2.1 == q6.2.2.1) && (q5.2.2.2 == q6.2.2.2)))))) (by simp only [EV, seval, h10a, h10b, h10c, h12a, h12b, h12c]) (brK h (fun hc8 h => ?_) (fun hc8 h => ?_))
      ·refine AN hN ?_; injection h with h; subst h; exact AX (b' := 64) [(4, .bool false)] [] [] [] hρ (EQ [])
      ·refine AW_skip (AK ?_); refine AS hN fun K hK => ?_; simp only [EV, seval]; exact hK _ _ _ (AC ⟨_, rfl, h⟩ [(32, some 32), (33, some 33)] [] hρ)
     ·exact AW_exit (AC ⟨rfl, h⟩ [] [] hρ)
   ·rintro S ⟨rfl, h⟩; unfold s_EqualTableau_j2 at h; refine AN hN ?_; injection h with h; subst h; exact AX (b' := 64) [(4, .bool true)] [] [] [] hρ (EQ [])
/- impl.same[impl.Pauli] -/
def i_same_impl_Pauli__j1 : Option Bool :=
  some true
def i_same_impl_Pauli__l1 (a1 : LQ) (a2 : LQ) : Nat → Int → Int → Option Bool
  | 0, _, _ => none
  | n1 + 1, v4, v5 =>
  br (decide (v5 < v4)) (bO (geti a1 v5) fun q5 => bO (geti a2 v5) fun q6 => br (!((q5.1 == q6.1) && ((q5.2.1 == q6.2.1) && ((q5.2.2.1 == q6.2.2.1) && (q5.2.2.2 == q6.2.2.2))))) (some false) ((i_same_impl_Pauli__l1 a1 a2 n1) v4 (IntKind.wrap .i64 (v5 + 1)))) (i_same_impl_Pauli__j1)
def i_same_impl_Pauli_ (a1 : LQ) (a2 : LQ) : Option Bool :=
  br (((a1.length : Int)) != ((a2.length : Int))) (some false) (i_same_impl_Pauli__l1 a1 a2 FU ((a1.length : Int)) 0)
theorem i_same_impl_Pauli__ok {a1 : LQ} {a2 : LQ} {r : Bool} (h : i_same_impl_Pauli_ a1 a2 = some r) :
    Spec Tryz.prog 197 [.sl (encL EIIII a1) a1.length, .sl (encL EIIII a2) a2.length] [] (.bool r) [] := by
 unfold i_same_impl_Pauli_ at h; refine SO Tryz.func197 rfl Tryz.ntmps197 fun C hN hρ => ?_; simp only [st0, tmps0, Nat.zero_add, Nat.reduceAdd]; refine AN hN ?_; refine AW_seq ?_; refine AN hN ?_; refine AB h (fun hc1 h => ?_) fun hc1 h => ?_
 ·refine AN hN ?_; injection h with h; subst h; exact AX (b' := 64) [(4, .bool false)] [] [] [] hρ (EQ [])
 ·refine AW_skip (AK ?_); refine AW_cutK (fun S => S = ⟨mkT [], mkR [], 64⟩ ∧ i_same_impl_Pauli__j1 = some r) ?_ ?_
  ·refine AN hN ?_; refine AW_block ?_; refine AW_loopF (fun n S => ∃ (v4 v5 : Int), S = ⟨mkT [(0, .sl (encL EIIII a1) a1.length), (1, .sl (encL EIIII a2) a2.length), (12, .int .i64 v4), (13, .int .i64 v5)], mkR [], 64⟩ ∧ i_same_impl_Pauli__l1 a1 a2 n v4 v5 = some r) FU ?_ ?_ ?_
   ·exact AC ⟨_, _, rfl, h⟩ [] [] hρ
   ·rintro S ⟨_, _, _, h⟩; rw [i_same_impl_Pauli__l1] at h; cases h
   ·rintro n1 S ⟨v4, v5, rfl, h⟩; rw [i_same_impl_Pauli__l1] at h; refine AN hN ?_; refine AW_seq ?_; refine AB h (fun hc6 h => ?_) fun hc6 h => ?_
    ·refine AW_skip (AK ?_); refine AW_seq ?_; refine AW_block ?_; refine AN hN ?_; refine AR hN fun K hK => ?_; obtain ⟨q5, h9, h⟩ := bO_inv h; obtain ⟨⟨h10a, h10b⟩, h10c⟩ := geti_E EIIIIl h9; (try simp only [EV, seval] at h10c); obtain ⟨q6, h11, h⟩ := bO_inv h; obtain ⟨⟨h12a, h12b⟩, h12c⟩ := geti_E EIIIIl h11; (try simp only [EV, seval] at h12c); simp only [EV, seval, h10a, h10b, h10c, h12a, h12b, h12c]; refine hK _ _ _ ?_; clear hK K; refine AW_condK (a := .bool (!((q5.1 == q6.1) && ((q5.2.1 == q6.2.1) && ((q5.2.2.1 == q6.2.2.1) && (q5.2.2.2 == q6.2.2.2)))))) (by simp only [EV, seval, h10a, h10b, h10c, h12a, h12b, h12c]) (brK h (fun hc7 h => ?_) (fun hc7 h => ?_))
     ·refine AN hN ?_; injection h with h; subst h; exact AX (b' := 64) [(4, .bool false)] [] [] [] hρ (EQ [])
     ·refine AW_skip (AK ?_); refine AS hN fun K hK => ?_; simp only [EV, seval]; exact hK _ _ _ (AC ⟨_, _, rfl, h⟩ [] [] hρ)
    ·exact AW_exit (AC ⟨rfl, h⟩ [] [] hρ)
  ·rintro S ⟨rfl, h⟩; unfold i_same_impl_Pauli__j1 at h; refine AN hN ?_; injection h with h; subst h; exact AX (b' := 64) [(4, .bool true)] [] [] [] hρ (EQ [])
/- impl.EqualTableau -/
def i_EqualTableau_j1 (v1 : Bool) : Option Bool :=
  some v1
def i_EqualTableau (a1 : Int) (a2 : LQ) (a3 : Int) (a4 : LQ) : Option Bool :=
  bO (br (a1 == a3) (bO (i_same_impl_Pauli_ a2 a4) fun x1 => some x1) (some false)) fun x2 => i_EqualTableau_j1 x2
theorem i_EqualTableau_ok {a1 : Int} {a2 : LQ} {a3 : Int} {a4 : LQ} {r : Bool} (h : i_EqualTableau a1 a2 a3 a4 = some r) :
    Spec Tryz.prog 154 [.agg [.int .i64 a1, .sl (encL EIIII a2) a2.length], .agg [.int .i64 a3, .sl (encL EIIII a4) a4.length]] [] (.bool r) [] := by
 unfold i_EqualTableau at h; refine SO Tryz.func154 rfl Tryz.ntmps154 fun C hN hρ => ?_; simp only [st0, tmps0, Nat.zero_add, Nat.reduceAdd]; refine AN hN ?_; refine AJ (fun S => ∃ (v1 : Bool), S = ⟨mkT [(4, .bool v1)], mkR [], 64⟩ ∧ i_EqualTableau_j1 v1 = some r) hN ?_ ?_
 ·intro K hK; obtain ⟨x2, hv1, h⟩ := bO_inv h; rcases br_inv hv1 with ⟨hc1, hv1⟩ | ⟨hc1, hv1⟩
  ·obtain ⟨x3, h2, hv1⟩ := bO_inv hv1; simp only [EV, seval, hc1]; refine rC_p (i_same_impl_Pauli__ok h2) (by simp only [AL, EV, seval, hc1]) (le_d rfl) (no_j rfl) ?_; cases hv1; simp only [EV, seval, hc1]; refine hK _ _ _ (show cutK _ _ _ from cutL ⟨_, rfl, h⟩ (Le_can [] [] hρ (by kernel_rfl) ?_ ?_))
   ·simp only [AL, EV, seval, hc1]
   ·simp only [AL, EV, seval, hc1]
  ·cases hv1; simp only [EV, seval, hc1]; refine hK _ _ _ (show cutK _ _ _ from cutL ⟨_, rfl, h⟩ (Le_can [] [] hρ (by kernel_rfl) ?_ ?_))
   ·simp only [AL, EV, seval, hc1]
   ·simp only [AL, EV, seval, hc1]
 ·rintro S ⟨v1, rfl, h⟩; unfold i_EqualTableau_j1 at h; injection h with h; subst h; exact AX (b' := 64) [(4, .bool v1)] [] [] [] hρ (EQ [])
/- impl.InverseGate -/
def i_InverseGate_j1 (a2 a3 a4 v1 : Int) : Option (Int × Int × Int × Int) :=
  some (v1, a2, a3, a4)
def i_InverseGate (a1 a2 a3 a4 : Int) : Option (Int × Int × Int × Int) :=
  br (a1 == 5) (i_InverseGate_j1 a2 a3 a4 6) (br (a1 == 6) (i_InverseGate_j1 a2 a3 a4 5) (br (a1 == 7) (i_InverseGate_j1 a2 a3 a4 8) (br (a1 == 8) (i_InverseGate_j1 a2 a3 a4 7) (i_InverseGate_j1 a2 a3 a4 a1))))
theorem i_InverseGate_ok {a1 a2 a3 a4 : Int} {r : Int × Int × Int × Int} (h : i_InverseGate a1 a2 a3 a4 = some r) :
    Spec Tryz.prog 221 [.agg [.int .i64 a1, .int .i64 a2, .int .i64 a3, .int .i64 a4]] [] (.agg [.int .i64 r.1, .int .i64 r.2.1, .int .i64 r.2.2.1, .int .i64 r.2.2.2]) [] := by
 unfold i_InverseGate at h; refine SO Tryz.func221 rfl Tryz.ntmps221 fun C hN hρ => ?_; simp only [st0, tmps0, Nat.zero_add, Nat.reduceAdd]; refine AN hN ?_; refine AW_cutK (fun S => ∃ (v1 : Int), S = ⟨mkT [(1, .ptr 32 0), (2, .ptr 33 0)], mkR [(32, .box 48 [.int .i64 v1, .int .i64 a2, .int .i64 a3, .int .i64 a4]), (33, .box 48 [.int .i64 0, .int .i64 0, .int .i64 0, .int .i64 0])], 64⟩ ∧ i_InverseGate_j1 a2 a3 a4 v1 = some r) ?_ ?_
 ·refine AN hN ?_; refine AW_block ?_; refine AN hN ?_; refine AB h (fun hc1 h => ?_) fun hc1 h => ?_
  ·refine AS hN fun K hK => ?_; simp only [EV, seval]; exact hK _ _ _ (AC ⟨_, rfl, h⟩ [(32, some 64), (33, some 80)] [] hρ)
  ·refine AN hN ?_; refine AB h (fun hc2 h => ?_) fun hc2 h => ?_
   ·refine AS hN fun K hK => ?_; simp only [EV, seval]; exact hK _ _ _ (AC ⟨_, rfl, h⟩ [(32, some 64), (33, some 80)] [] hρ)
   ·refine AN hN ?_; refine AB h (fun hc3 h => ?_) fun hc3 h => ?_
    ·refine AS hN fun K hK => ?_; simp only [EV, seval]; exact hK _ _ _ (AC ⟨_, rfl, h⟩ [(32, some 64), (33, some 80)] [] hρ)
    ·refine AN hN ?_; refine AB h (fun hc4 h => ?_) fun hc4 h => ?_
     ·refine AS hN fun K hK => ?_; simp only [EV, seval]; exact hK _ _ _ (AC ⟨_, rfl, h⟩ [(32, some 64), (33, some 80)] [] hρ)
     ·refine AW_skip (show cutK _ _ _ from cutL ⟨_, rfl, h⟩ (Le_can [(32, some 64), (33, some 80)] [] hρ (by kernel_rfl) ?_ ?_))
      ·simp only [AL, EV, seval]
      ·simp only [AL, EV, seval]
 ·rintro S ⟨v1, rfl, h⟩; unfold i_InverseGate_j1 at h; refine AN hN ?_; injection h with h; subst h; exact AX (b' := 64) [(2, .ptr 32 0)] [(32, .box 48 [.int .i64 v1, .int .i64 a2, .int .i64 a3, .int .i64 a4])] [(32, some 33)] [] hρ (EQ [])
/- spec.InverseGate -/
def s_InverseGate_j1 (a2 a3 a4 v1 : Int) : Option (Int × Int × Int × Int) :=
  some (v1, a2, a3, a4)
def s_InverseGate (a1 a2 a3 a4 : Int) : Option (Int × Int × Int × Int) :=
  br (a1 == 5) (s_InverseGate_j1 a2 a3 a4 6) (br (a1 == 6) (s_InverseGate_j1 a2 a3 a4 5) (br (a1 == 7) (s_InverseGate_j1 a2 a3 a4 8) (br (a1 == 8) (s_InverseGate_j1 a2 a3 a4 7) (s_InverseGate_j1 a2 a3 a4 a1))))
theorem s_InverseGate_ok {a1 a2 a3 a4 : Int} {r : Int × Int × Int × Int} (h : s_InverseGate a1 a2 a3 a4 = some r) :
    Spec Tryz.prog 216 [.agg [.int .i64 a1, .int .i64 a2, .int .i64 a3, .int .i64 a4]] [] (.agg [.int .i64 r.1, .int .i64 r.2.1, .int .i64 r.2.2.1, .int .i64 r.2.2.2]) [] := by
 unfold s_InverseGate at h; refine SO Tryz.func216 rfl Tryz.ntmps216 fun C hN hρ => ?_; simp only [st0, tmps0, Nat.zero_add, Nat.reduceAdd]; refine AN hN ?_; refine AW_cutK (fun S => ∃ (v1 : Int), S = ⟨mkT [(1, .ptr 32 0), (2, .ptr 33 0)], mkR [(32, .box 48 [.int .i64 v1, .int .i64 a2, .int .i64 a3, .int .i64 a4]), (33, .box 48 [.int .i64 0, .int .i64 0, .int .i64 0, .int .i64 0])], 64⟩ ∧ s_InverseGate_j1 a2 a3 a4 v1 = some r) ?_ ?_
 ·refine AN hN ?_; refine AW_block ?_; refine AN hN ?_; refine AB h (fun hc1 h => ?_) fun hc1 h => ?_
  ·refine AS hN fun K hK => ?_; simp only [EV, seval]; exact hK _ _ _ (AC ⟨_, rfl, h⟩ [(32, some 64), (33, some 80)] [] hρ)
  ·refine AN hN ?_; refine AB h (fun hc2 h => ?_) fun hc2 h => ?_
   ·refine AS hN fun K hK => ?_; simp only [EV, seval]; exact hK _ _ _ (AC ⟨_, rfl, h⟩ [(32, some 64), (33, some 80)] [] hρ)
   ·refine AN hN ?_; refine AB h (fun hc3 h => ?_) fun hc3 h => ?_
    ·refine AS hN fun K hK => ?_; simp only [EV, seval]; exact hK _ _ _ (AC ⟨_, rfl, h⟩ [(32, some 64), (33, some 80)] [] hρ)
    ·refine AN hN ?_; refine AB h (fun hc4 h => ?_) fun hc4 h => ?_
     ·refine AS hN fun K hK => ?_; simp only [EV, seval]; exact hK _ _ _ (AC ⟨_, rfl, h⟩ [(32, some 64), (33, some 80)] [] hρ)
     ·refine AW_skip (show cutK _ _ _ from cutL ⟨_, rfl, h⟩ (Le_can [(32, some 64), (33, some 80)] [] hρ (by kernel_rfl) ?_ ?_))
      ·simp only [AL, EV, seval]
      ·simp only [AL, EV, seval]
 ·rintro S ⟨v1, rfl, h⟩; unfold s_InverseGate_j1 at h; refine AN hN ?_; injection h with h; subst h; exact AX (b' := 64) [(2, .ptr 32 0)] [(32, .box 48 [.int .i64 v1, .int .i64 a2, .int .i64 a3, .int .i64 a4])] [(32, some 33)] [] hρ (EQ [])
end Go.Proofs.YtfjopjalhllplaaGreat
/- Models of functions, and that the functions do what the models say; printed by a program. -/
namespace Go.Proofs.YtfjopjalhllplaaGreat
open Go.RowKit
set_option maxRecDepth 100000
set_option linter.unusedVariables false
set_option linter.unusedSimpArgs false
set_option linter.defProp false
set_option maxHeartbeats 4000000
/- impl.copyGates -/
def i_copyGates (a1 : LQ) : Option (LQ) :=
  gd (decide (([] : LQ).length + a1.length ≤ 16777216)) (some a1)
theorem i_copyGates_ok {a1 : LQ} {r : LQ} (h : i_copyGates a1 = some r) :
    Spec Tryz.prog 36 [.sl (encL EIIII a1) a1.length] [] (.own 0 r.length) [.row 48 4 (encL EIIII r)] := by
 unfold i_copyGates at h; refine SO Tryz.func36 rfl Tryz.ntmps36 fun C hN hρ => ?_; simp only [st0, tmps0, Nat.zero_add, Nat.reduceAdd]; refine AN hN ?_; refine AR hN fun K hK => ?_; obtain ⟨h1, h⟩ := gd_inv h; replace h1 := of_decide_eq_true h1; (try simp only [EV, seval] at h1); have h2 := encL_len EIIIIl a1; simp only [EV, seval, h1, h2]; refine hK _ _ _ ?_; clear hK K; injection h with h; subst h; refine AW_le (Le_can (lt := [(2, .own 32 a1.length)]) (lr := [(32, .row 48 4 (encL EIIII a1))]) (b' := 64) [(32, some 1120)] [] hρ (by kernel_rfl) ?_ ?_) (AW_ret (end_q [32] (.inr rfl) (by kernel_rfl) (by kernel_rfl) ?_))
 ·simp only [AL, EV, seval, h1, h2]
 ·simp only [AL, EV, seval, h1, h2]
 ·simp only [EV, Tryz.results36, seval]
/- impl.AllCliffordWords -/
def i_AllCliffordWords_j21 (v108 : Int) (kl12 : Int → (List (LQ)) → (List (Int × LQ)) → Option (List (LQ))) (v119 : List (LQ)) (v120 : List (Int × LQ)) : Option (List (LQ)) :=
  kl12 (IntKind.wrap .i64 (v108 + 1)) v119 v120
def i_AllCliffordWords_j22 (v82 v108 : Int) (v109 : List (LQ)) (v110 : List (Int × LQ)) (kl12 : Int → (List (LQ)) → (List (Int × LQ)) → Option (List (LQ))) (x75 : Int × LQ × Bool) (v118 : Bool) : Option (List (LQ)) :=
  br (!v118) (bO (geti v109 v82) fun q42 => bO (i_copyGates q42) fun x82 => bO (i_one v108 0) fun x83 => gd (decide (x82.length + ([(x83.1, x83.2.1, x83.2.2.1, x83.2.2.2)]).length ≤ 16777216)) (gd (decide (v109.length + ([x82 ++ ([(x83.1, x83.2.1, x83.2.2.1, x83.2.2.2)])]).length ≤ 16777216)) (gd (decide (v110.length + ([(x75.1, x75.2.1)]).length ≤ 16777216)) (i_AllCliffordWords_j21 v108 kl12 (v109 ++ ([x82 ++ ([(x83.1, x83.2.1, x83.2.2.1, x83.2.2.2)])])) (v110 ++ ([(x75.1, x75.2.1)])))))) (i_AllCliffordWords_j21 v108 kl12 v109 v110)
def i_AllCliffordWords_l13 (v82 v108 : Int) (v109 : List (LQ)) (v110 : List (Int × LQ)) (kl12 : Int → (List (LQ)) → (List (Int × LQ)) → Option (List (LQ))) (x75 : Int × LQ × Bool) : Nat → Bool → Int → Int → Option (List (LQ))
  | 0, _, _, _ => none
  | n13 + 1, v115, v116, v117 =>
  br (decide (v117 < v116)) (bO (geti v110 v117) fun q41 => bO (br v115 (some true) (bO (i_EqualTableau q41.1 q41.2 x75.1 x75.2.1) fun x79 => some x79)) fun x80 => (i_AllCliffordWords_l13 v82 v108 v109 v110 kl12 x75 n13) x80 v116 (IntKind.wrap .i64 (v117 + 1))) (i_AllCliffordWords_j22 v82 v108 v109 v110 kl12 x75 v115)
def i_AllCliffordWords_j16 (v82 : Int) (kl9 : Int → (List (LQ)) → (List (Int × LQ)) → Option (List (LQ))) (v121 : List (LQ)) (v122 : List (Int × LQ)) : Option (List (LQ)) :=
  kl9 (IntKind.wrap .i64 (v82 + 1)) v121 v122
def i_AllCliffordWords_l10 (v82 : Int) (kl9 : Int → (List (LQ)) → (List (Int × LQ)) → Option (List (LQ))) : Nat → Int → (List (LQ)) → (List (Int × LQ)) → Option (List (LQ))
  | 0, _, _, _ => none
  | n12 + 1, v108, v109, v110 =>
  br (decide (v108 ≤ 6)) (bO (geti v110 v82) fun q38 => bO (i_one v108 0) fun x74 => bO (i_TableauApplyGate q38.1 q38.2 x74.1 x74.2.1 x74.2.2.1 x74.2.2.2) fun x75 => i_AllCliffordWords_l13 v82 v108 v109 v110 (i_AllCliffordWords_l10 v82 kl9 n12) x75 FU false ((v110.length : Int)) 0) (i_AllCliffordWords_j16 v82 kl9 v109 v110)
def i_AllCliffordWords_j1 (v123 : List (LQ)) : Option (List (LQ)) :=
  some v123
def i_AllCliffordWords_l1 : Nat → Int → (List (LQ)) → (List (Int × LQ)) → Option (List (LQ))
  | 0, _, _, _ => none
  | n9 + 1, v82, v83, v84 =>
  br (decide (v82 < ((v83.length : Int)))) (i_AllCliffordWords_l10 v82 (i_AllCliffordWords_l1 n9) FU 1 v83 v84) (i_AllCliffordWords_j1 v83)
def i_AllCliffordWords : Option (List (LQ)) :=
  bO (i_IdentityTableau 1) fun x1 => i_AllCliffordWords_l1 FU 0 ([[]]) ([(x1.1, x1.2)])
theorem i_AllCliffordWords_ok {r : List (LQ)} (h : i_AllCliffordWords = some r) :
    Spec Tryz.prog 152 [] [] (.own 0 r.length) [.row 40 1 (encL ELIIIIE r)] := by
 unfold i_AllCliffordWords at h; refine SO Tryz.func152 rfl Tryz.ntmps152 fun C hN hρ => ?_; simp only [st0, tmps0, Nat.zero_add, Nat.reduceAdd]; refine AN hN ?_; refine AW_rs (BR := (BRx BR [1001088])) FM (by rw [hN]; kernel_rfl) (by kernel_rfl) ?_; intro K hK; simp only [EV, seval]; refine hK _ _ _ ?_; clear hK K; refine AR hN fun K hK => ?_; obtain ⟨x1, h1, h⟩ := bO_inv h; simp only [EV, seval]; refine rC_p (Spec.can (ret2 := .agg [.int .i64 x1.1, .sl (encL EIIII x1.2) x1.2.length]) (mem2 := []) (i_IdentityTableau_ok h1) [] [0] (by kernel_rfl) (by simp only [AL, EV, seval]) (by simp only [AL, EV, seval])) (by simp only [AL, EV, seval]) (le_d rfl) (no_j rfl) ?_; simp only [EV, seval]; refine hK _ _ _ ?_; clear hK K; refine AW_cutK (fun S => ∃ (v123 : List (LQ)), S = ⟨mkT [(1, .own 32 v123.length)], mkR [(32, .row 40 1 (encL ELIIIIE v123))], 64⟩ ∧ i_AllCliffordWords_j1 v123 = some r) ?_ ?_
 ·refine AN hN ?_; refine AW_block ?_; refine AW_loopF (fun n S => ∃ (v82 : Int) (v83 : List (LQ)) (v84 : List (Int × LQ)), S = ⟨mkT [(1, .own 32 v83.length), (2, .own 33 v84.length), (3, .int .i64 v82)], mkR [(32, .row 40 1 (encL ELIIIIE v83)), (33, .row 116 2 (encL EILIIIIE v84))], 64⟩ ∧ i_AllCliffordWords_l1 n v82 v83 v84 = some r) FU ?_ ?_ ?_
  ·exact AC ⟨_, _, _, rfl, h⟩ [(32, some 1104), (33, some 2128)] [] hρ
  ·rintro S ⟨_, _, _, _, h⟩; rw [i_AllCliffordWords_l1] at h; cases h
  ·rintro n9 S ⟨v82, v83, v84, rfl, h⟩; rw [i_AllCliffordWords_l1] at h; refine AW_seq ?_; refine AN hN ?_; refine AB h (fun hc45 h => ?_) fun hc45 h => ?_
   ·refine AW_skip (AK ?_); refine AW_cutK (fun S => ∃ (v121 : List (LQ)) (v122 : List (Int × LQ)), S = ⟨mkT [(1, .own 32 v121.length), (2, .own 33 v122.length), (3, .int .i64 v82)], mkR [(32, .row 40 1 (encL ELIIIIE v121)), (33, .row 116 2 (encL EILIIIIE v122))], 64⟩ ∧ i_AllCliffordWords_j16 v82 (i_AllCliffordWords_l1 n9) v121 v122 = some r) ?_ ?_
    ·refine AW_block ?_; refine AN hN ?_; refine AW_block ?_; refine AW_loopF (fun n S => ∃ (v108 : Int) (v109 : List (LQ)) (v110 : List (Int × LQ)), S = ⟨mkT [(1, .own 32 v109.length), (2, .own 33 v110.length), (3, .int .i64 v82), (4, .int .i64 v108)], mkR [(32, .row 40 1 (encL ELIIIIE v109)), (33, .row 116 2 (encL EILIIIIE v110))], 64⟩ ∧ i_AllCliffordWords_l10 v82 (i_AllCliffordWords_l1 n9) n v108 v109 v110 = some r) FU ?_ ?_ ?_
     ·exact AC ⟨_, _, _, rfl, h⟩ [(32, some 32), (33, some 33)] [] hρ
     ·rintro S ⟨_, _, _, _, h⟩; rw [i_AllCliffordWords_l10] at h; cases h
     ·rintro n12 S ⟨v108, v109, v110, rfl, h⟩; rw [i_AllCliffordWords_l10] at h; refine AW_seq ?_; refine AN hN ?_; refine AB h (fun hc60 h => ?_) fun hc60 h => ?_
      ·refine AW_skip (AK ?_); refine AW_cutK (fun S => ∃ (v119 : List (LQ)) (v120 : List (Int × LQ)), S = ⟨mkT [(1, .own 32 v119.length), (2, .own 33 v120.length), (3, .int .i64 v82), (4, .int .i64 v108)], mkR [(32, .row 40 1 (encL ELIIIIE v119)), (33, .row 116 2 (encL EILIIIIE v120))], 64⟩ ∧ i_AllCliffordWords_j21 v108 (i_AllCliffordWords_l10 v82 (i_AllCliffordWords_l1 n9) n12) v119 v120 = some r) ?_ ?_
       ·refine AW_block ?_; refine AR hN fun K hK => ?_; obtain ⟨q38, h156, h⟩ := bO_inv h; obtain ⟨⟨h157a, h157b⟩, h157c⟩ := geti_E EILIIIIEl h156; (try simp only [EV, seval] at h157c); obtain ⟨x74, h158, h⟩ := bO_inv h; simp only [EV, seval, h157a, h157b, h157c]; refine rC_p (i_one_ok h158) (by simp only [AL, EV, seval, h157a, h157b, h157c]) (le_d rfl) (no_j rfl) ?_; obtain ⟨x75, h159, h⟩ := bO_inv h; simp only [EV, seval, h157a, h157b, h157c]; refine rC_p (i_TableauApplyGate_ok h159) (by simp only [AL, EV, seval, h157a, h157b, h157c]) (le_d rfl) (site_1 (by simp only [EV, seval])) ?_; simp only [EV, seval, h157a, h157b, h157c]; refine hK _ _ _ ?_; clear hK K; refine AN hN ?_; refine AW_cutK (fun S => ∃ (v118 : Bool), S = ⟨mkT [(1, .own 32 v109.length), (2, .own 33 v110.length), (3, .int .i64 v82), (4, .int .i64 v108), (5, .ptr 34 0), (7, .bool v118)], mkR [(32, .row 40 1 (encL ELIIIIE v109)), (33, .row 116 2 (encL EILIIIIE v110)), (34, .box 116 [.int .i64 x75.1, .own 35 x75.2.1.length]), (35, .row 213 4 (encL EIIII x75.2.1))], 64⟩ ∧ i_AllCliffordWords_j22 v82 v108 v109 v110 (i_AllCliffordWords_l10 v82 (i_AllCliffordWords_l1 n9) n12) x75 v118 = some r) ?_ ?_
        ·refine AN hN ?_; refine AW_block ?_; refine AW_loopF (fun n S => ∃ (v115 : Bool) (v116 v117 : Int), S = ⟨mkT [(1, .own 32 v109.length), (2, .own 33 v110.length), (3, .int .i64 v82), (4, .int .i64 v108), (5, .ptr 34 0), (7, .bool v115), (34, .own 33 v110.length), (35, .int .i64 v116), (36, .int .i64 v117)], mkR [(32, .row 40 1 (encL ELIIIIE v109)), (33, .row 116 2 (encL EILIIIIE v110)), (34, .box 116 [.int .i64 x75.1, .own 35 x75.2.1.length]), (35, .row 213 4 (encL EIIII x75.2.1))], 64⟩ ∧ i_AllCliffordWords_l13 v82 v108 v109 v110 (i_AllCliffordWords_l10 v82 (i_AllCliffordWords_l1 n9) n12) x75 n v115 v116 v117 = some r) FU ?_ ?_ ?_
         ·exact AC ⟨_, _, _, rfl, h⟩ [(32, some 32), (33, some 33), (34, some 1248), (35, some 1184)] [] hρ
         ·rintro S ⟨_, _, _, _, h⟩; rw [i_AllCliffordWords_l13] at h; cases h
         ·rintro n13 S ⟨v115, v116, v117, rfl, h⟩; rw [i_AllCliffordWords_l13] at h; refine AN hN ?_; refine AW_seq ?_; refine AB h (fun hc64 h => ?_) fun hc64 h => ?_
          ·refine AW_skip (AK ?_); refine AW_seq ?_; refine AW_block ?_; refine AR hN fun K hK => ?_; obtain ⟨q41, h166, h⟩ := bO_inv h; obtain ⟨⟨h167a, h167b⟩, h167c⟩ := geti_E EILIIIIEl h166; (try simp only [EV, seval] at h167c); simp only [EV, seval, h167a, h167b, h167c]; refine hK _ _ _ ?_; clear hK K; refine AS hN fun K hK => ?_; obtain ⟨x80, hv18, h⟩ := bO_inv h; rcases br_inv hv18 with ⟨hc65, hv18⟩ | ⟨hc65, hv18⟩
           ·cases hv18; simp only [EV, seval, hc65]; refine hK _ _ _ (show AW _ _ _ _ _ from ?_); refine AS hN fun K hK => ?_; simp only [EV, seval]; exact hK _ _ _ (AC ⟨_, _, _, rfl, h⟩ [(32, some 32), (33, some 33), (34, some 34), (35, some 35)] [] hρ)
           ·obtain ⟨x81, h169, hv18⟩ := bO_inv hv18; simp only [EV, seval, hc65]; refine rC_l (i_EqualTableau_ok h169) (by simp only [AL, EV, seval, hc65]) (by simp only [AL, EF, and_self]) (le_d rfl) (no_j rfl) ?_; cases hv18; simp only [EV, seval, hc65]; refine hK _ _ _ (show AW _ _ _ _ _ from ?_); refine AS hN fun K hK => ?_; simp only [EV, seval]; exact hK _ _ _ (AC ⟨_, _, _, rfl, h⟩ [(32, some 32), (33, some 33), (34, some 34), (35, some 35)] [] hρ)
          ·exact AW_exit (AC ⟨_, rfl, h⟩ [(32, some 32), (33, some 33), (34, some 34), (35, some 35)] [] hρ)
        ·rintro S ⟨v118, rfl, h⟩; unfold i_AllCliffordWords_j22 at h; refine AN hN ?_; refine AB h (fun hc66 h => ?_) fun hc66 h => ?_
         ·refine AW_rs (BR := (BRx BR [1001232])) FM (by rw [hN]; kernel_rfl) (by kernel_rfl) ?_; intro K hK; obtain ⟨q42, h170, h⟩ := bO_inv h; obtain ⟨⟨h171a, h171b⟩, h171c⟩ := geti_E ELIIIIEl h170; (try simp only [EV, seval] at h171c); obtain ⟨x82, h172, h⟩ := bO_inv h; simp only [EV, seval, h171a, h171b, h171c]; refine rC_p (i_copyGates_ok h172) (by simp only [AL, EV, seval, h171a, h171b, h171c]) (le_d rfl) (site_1 (by simp only [EV, seval])) ?_; obtain ⟨x83, h173, h⟩ := bO_inv h; simp only [EV, seval, h171a, h171b, h171c]; refine rC_p (i_one_ok h173) (by simp only [AL, EV, seval, h171a, h171b, h171c]) (le_d rfl) (no_j rfl) ?_; obtain ⟨h174, h⟩ := gd_inv h; replace h174 := of_decide_eq_true h174; (try simp only [EV, seval] at h174); obtain ⟨h175, h⟩ := gd_inv h; replace h175 := of_decide_eq_true h175; (try simp only [EV, seval] at h175); simp only [EV, seval, h171a, h171b, h171c, h174, h175]; refine hK _ _ _ ?_; clear hK K; refine AW_le (Le_can (lt := [(1, .own 1264 (v109 ++ ([x82 ++ ([(x83.1, x83.2.1, x83.2.2.1, x83.2.2.2)])])).length), (2, .own 33 v110.length), (3, .int .i64 v82), (4, .int .i64 v108), (5, .ptr 34 0)]) (lr := [(33, .row 116 2 (encL EILIIIIE v110)), (34, .box 116 [.int .i64 x75.1, .sl (encL EIIII x75.2.1) x75.2.1.length]), (1264, .row 40 1 (encL ELIIIIE (v109 ++ ([x82 ++ ([(x83.1, x83.2.1, x83.2.2.1, x83.2.2.2)])]))))]) (b' := 2128) [(1264, some 1264), (33, some 33), (34, some 34)] [35] hρ (by kernel_rfl) ?_ ?_) ?_
          ·simp only [AL, EV, seval]
          ·simp only [AL, EV, seval]
          refine AS hN fun K hK => ?_; obtain ⟨h176, h⟩ := gd_inv h; replace h176 := of_decide_eq_true h176; (try simp only [EV, seval] at h176); simp only [EV, seval, h176]; refine hK _ _ _ (show cutK _ _ _ from cutL ⟨_, _, rfl, h⟩ (Le_can [(32, some 1264), (33, some 2176)] [] hρ (by kernel_rfl) ?_ ?_))
          ·simp only [AL, EV, seval, h176]
          ·simp only [AL, EV, seval, h176]
         ·refine AW_skip (show cutK _ _ _ from cutL ⟨_, _, rfl, h⟩ (Le_can [(32, some 32), (33, some 33)] [] hρ (by kernel_rfl) ?_ ?_))
          ·simp only [AL, EV, seval]
          ·simp only [AL, EV, seval]
       ·rintro S ⟨v119, v120, rfl, h⟩; unfold i_AllCliffordWords_j21 at h; refine AS hN fun K hK => ?_; simp only [EV, seval]; exact hK _ _ _ (AC ⟨_, _, _, rfl, h⟩ [(32, some 32), (33, some 33)] [] hρ)
      ·exact AW_exit (AC ⟨_, _, rfl, h⟩ [(32, some 32), (33, some 33)] [] hρ)
    ·rintro S ⟨v121, v122, rfl, h⟩; unfold i_AllCliffordWords_j16 at h; refine AS hN fun K hK => ?_; simp only [EV, seval]; exact hK _ _ _ (AC ⟨_, _, _, rfl, h⟩ [(32, some 32), (33, some 33)] [] hρ)
   ·exact AW_exit (AC ⟨_, rfl, h⟩ [(32, some 32)] [] hρ)
 ·rintro S ⟨v123, rfl, h⟩; unfold i_AllCliffordWords_j1 at h; refine AN hN ?_; injection h with h; subst h; exact AX (b' := 64) [(0, .own 32 v123.length)] [(32, .row 40 1 (encL ELIIIIE v123))] [(32, some 32)] [] hρ (EQ [32])
end Go.Proofs.YtfjopjalhllplaaGreat
/- Models of functions, and that the functions do what the models say; printed by a program. -/
namespace Go.Proofs.YtfjopjalhllplaaGreat
open Go.RowKit
set_option maxRecDepth 100000
set_option linter.unusedVariables false
set_option linter.unusedSimpArgs false
set_option linter.defProp false
set_option maxHeartbeats 4000000
/- spec.l29Find -/
def s_l29Find_j1 : Option Int :=
  some (-1)
def s_l29Find_l1 (a1 : List (Int × LQ)) (a2 : Int) (a3 : LQ) : Nat → Int → Option Int
  | 0, _ => none
  | n1 + 1, v2 =>
  br (decide (v2 < ((a1.length : Int)))) (bO (geti a1 v2) fun q3 => bO (s_EqualTableau q3.1 q3.2 a2 a3) fun x3 => br x3 (some v2) ((s_l29Find_l1 a1 a2 a3 n1) (IntKind.wrap .i64 (v2 + 1)))) (s_l29Find_j1)
def s_l29Find (a1 : List (Int × LQ)) (a2 : Int) (a3 : LQ) : Option Int :=
  s_l29Find_l1 a1 a2 a3 FU 0
theorem s_l29Find_ok {a1 : List (Int × LQ)} {a2 : Int} {a3 : LQ} {r : Int} (h : s_l29Find a1 a2 a3 = some r) :
    Spec Tryz.prog 161 [.sl (encL EILIIIIE a1) a1.length, .agg [.int .i64 a2, .sl (encL EIIII a3) a3.length]] [] (.int .i64 r) [] := by
 unfold s_l29Find at h; refine SO Tryz.func161 rfl Tryz.ntmps161 fun C hN hρ => ?_; simp only [st0, tmps0, Nat.zero_add, Nat.reduceAdd]; refine AN hN ?_; refine AW_cutK (fun S => S = ⟨mkT [], mkR [], 64⟩ ∧ s_l29Find_j1 = some r) ?_ ?_
 ·refine AN hN ?_; refine AW_block ?_; refine AW_loopF (fun n S => ∃ (v2 : Int), S = ⟨mkT [(0, .sl (encL EILIIIIE a1) a1.length), (3, .ptr 32 0), (5, .int .i64 v2)], mkR [(32, .box 116 [.int .i64 a2, .sl (encL EIIII a3) a3.length])], 64⟩ ∧ s_l29Find_l1 a1 a2 a3 n v2 = some r) FU ?_ ?_ ?_
  ·exact AC ⟨_, rfl, h⟩ [(32, some 64)] [] hρ
  ·rintro S ⟨_, _, h⟩; rw [s_l29Find_l1] at h; cases h
  ·rintro n1 S ⟨v2, rfl, h⟩; rw [s_l29Find_l1] at h; refine AW_seq ?_; refine AN hN ?_; refine AB h (fun hc5 h => ?_) fun hc5 h => ?_
   ·refine AW_skip (AK ?_); refine AW_seq ?_; refine AW_block ?_; refine AR hN fun K hK => ?_; obtain ⟨q3, h7, h⟩ := bO_inv h; obtain ⟨⟨h8a, h8b⟩, h8c⟩ := geti_E EILIIIIEl h7; (try simp only [EV, seval] at h8c); obtain ⟨x3, h9, h⟩ := bO_inv h; simp only [EV, seval, h8a, h8b, h8c]; refine rC_p (s_EqualTableau_ok h9) (by simp only [AL, EV, seval, h8a, h8b, h8c]) (le_d rfl) (no_j rfl) ?_; simp only [EV, seval, h8a, h8b, h8c]; refine hK _ _ _ ?_; clear hK K; refine AW_condK (a := .bool x3) (by simp only [EV, seval, h8a, h8b, h8c]) (brK h (fun hc6 h => ?_) (fun hc6 h => ?_))
    ·refine AN hN ?_; injection h with h; subst h; exact AX (b' := 64) [(4, .int .i64 v2)] [] [] [] hρ (EQ [])
    ·refine AW_skip (AK ?_); refine AS hN fun K hK => ?_; simp only [EV, seval]; exact hK _ _ _ (AC ⟨_, rfl, h⟩ [(32, some 32)] [] hρ)
   ·exact AW_exit (AC ⟨rfl, h⟩ [] [] hρ)
 ·rintro S ⟨rfl, h⟩; unfold s_l29Find_j1 at h; refine AN hN ?_; injection h with h; subst h; exact AX (b' := 64) [(4, .int .i64 (-1))] [] [] [] hρ (EQ [])
/- spec.l29All -/
def s_l29All_j16 (v50 : Int) (kl4 : Int → (List (LQ)) → (List (Int × LQ)) → Option (List (LQ) × List (Int × LQ))) (v53 : List (LQ)) (v54 : List (Int × LQ)) : Option (List (LQ) × List (Int × LQ)) :=
  kl4 (IntKind.wrap .i64 (v50 + 1)) v53 v54
def s_l29All_j13 (v38 : List Int) (v39 : Int) (kl3 : (List Int) → Int → (List (LQ)) → (List (Int × LQ)) → Option (List (LQ) × List (Int × LQ))) (v55 : List (LQ)) (v56 : List (Int × LQ)) : Option (List (LQ) × List (Int × LQ)) :=
  kl3 v38 (IntKind.wrap .i64 (v39 + 1)) v55 v56
def s_l29All_l4 (v38 : List Int) (v39 : Int) (kl3 : (List Int) → Int → (List (LQ)) → (List (Int × LQ)) → Option (List (LQ) × List (Int × LQ))) : Nat → Int → (List (LQ)) → (List (Int × LQ)) → Option (List (LQ) × List (Int × LQ))
  | 0, _, _, _ => none
  | n4 + 1, v50, v51, v52 =>
  br (decide (v50 < ((v38.length : Int)))) (bO (geti v52 v39) fun q25 => bO (geti v38 v50) fun q26 => bO (s_l14One q26 0) fun x41 => bO (s_TableauApplyGate q25.1 q25.2 x41.1 x41.2.1 x41.2.2.1 x41.2.2.2) fun x42 => bO (s_l29Find v52 x42.1 x42.2.1) fun x43 => br (decide (0 ≤ x43)) (s_l29All_j16 v50 (s_l29All_l4 v38 v39 kl3 n4) v51 v52) (gd (decide (v52.length + ([(x42.1, x42.2.1)]).length ≤ 16777216)) (bO (geti v51 v39) fun q27 => gd (decide (([] : LQ).length + q27.length ≤ 16777216)) (bO (s_l14One q26 0) fun x44 => gd (decide (q27.length + ([(x44.1, x44.2.1, x44.2.2.1, x44.2.2.2)]).length ≤ 16777216)) (gd (decide (v51.length + ([q27 ++ ([(x44.1, x44.2.1, x44.2.2.1, x44.2.2.2)])]).length ≤ 16777216)) (s_l29All_j16 v50 (s_l29All_l4 v38 v39 kl3 n4) (v51 ++ ([q27 ++ ([(x44.1, x44.2.1, x44.2.2.1, x44.2.2.2)])])) (v52 ++ ([(x42.1, x42.2.1)])))))))) (s_l29All_j13 v38 v39 kl3 v51 v52)
def s_l29All_j1 (v57 : List (LQ)) (v58 : List (Int × LQ)) : Option (List (LQ) × List (Int × LQ)) :=
  some (v57, v58)
def s_l29All_j12 (v38 : List Int) (v39 : Int) (v40 : List (LQ)) (v41 : List (Int × LQ)) (kl3 : (List Int) → Int → (List (LQ)) → (List (Int × LQ)) → Option (List (LQ) × List (Int × LQ))) (v42 : Bool) : Option (List (LQ) × List (Int × LQ)) :=
  br v42 (s_l29All_l4 v38 v39 kl3 FU 0 v40 v41) (s_l29All_j1 v40 v41)
def s_l29All_l1 (a1 : Int) (a2 : LQ) : Nat → (List Int) → Int → (List (LQ)) → (List (Int × LQ)) → Option (List (LQ) × List (Int × LQ))
  | 0, _, _, _, _ => none
  | n3 + 1, v38, v39, v40, v41 =>
  bO (br (decide (v39 < ((v40.length : Int)))) (bO (s_l29Find v41 a1 a2) fun x30 => some (decide (x30 < 0))) (some false)) fun x31 => s_l29All_j12 v38 v39 v40 v41 (s_l29All_l1 a1 a2 n3) x31
def s_l29All (a1 : Int) (a2 : LQ) : Option (List (LQ) × List (Int × LQ)) :=
  bO (s_IdentityTableau 1) fun x1 => s_l29All_l1 a1 a2 FU ([1, 2, 3, 4, 5, 6]) 0 ([[]]) ([(x1.1, x1.2)])
theorem s_l29All_ok {a1 : Int} {a2 : LQ} {r : List (LQ) × List (Int × LQ)} (h : s_l29All a1 a2 = some r) :
    Spec Tryz.prog 160 [.agg [.int .i64 a1, .sl (encL EIIII a2) a2.length]] [] (.tup [.own 0 r.1.length, .own 1 r.2.length]) [.row 40 1 (encL ELIIIIE r.1), .row 116 2 (encL EILIIIIE r.2)] := by
 unfold s_l29All at h; refine SO Tryz.func160 rfl Tryz.ntmps160 fun C hN hρ => ?_; simp only [st0, tmps0, Nat.zero_add, Nat.reduceAdd]; refine AN hN ?_; refine AW_rs (BR := (BRx BR [1001088])) FM (by rw [hN]; kernel_rfl) (by kernel_rfl) ?_; intro K hK; simp only [EV, seval]; refine hK _ _ _ ?_; clear hK K; refine AR hN fun K hK => ?_; obtain ⟨x1, h1, h⟩ := bO_inv h; simp only [EV, seval]; refine rC_p (Spec.can (ret2 := .agg [.int .i64 x1.1, .sl (encL EIIII x1.2) x1.2.length]) (mem2 := []) (s_IdentityTableau_ok h1) [] [0] (by kernel_rfl) (by simp only [AL, EV, seval]) (by simp only [AL, EV, seval])) (by simp only [AL, EV, seval]) (le_d rfl) (no_j rfl) ?_; simp only [EV, seval]; refine hK _ _ _ ?_; clear hK K; refine AN hN ?_; refine AW_cutK (fun S => ∃ (v57 : List (LQ)) (v58 : List (Int × LQ)), S = ⟨mkT [(4, .own 32 v57.length), (5, .own 33 v58.length)], mkR [(32, .row 40 1 (encL ELIIIIE v57)), (33, .row 116 2 (encL EILIIIIE v58))], 64⟩ ∧ s_l29All_j1 v57 v58 = some r) ?_ ?_
 ·refine AN hN ?_; refine AW_block ?_; refine AW_loopF (fun n S => ∃ (v38 : List Int) (v39 : Int) (v40 : List (LQ)) (v41 : List (Int × LQ)), S = ⟨mkT [(1, .ptr 32 0), (4, .own 33 v40.length), (5, .own 34 v41.length), (6, .sl (encL EI v38) v38.length), (7, .int .i64 v39)], mkR [(32, .box 116 [.int .i64 a1, .sl (encL EIIII a2) a2.length]), (33, .row 40 1 (encL ELIIIIE v40)), (34, .row 116 2 (encL EILIIIIE v41))], 64⟩ ∧ s_l29All_l1 a1 a2 n v38 v39 v40 v41 = some r) FU ?_ ?_ ?_
  ·exact AC ⟨_, _, _, _, rfl, h⟩ [(32, some 64), (33, some 1104), (34, some 2128)] [] hρ
  ·rintro S ⟨_, _, _, _, _, h⟩; rw [s_l29All_l1] at h; cases h
  ·rintro n3 S ⟨v38, v39, v40, v41, rfl, h⟩; rw [s_l29All_l1] at h; refine AW_seq ?_; refine AJ (fun S => ∃ (v42 : Bool), S = ⟨mkT [(1, .ptr 32 0), (4, .own 33 v40.length), (5, .own 34 v41.length), (6, .sl (encL EI v38) v38.length), (7, .int .i64 v39), (25, .bool v42)], mkR [(32, .box 116 [.int .i64 a1, .sl (encL EIIII a2) a2.length]), (33, .row 40 1 (encL ELIIIIE v40)), (34, .row 116 2 (encL EILIIIIE v41))], 64⟩ ∧ s_l29All_j12 v38 v39 v40 v41 (s_l29All_l1 a1 a2 n3) v42 = some r) hN ?_ ?_
   ·intro K hK; obtain ⟨x31, hv3, h⟩ := bO_inv h; rcases br_inv hv3 with ⟨hc17, hv3⟩ | ⟨hc17, hv3⟩
    ·obtain ⟨x32, h95, hv3⟩ := bO_inv hv3; simp only [EV, seval, hc17]; refine rC_l (s_l29Find_ok h95) (by simp only [AL, EV, seval, hc17]) (by simp only [AL, EF, and_self]) (le_d rfl) (no_j rfl) ?_; cases hv3; simp only [EV, seval, hc17]; refine hK _ _ _ (show cutK _ _ _ from cutL ⟨_, rfl, h⟩ (Le_can [(32, some 32), (33, some 33), (34, some 34)] [] hρ (by kernel_rfl) ?_ ?_))
     ·simp only [AL, EV, seval, hc17]
     ·simp only [AL, EV, seval, hc17]
    ·cases hv3; simp only [EV, seval, hc17]; refine hK _ _ _ (show cutK _ _ _ from cutL ⟨_, rfl, h⟩ (Le_can [(32, some 32), (33, some 33), (34, some 34)] [] hρ (by kernel_rfl) ?_ ?_))
     ·simp only [AL, EV, seval, hc17]
     ·simp only [AL, EV, seval, hc17]
   ·rintro S ⟨v42, rfl, h⟩; unfold s_l29All_j12 at h; refine AB h (fun hc18 h => ?_) fun hc18 h => ?_
    ·refine AW_skip (AK ?_); refine AW_cutK (fun S => ∃ (v55 : List (LQ)) (v56 : List (Int × LQ)), S = ⟨mkT [(1, .ptr 32 0), (4, .own 33 v55.length), (5, .own 34 v56.length), (6, .sl (encL EI v38) v38.length), (7, .int .i64 v39)], mkR [(32, .box 116 [.int .i64 a1, .sl (encL EIIII a2) a2.length]), (33, .row 40 1 (encL ELIIIIE v55)), (34, .row 116 2 (encL EILIIIIE v56))], 64⟩ ∧ s_l29All_j13 v38 v39 (s_l29All_l1 a1 a2 n3) v55 v56 = some r) ?_ ?_
     ·refine AW_block ?_; refine AN hN ?_; refine AW_block ?_; refine AW_loopF (fun n S => ∃ (v50 : Int) (v51 : List (LQ)) (v52 : List (Int × LQ)), S = ⟨mkT [(1, .ptr 32 0), (4, .own 33 v51.length), (5, .own 34 v52.length), (6, .sl (encL EI v38) v38.length), (7, .int .i64 v39), (8, .int .i64 v50)], mkR [(32, .box 116 [.int .i64 a1, .sl (encL EIIII a2) a2.length]), (33, .row 40 1 (encL ELIIIIE v51)), (34, .row 116 2 (encL EILIIIIE v52))], 64⟩ ∧ s_l29All_l4 v38 v39 (s_l29All_l1 a1 a2 n3) n v50 v51 v52 = some r) FU ?_ ?_ ?_
      ·exact AC ⟨_, _, _, rfl, h⟩ [(32, some 32), (33, some 33), (34, some 34)] [] hρ
      ·rintro S ⟨_, _, _, _, h⟩; rw [s_l29All_l4] at h; cases h
      ·rintro n4 S ⟨v50, v51, v52, rfl, h⟩; rw [s_l29All_l4] at h; refine AW_seq ?_; refine AN hN ?_; refine AB h (fun hc23 h => ?_) fun hc23 h => ?_
       ·refine AW_skip (AK ?_); refine AW_cutK (fun S => ∃ (v53 : List (LQ)) (v54 : List (Int × LQ)), S = ⟨mkT [(1, .ptr 32 0), (4, .own 33 v53.length), (5, .own 34 v54.length), (6, .sl (encL EI v38) v38.length), (7, .int .i64 v39), (8, .int .i64 v50)], mkR [(32, .box 116 [.int .i64 a1, .sl (encL EIIII a2) a2.length]), (33, .row 40 1 (encL ELIIIIE v53)), (34, .row 116 2 (encL EILIIIIE v54))], 64⟩ ∧ s_l29All_j16 v50 (s_l29All_l4 v38 v39 (s_l29All_l1 a1 a2 n3) n4) v53 v54 = some r) ?_ ?_
        ·refine AW_block ?_; refine AR hN fun K hK => ?_; obtain ⟨q25, h126, h⟩ := bO_inv h; obtain ⟨⟨h127a, h127b⟩, h127c⟩ := geti_E EILIIIIEl h126; (try simp only [EV, seval] at h127c); obtain ⟨q26, h128, h⟩ := bO_inv h; obtain ⟨⟨h129a, h129b⟩, h129c⟩ := geti_E EIl h128; (try simp only [EV, seval] at h129c); obtain ⟨x41, h130, h⟩ := bO_inv h; simp only [EV, seval, h127a, h127b, h127c, h129a, h129b, h129c]; refine rC_p (s_l14One_ok h130) (by simp only [AL, EV, seval, h127a, h127b, h127c, h129a, h129b, h129c]) (le_d rfl) (no_j rfl) ?_; obtain ⟨x42, h131, h⟩ := bO_inv h; simp only [EV, seval, h127a, h127b, h127c, h129a, h129b, h129c]; refine rC_p (s_TableauApplyGate_ok h131) (by simp only [AL, EV, seval, h127a, h127b, h127c, h129a, h129b, h129c]) (le_d rfl) (site_1 (by simp only [EV, seval])) ?_; simp only [EV, seval, h127a, h127b, h127c, h129a, h129b, h129c]; refine hK _ _ _ ?_; clear hK K; refine AW_seq ?_; refine AR hN fun K hK => ?_; obtain ⟨x43, h132, h⟩ := bO_inv h; simp only [EV, seval]; refine rC_l (s_l29Find_ok h132) (by simp only [AL, EV, seval]) (by simp only [AL, EF, and_self]) (le_d rfl) (no_j rfl) ?_; simp only [EV, seval]; refine hK _ _ _ ?_; clear hK K; refine AB h (fun hc24 h => ?_) fun hc24 h => ?_
         ·exact AW_exit (AC ⟨_, _, rfl, h⟩ [(32, some 32), (33, some 33), (34, some 34)] [] hρ)
         ·refine AW_skip (AK ?_); refine AW_le (Le_can (lt := [(1, .ptr 32 0), (4, .own 33 v51.length), (5, .own 34 v52.length), (6, .sl (encL EI v38) v38.length), (7, .int .i64 v39), (8, .int .i64 v50), (9, .ptr 1296 0)]) (lr := [(32, .box 116 [.int .i64 a1, .sl (encL EIIII a2) a2.length]), (33, .row 40 1 (encL ELIIIIE v51)), (34, .row 116 2 (encL EILIIIIE v52)), (1296, .box 116 [.int .i64 x42.1, .sl (encL EIIII x42.2.1) x42.2.1.length])]) (b' := 3152) [(32, some 32), (33, some 33), (34, some 34), (1296, some 1296)] [1232] hρ (by kernel_rfl) ?_ ?_) ?_
          ·simp only [AL, EV, seval]
          ·simp only [AL, EV, seval]
          refine AR hN fun K hK => ?_; obtain ⟨h133, h⟩ := gd_inv h; replace h133 := of_decide_eq_true h133; (try simp only [EV, seval] at h133); simp only [EV, seval, h133]; refine hK _ _ _ ?_; clear hK K; refine AW_reT (BR := (BRx BR [1004384])) [(6, [4192, 4272]), (10, [9999999])] (by kernel_rfl) FM (by rw [hN]; kernel_rfl) (by kernel_rfl) ?_; intro K hK; obtain ⟨q27, h134, h⟩ := bO_inv h; obtain ⟨⟨h135a, h135b⟩, h135c⟩ := geti_E ELIIIIEl h134; (try simp only [EV, seval] at h135c); obtain ⟨h136, h⟩ := gd_inv h; replace h136 := of_decide_eq_true h136; (try simp only [EV, seval] at h136); have h137 := encL_len EIIIIl q27; obtain ⟨x44, h138, h⟩ := bO_inv h; simp only [AE, AT, TY, EN, seval, h135a, h135b, h135c, h136, h137, h129a, h129b, h129c]; refine rCT_p _ (s_l14One_ok h138) (by simp only [AL, EV, seval, h135a, h135b, h135c, h136, h137, h129a, h129b, h129c]) (le_d rfl) (no_j rfl) ?_; obtain ⟨h139, h⟩ := gd_inv h; replace h139 := of_decide_eq_true h139; (try simp only [EV, seval] at h139); obtain ⟨h140, h⟩ := gd_inv h; replace h140 := of_decide_eq_true h140; (try simp only [EV, seval] at h140); simp only [AE, AT, TY, EN, seval, h135a, h135b, h135c, h136, h137, h129a, h129b, h129c, h139, h140]; refine hK _ _ _ (show cutK _ _ _ from cutL ⟨_, _, rfl, h⟩ (Le_can [(32, some 32), (33, some 4416), (34, some 3200)] [] hρ (by kernel_rfl) ?_ ?_))
          ·simp only [AL, EV, seval, h135a, h135b, h135c, h136, h137, h129a, h129b, h129c, h139, h140]
          ·simp only [AL, EV, seval, h135a, h135b, h135c, h136, h137, h129a, h129b, h129c, h139, h140]
        ·rintro S ⟨v53, v54, rfl, h⟩; unfold s_l29All_j16 at h; refine AS hN fun K hK => ?_; simp only [EV, seval]; exact hK _ _ _ (AC ⟨_, _, _, rfl, h⟩ [(32, some 32), (33, some 33), (34, some 34)] [] hρ)
       ·exact AW_exit (AC ⟨_, _, rfl, h⟩ [(32, some 32), (33, some 33), (34, some 34)] [] hρ)
     ·rintro S ⟨v55, v56, rfl, h⟩; unfold s_l29All_j13 at h; refine AS hN fun K hK => ?_; simp only [EV, seval]; exact hK _ _ _ (AC ⟨_, _, _, _, rfl, h⟩ [(32, some 32), (33, some 33), (34, some 34)] [] hρ)
    ·exact AW_exit (AC ⟨_, _, rfl, h⟩ [(32, some 33), (33, some 34)] [] hρ)
 ·rintro S ⟨v57, v58, rfl, h⟩; unfold s_l29All_j1 at h; refine AN hN ?_; injection h with h; subst h; exact AX (b' := 64) [(2, .own 32 v57.length), (3, .own 33 v58.length)] [(32, .row 40 1 (encL ELIIIIE v57)), (33, .row 116 2 (encL EILIIIIE v58))] [(32, some 32), (33, some 33)] [] hρ (EQ [32, 33])
/- spec.CliffordWord -/
def s_CliffordWord_j1 (a1 : Int) (a2 : LQ) (v1 : Bool) : Option (LQ × Bool) :=
  br v1 (some ([], false)) (bO (s_l29All a1 a2) fun x3 => bO (s_l29Find x3.2 a1 a2) fun x4 => br (decide (x4 < 0)) (some ([], false)) (bO (geti x3.1 x4) fun q1 => gd (decide (([] : LQ).length + q1.length ≤ 16777216)) (some (q1, true))))
def s_CliffordWord (a1 : Int) (a2 : LQ) : Option (LQ × Bool) :=
  bO (s_IsValidTableau a1 a2) fun x1 => bO (br (!x1) (some true) (some (a1 != 1))) fun x2 => s_CliffordWord_j1 a1 a2 x2
theorem s_CliffordWord_ok {a1 : Int} {a2 : LQ} {r : LQ × Bool} (h : s_CliffordWord a1 a2 = some r) :
    Spec Tryz.prog 120 [.agg [.int .i64 a1, .sl (encL EIIII a2) a2.length]] [] (.tup [.own 0 r.1.length, .bool r.2]) [.row 48 4 (encL EIIII r.1)] := by
 unfold s_CliffordWord at h; refine SO Tryz.func120 rfl Tryz.ntmps120 fun C hN hρ => ?_; simp only [st0, tmps0, Nat.zero_add, Nat.reduceAdd]; refine AN hN ?_; refine AW_seq ?_; refine AJ (fun S => ∃ (v1 : Bool), S = ⟨mkT [(1, .ptr 32 0), (14, .bool v1)], mkR [(32, .box 116 [.int .i64 a1, .sl (encL EIIII a2) a2.length])], 64⟩ ∧ s_CliffordWord_j1 a1 a2 v1 = some r) hN ?_ ?_
 ·intro K hK; obtain ⟨x1, h1, h⟩ := bO_inv h; simp only [EV, seval]; refine CP (s_IsValidTableau_ok h1) ?_; obtain ⟨x2, hv1, h⟩ := bO_inv h; rcases br_inv hv1 with ⟨hc1, hv1⟩ | ⟨hc1, hv1⟩
  ·cases hv1; simp only [EV, seval, hc1]; refine hK _ _ _ (show cutK _ _ _ from cutL ⟨_, rfl, h⟩ (Le_can [(32, some 64)] [] hρ (by kernel_rfl) ?_ ?_))
   ·simp only [AL, EV, seval, hc1]
   ·simp only [AL, EV, seval, hc1]
  ·cases hv1; simp only [EV, seval, hc1]; refine hK _ _ _ (show cutK _ _ _ from cutL ⟨_, rfl, h⟩ (Le_can [(32, some 64)] [] hρ (by kernel_rfl) ?_ ?_))
   ·simp only [AL, EV, seval, hc1]
   ·simp only [AL, EV, seval, hc1]
 ·rintro S ⟨v1, rfl, h⟩; unfold s_CliffordWord_j1 at h; refine AB h (fun hc2 h => ?_) fun hc2 h => ?_
  ·refine AN hN ?_; injection h with h; subst h; exact AX (b' := 64) [(2, .own 32 0), (3, .bool false)] [(32, .row 48 4 (encL EIIII ([])))] [(32, some 64)] [] hρ (EQ [32])
  ·refine AW_skip (AK ?_); refine AR hN fun K hK => ?_; obtain ⟨x3, h2, h⟩ := bO_inv h; simp only [EV, seval]; refine rC_p (s_l29All_ok h2) (by simp only [AL, EV, seval]) (le_d rfl) (site_2 (by simp only [EV, seval])) ?_; simp only [EV, seval]; refine hK _ _ _ ?_; clear hK K; refine AR hN fun K hK => ?_; obtain ⟨x4, h3, h⟩ := bO_inv h; simp only [EV, seval]; refine rC_l (s_l29Find_ok h3) (by simp only [AL, EV, seval]) (by simp only [AL, EF, and_self]) (le_d rfl) (no_j rfl) ?_; simp only [EV, seval]; refine hK _ _ _ ?_; clear hK K; refine AW_seq ?_; refine AN hN ?_; refine AB h (fun hc3 h => ?_) fun hc3 h => ?_
   ·refine AN hN ?_; injection h with h; subst h; exact AX (b' := 64) [(2, .own 32 0), (3, .bool false)] [(32, .row 48 4 (encL EIIII ([])))] [(32, some 3136)] [] hρ (EQ [32])
   ·refine AW_skip (AK ?_); refine AR hN fun K hK => ?_; obtain ⟨q1, h4, h⟩ := bO_inv h; obtain ⟨⟨h5a, h5b⟩, h5c⟩ := geti_E ELIIIIEl h4; (try simp only [EV, seval] at h5c); obtain ⟨h6, h⟩ := gd_inv h; replace h6 := of_decide_eq_true h6; (try simp only [EV, seval] at h6); have h7 := encL_len EIIIIl q1; simp only [EV, seval, h5a, h5b, h5c, h6, h7]; refine hK _ _ _ ?_; clear hK K; injection h with h; subst h; refine AW_le (Le_can (lt := [(2, .own 32 q1.length), (3, .bool true)]) (lr := [(32, .row 48 4 (encL EIIII q1))]) (b' := 64) [(32, some 3216)] [] hρ (by kernel_rfl) ?_ ?_) (AW_ret (end_q [32] (.inr rfl) (by kernel_rfl) (by kernel_rfl) ?_))
    ·simp only [AL, EV, seval, h5a, h5b, h5c, h6, h7]
    ·simp only [AL, EV, seval, h5a, h5b, h5c, h6, h7]
    ·simp only [EV, Tryz.results120, seval]
/- impl.CliffordWord -/
def i_CliffordWord_j4 (v6 v7 : Int) (kl1 : Int → Int → Option (LQ × Bool)) (q3 : LQ) (v8 : Bool) : Option (LQ × Bool) :=
  br v8 (some (q3, true)) (kl1 v6 (IntKind.wrap .i64 (v7 + 1)))
def i_CliffordWord_j1 : Option (LQ × Bool) :=
  some ([], false)
def i_CliffordWord_l1 (a1 : Int) (a2 : LQ) (x1 : List (LQ)) : Nat → Int → Int → Option (LQ × Bool)
  | 0, _, _ => none
  | n1 + 1, v6, v7 =>
  br (decide (v7 < v6)) (bO (geti x1 v7) fun q3 => bO (i_WordTableau q3) fun x8 => bO (br x8.2.2 (bO (i_EqualTableau x8.1 x8.2.1 a1 a2) fun x9 => some x9) (some false)) fun x10 => i_CliffordWord_j4 v6 v7 (i_CliffordWord_l1 a1 a2 x1 n1) q3 x10) (i_CliffordWord_j1)
def i_CliffordWord (a1 : Int) (a2 : LQ) : Option (LQ × Bool) :=
  bO (i_AllCliffordWords) fun x1 => i_CliffordWord_l1 a1 a2 x1 FU ((x1.length : Int)) 0
theorem i_CliffordWord_ok {a1 : Int} {a2 : LQ} {r : LQ × Bool} (h : i_CliffordWord a1 a2 = some r) :
    Spec Tryz.prog 115 [.agg [.int .i64 a1, .sl (encL EIIII a2) a2.length]] [] (.tup [.sl (encL EIIII r.1) r.1.length, .bool r.2]) [] := by
 unfold i_CliffordWord at h; refine SO Tryz.func115 rfl Tryz.ntmps115 fun C hN hρ => ?_; simp only [st0, tmps0, Nat.zero_add, Nat.reduceAdd]; refine AN hN ?_; refine AW_cutK (fun S => S = ⟨mkT [], mkR [], 64⟩ ∧ i_CliffordWord_j1 = some r) ?_ ?_
 ·refine AR hN fun K hK => ?_; obtain ⟨x1, h1, h⟩ := bO_inv h; simp only [EV, seval]; refine rC_p (i_AllCliffordWords_ok h1) (by simp only [AL, EV, seval]) (le_d rfl) (site_1 (by simp only [EV, seval])) ?_; simp only [EV, seval]; refine hK _ _ _ ?_; clear hK K; refine AW_block ?_; refine AW_loopF (fun n S => ∃ (v6 v7 : Int), S = ⟨mkT [(1, .ptr 32 0), (8, .own 33 x1.length), (9, .int .i64 v6), (10, .int .i64 v7)], mkR [(32, .box 116 [.int .i64 a1, .sl (encL EIIII a2) a2.length]), (33, .row 40 1 (encL ELIIIIE x1))], 64⟩ ∧ i_CliffordWord_l1 a1 a2 x1 n v6 v7 = some r) FU ?_ ?_ ?_
  ·exact AC ⟨_, _, rfl, h⟩ [(32, some 64), (33, some 1088)] [] hρ
  ·rintro S ⟨_, _, _, h⟩; rw [i_CliffordWord_l1] at h; cases h
  ·rintro n1 S ⟨v6, v7, rfl, h⟩; rw [i_CliffordWord_l1] at h; refine AN hN ?_; refine AW_seq ?_; refine AB h (fun hc7 h => ?_) fun hc7 h => ?_
   ·refine AW_skip (AK ?_); refine AW_seq ?_; refine AW_block ?_; refine AR hN fun K hK => ?_; obtain ⟨q3, h10, h⟩ := bO_inv h; obtain ⟨⟨h11a, h11b⟩, h11c⟩ := geti_E ELIIIIEl h10; (try simp only [EV, seval] at h11c); simp only [EV, seval, h11a, h11b, h11c]; refine hK _ _ _ ?_; clear hK K; refine AR hN fun K hK => ?_; obtain ⟨x8, h12, h⟩ := bO_inv h; simp only [EV, seval]; refine rC_p (i_WordTableau_ok h12) (by simp only [AL, EV, seval]) (le_d rfl) (site_1 (by simp only [EV, seval])) ?_; simp only [EV, seval]; refine hK _ _ _ ?_; clear hK K; refine AJ (fun S => ∃ (v8 : Bool), S = ⟨mkT [(1, .ptr 32 0), (5, .sl (encL EIIII q3) q3.length), (8, .own 33 x1.length), (9, .int .i64 v6), (10, .int .i64 v7), (24, .bool v8)], mkR [(32, .box 116 [.int .i64 a1, .sl (encL EIIII a2) a2.length]), (33, .row 40 1 (encL ELIIIIE x1))], 64⟩ ∧ i_CliffordWord_j4 v6 v7 (i_CliffordWord_l1 a1 a2 x1 n1) q3 v8 = some r) hN ?_ ?_
    ·intro K hK; obtain ⟨x10, hv3, h⟩ := bO_inv h; rcases br_inv hv3 with ⟨hc8, hv3⟩ | ⟨hc8, hv3⟩
     ·obtain ⟨x11, h14, hv3⟩ := bO_inv hv3; simp only [EV, seval, hc8]; refine rC_l (i_EqualTableau_ok h14) (by simp only [AL, EV, seval, hc8]) (by simp only [AL, EF, and_self]) (le_d rfl) (no_j rfl) ?_; cases hv3; simp only [EV, seval, hc8]; refine hK _ _ _ (show cutK _ _ _ from cutL ⟨_, rfl, h⟩ (Le_can [(32, some 32), (33, some 33)] [] hρ (by kernel_rfl) ?_ ?_))
      ·simp only [AL, EV, seval, hc8]
      ·simp only [AL, EV, seval, hc8]
     ·cases hv3; simp only [EV, seval, hc8]; refine hK _ _ _ (show cutK _ _ _ from cutL ⟨_, rfl, h⟩ (Le_can [(32, some 32), (33, some 33)] [] hρ (by kernel_rfl) ?_ ?_))
      ·simp only [AL, EV, seval, hc8]
      ·simp only [AL, EV, seval, hc8]
    ·rintro S ⟨v8, rfl, h⟩; unfold i_CliffordWord_j4 at h; refine AB h (fun hc9 h => ?_) fun hc9 h => ?_
     ·refine AN hN ?_; injection h with h; subst h; exact AX (b' := 64) [(2, .sl (encL EIIII q3) q3.length), (3, .bool true)] [] [] [] hρ (EQ [])
     ·refine AW_skip (AK ?_); refine AS hN fun K hK => ?_; simp only [EV, seval]; exact hK _ _ _ (AC ⟨_, _, rfl, h⟩ [(32, some 32), (33, some 33)] [] hρ)
   ·exact AW_exit (AC ⟨rfl, h⟩ [] [] hρ)
 ·rintro S ⟨rfl, h⟩; unfold i_CliffordWord_j1 at h; refine AN hN ?_; injection h with h; subst h; exact AX (b' := 64) [(2, .sl (encL EIIII ([])) 0), (3, .bool false)] [] [] [] hρ (EQ [])
/- impl.CosetRepresentative -/
def i_CosetRepresentative (a1 : Int) : Option (LQ) :=
  br (a1 == 1) (bO (i_one 4 0) fun x1 => some ([(x1.1, x1.2.1, x1.2.2.1, x1.2.2.2)])) (br (a1 == 2) (bO (i_one 6 0) fun x2 => bO (i_one 4 0) fun x3 => some ([(x2.1, x2.2.1, x2.2.2.1, x2.2.2.2), (x3.1, x3.2.1, x3.2.2.1, x3.2.2.2)])) (some ([])))
theorem i_CosetRepresentative_ok {a1 : Int} {r : LQ} (h : i_CosetRepresentative a1 = some r) :
    Spec Tryz.prog 114 [.int .i64 a1] [] (.own 0 r.length) [.row 48 4 (encL EIIII r)] := by
 unfold i_CosetRepresentative at h; refine SO Tryz.func114 rfl Tryz.ntmps114 fun C hN hρ => ?_; simp only [st0, tmps0, Nat.zero_add, Nat.reduceAdd]; refine AN hN ?_; refine AW_seq ?_; refine AN hN ?_; refine AW_block ?_; refine AN hN ?_; refine AB h (fun hc1 h => ?_) fun hc1 h => ?_
 ·obtain ⟨x1, h1, h⟩ := bO_inv h; refine AP hN (i_one_ok h1) ?_; injection h with h; subst h; exact AX (b' := 64) [(2, .own 32 ([(x1.1, x1.2.1, x1.2.2.1, x1.2.2.2)]).length)] [(32, .row 48 4 (encL EIIII ([(x1.1, x1.2.1, x1.2.2.1, x1.2.2.2)])))] [(32, some 3152)] [] hρ (EQ [32])
 ·refine AN hN ?_; refine AB h (fun hc2 h => ?_) fun hc2 h => ?_
  ·refine AR hN fun K hK => ?_; obtain ⟨x2, h2, h⟩ := bO_inv h; simp only [EV, seval]; refine CP (i_one_ok h2) ?_; obtain ⟨x3, h3, h⟩ := bO_inv h; simp only [EV, seval]; refine CP (i_one_ok h3) ?_; simp only [EV, seval]; refine hK _ _ _ ?_; clear hK K; injection h with h; subst h; exact AX (b' := 64) [(2, .own 32 ([(x2.1, x2.2.1, x2.2.2.1, x2.2.2.2), (x3.1, x3.2.1, x3.2.2.1, x3.2.2.2)]).length)] [(32, .row 48 4 (encL EIIII ([(x2.1, x2.2.1, x2.2.2.1, x2.2.2.2), (x3.1, x3.2.1, x3.2.2.1, x3.2.2.2)])))] [(32, some 4192)] [] hρ (EQ [32])
  ·refine AW_skip (AK ?_); refine AN hN ?_; injection h with h; subst h; exact AX (b' := 64) [(2, .own 32 0)] [(32, .row 48 4 (encL EIIII ([])))] [(32, none)] [] hρ (EQ [32])
end Go.Proofs.YtfjopjalhllplaaGreat
/- Models of functions, and that the functions do what the models say; printed by a program. -/
namespace Go.Proofs.YtfjopjalhllplaaGreat
open Go.RowKit
set_option maxRecDepth 100000
set_option linter.unusedVariables false
set_option linter.unusedSimpArgs false
set_option linter.defProp false
set_option maxHeartbeats 4000000
/- spec.l26Copy -/
def s_l26Copy (a1 : Int) (a2 : LQ) : Option (Int × LQ) :=
  gd (decide (([] : LQ).length + a2.length ≤ 16777216)) (some (a1, a2))
theorem s_l26Copy_ok {a1 : Int} {a2 : LQ} {r : Int × LQ} (h : s_l26Copy a1 a2 = some r) :
    Spec Tryz.prog 199 [.agg [.int .i64 a1, .sl (encL EIIII a2) a2.length]] [] (.agg [.int .i64 r.1, .own 0 r.2.length]) [.row 213 4 (encL EIIII r.2)] := by
 unfold s_l26Copy at h; refine SO Tryz.func199 rfl Tryz.ntmps199 fun C hN hρ => ?_; simp only [st0, tmps0, Nat.zero_add, Nat.reduceAdd]; refine AN hN ?_; refine AW_rsT (BR := BR) [(1, [64]), (5, [1120, 1168])] (by kernel_rfl) FM (by rw [hN]; kernel_rfl) (by kernel_rfl) ?_; intro K hK; obtain ⟨h1, h⟩ := gd_inv h; replace h1 := of_decide_eq_true h1; (try simp only [EV, seval] at h1); have h2 := encL_len EIIIIl a2; simp only [AE, AT, TY, EN, seval, h1, h2]; refine hK _ _ _ ?_; clear hK K; injection h with h; subst h; refine AW_le (Le_can (lt := [(2, .ptr 32 0)]) (lr := [(32, .box 116 [.int .i64 a1, .own 33 a2.length]), (33, .row 213 4 (encL EIIII a2))]) (b' := 64) [(32, some 80), (33, some 1168)] [] hρ (by kernel_rfl) ?_ ?_) (AW_ret (end_q [33] (.inr rfl) (by kernel_rfl) (by kernel_rfl) ?_))
 ·simp only [AL, EV, seval, h1, h2]
 ·simp only [AL, EV, seval, h1, h2]
 ·simp only [EV, Tryz.results199, seval]
/- impl.inverted -/
def i_inverted_j1 (v5 : LQ) : Option (LQ) :=
  some v5
def i_inverted_l1 (a1 : LQ) : Nat → Int → (LQ) → Option (LQ)
  | 0, _, _ => none
  | n1 + 1, v3, v4 =>
  br (decide (0 ≤ v3)) (bO (geti a1 v3) fun q2 => bO (i_InverseGate q2.1 q2.2.1 q2.2.2.1 q2.2.2.2) fun x2 => gd (decide (v4.length + ([(x2.1, x2.2.1, x2.2.2.1, x2.2.2.2)]).length ≤ 16777216)) ((i_inverted_l1 a1 n1) (IntKind.wrap .i64 (v3 - 1)) (v4 ++ ([(x2.1, x2.2.1, x2.2.2.1, x2.2.2.2)])))) (i_inverted_j1 v4)
def i_inverted (a1 : LQ) : Option (LQ) :=
  i_inverted_l1 a1 FU (IntKind.wrap .i64 (((a1.length : Int)) - 1)) ([] : LQ)
theorem i_inverted_ok {a1 : LQ} {r : LQ} (h : i_inverted a1 = some r) :
    Spec Tryz.prog 192 [.sl (encL EIIII a1) a1.length] [] (.own 0 r.length) [.row 48 4 (encL EIIII r)] := by
 unfold i_inverted at h; refine SO Tryz.func192 rfl Tryz.ntmps192 fun C hN hρ => ?_; simp only [st0, tmps0, Nat.zero_add, Nat.reduceAdd]; refine AN hN ?_; refine AN hN ?_; refine AW_cutK (fun S => ∃ (v5 : LQ), S = ⟨mkT [(3, .own 32 v5.length)], mkR [(32, .row 48 4 (encL EIIII v5))], 64⟩ ∧ i_inverted_j1 v5 = some r) ?_ ?_
 ·refine AN hN ?_; refine AW_block ?_; refine AW_loopF (fun n S => ∃ (v3 : Int) (v4 : LQ), S = ⟨mkT [(0, .sl (encL EIIII a1) a1.length), (3, .own 32 v4.length), (4, .int .i64 v3)], mkR [(32, .row 48 4 (encL EIIII v4))], 64⟩ ∧ i_inverted_l1 a1 n v3 v4 = some r) FU ?_ ?_ ?_
  ·exact AC ⟨_, _, rfl, h⟩ [(32, some 1088)] [] hρ
  ·rintro S ⟨_, _, _, h⟩; rw [i_inverted_l1] at h; cases h
  ·rintro n1 S ⟨v3, v4, rfl, h⟩; rw [i_inverted_l1] at h; refine AW_seq ?_; refine AN hN ?_; refine AB h (fun hc2 h => ?_) fun hc2 h => ?_
   ·refine AW_skip (AK ?_); refine AW_seq ?_; refine AW_block ?_; refine AS hN fun K hK => ?_; obtain ⟨q2, h5, h⟩ := bO_inv h; obtain ⟨⟨h6a, h6b⟩, h6c⟩ := geti_E EIIIIl h5; (try simp only [EV, seval] at h6c); obtain ⟨x2, h7, h⟩ := bO_inv h; simp only [EV, seval, h6a, h6b, h6c]; refine rC_p (i_InverseGate_ok h7) (by simp only [AL, EV, seval, h6a, h6b, h6c]) (le_d rfl) (no_j rfl) ?_; obtain ⟨h8, h⟩ := gd_inv h; replace h8 := of_decide_eq_true h8; (try simp only [EV, seval] at h8); simp only [EV, seval, h6a, h6b, h6c, h8]; refine hK _ _ _ (show AW _ _ _ _ _ from ?_); refine AS hN fun K hK => ?_; simp only [EV, seval]; exact hK _ _ _ (AC ⟨_, _, rfl, h⟩ [(32, some 1200)] [] hρ)
   ·exact AW_exit (AC ⟨_, rfl, h⟩ [(32, some 32)] [] hρ)
 ·rintro S ⟨v5, rfl, h⟩; unfold i_inverted_j1 at h; refine AN hN ?_; injection h with h; subst h; exact AX (b' := 64) [(2, .own 32 v5.length)] [(32, .row 48 4 (encL EIIII v5))] [(32, some 32)] [] hρ (EQ [32])
/- spec.l11Inverse -/
def s_l11Inverse_j1 (v5 : LQ) : Option (LQ) :=
  some v5
def s_l11Inverse_l1 (a1 : LQ) : Nat → Int → (LQ) → Option (LQ)
  | 0, _, _ => none
  | n1 + 1, v3, v4 =>
  br (decide (0 ≤ v3)) (bO (geti a1 v3) fun q2 => bO (s_InverseGate q2.1 q2.2.1 q2.2.2.1 q2.2.2.2) fun x2 => gd (decide (v4.length + ([(x2.1, x2.2.1, x2.2.2.1, x2.2.2.2)]).length ≤ 16777216)) ((s_l11Inverse_l1 a1 n1) (IntKind.wrap .i64 (v3 - 1)) (v4 ++ ([(x2.1, x2.2.1, x2.2.2.1, x2.2.2.2)])))) (s_l11Inverse_j1 v4)
def s_l11Inverse (a1 : LQ) : Option (LQ) :=
  s_l11Inverse_l1 a1 FU (IntKind.wrap .i64 (((a1.length : Int)) - 1)) ([] : LQ)
theorem s_l11Inverse_ok {a1 : LQ} {r : LQ} (h : s_l11Inverse a1 = some r) :
    Spec Tryz.prog 202 [.sl (encL EIIII a1) a1.length] [] (.own 0 r.length) [.row 48 4 (encL EIIII r)] := by
 unfold s_l11Inverse at h; refine SO Tryz.func202 rfl Tryz.ntmps202 fun C hN hρ => ?_; simp only [st0, tmps0, Nat.zero_add, Nat.reduceAdd]; refine AN hN ?_; refine AN hN ?_; refine AW_cutK (fun S => ∃ (v5 : LQ), S = ⟨mkT [(3, .own 32 v5.length)], mkR [(32, .row 48 4 (encL EIIII v5))], 64⟩ ∧ s_l11Inverse_j1 v5 = some r) ?_ ?_
 ·refine AN hN ?_; refine AW_block ?_; refine AW_loopF (fun n S => ∃ (v3 : Int) (v4 : LQ), S = ⟨mkT [(0, .sl (encL EIIII a1) a1.length), (3, .own 32 v4.length), (4, .int .i64 v3)], mkR [(32, .row 48 4 (encL EIIII v4))], 64⟩ ∧ s_l11Inverse_l1 a1 n v3 v4 = some r) FU ?_ ?_ ?_
  ·exact AC ⟨_, _, rfl, h⟩ [(32, some 1088)] [] hρ
  ·rintro S ⟨_, _, _, h⟩; rw [s_l11Inverse_l1] at h; cases h
  ·rintro n1 S ⟨v3, v4, rfl, h⟩; rw [s_l11Inverse_l1] at h; refine AW_seq ?_; refine AN hN ?_; refine AB h (fun hc2 h => ?_) fun hc2 h => ?_
   ·refine AW_skip (AK ?_); refine AW_seq ?_; refine AW_block ?_; refine AS hN fun K hK => ?_; obtain ⟨q2, h5, h⟩ := bO_inv h; obtain ⟨⟨h6a, h6b⟩, h6c⟩ := geti_E EIIIIl h5; (try simp only [EV, seval] at h6c); obtain ⟨x2, h7, h⟩ := bO_inv h; simp only [EV, seval, h6a, h6b, h6c]; refine rC_p (s_InverseGate_ok h7) (by simp only [AL, EV, seval, h6a, h6b, h6c]) (le_d rfl) (no_j rfl) ?_; obtain ⟨h8, h⟩ := gd_inv h; replace h8 := of_decide_eq_true h8; (try simp only [EV, seval] at h8); simp only [EV, seval, h6a, h6b, h6c, h8]; refine hK _ _ _ (show AW _ _ _ _ _ from ?_); refine AS hN fun K hK => ?_; simp only [EV, seval]; exact hK _ _ _ (AC ⟨_, _, rfl, h⟩ [(32, some 1200)] [] hρ)
   ·exact AW_exit (AC ⟨_, rfl, h⟩ [(32, some 32)] [] hρ)
 ·rintro S ⟨v5, rfl, h⟩; unfold s_l11Inverse_j1 at h; refine AN hN ?_; injection h with h; subst h; exact AX (b' := 64) [(2, .own 32 v5.length)] [(32, .row 48 4 (encL EIIII v5))] [(32, some 32)] [] hρ (EQ [32])
/- spec.CosetRepresentative -/
def s_CosetRepresentative (a1 : Int) : Option (LQ) :=
  br (a1 == 1) (bO (s_l14One 4 0) fun x1 => some ([(x1.1, x1.2.1, x1.2.2.1, x1.2.2.2)])) (br (a1 == 2) (bO (s_l14One 6 0) fun x2 => bO (s_l14One 4 0) fun x3 => some ([(x2.1, x2.2.1, x2.2.2.1, x2.2.2.2), (x3.1, x3.2.1, x3.2.2.1, x3.2.2.2)])) (some ([])))
theorem s_CosetRepresentative_ok {a1 : Int} {r : LQ} (h : s_CosetRepresentative a1 = some r) :
    Spec Tryz.prog 119 [.int .i64 a1] [] (.own 0 r.length) [.row 48 4 (encL EIIII r)] := by
 unfold s_CosetRepresentative at h; refine SO Tryz.func119 rfl Tryz.ntmps119 fun C hN hρ => ?_; simp only [st0, tmps0, Nat.zero_add, Nat.reduceAdd]; refine AN hN ?_; refine AW_seq ?_; refine AN hN ?_; refine AW_block ?_; refine AN hN ?_; refine AB h (fun hc1 h => ?_) fun hc1 h => ?_
 ·obtain ⟨x1, h1, h⟩ := bO_inv h; refine AP hN (s_l14One_ok h1) ?_; injection h with h; subst h; exact AX (b' := 64) [(2, .own 32 ([(x1.1, x1.2.1, x1.2.2.1, x1.2.2.2)]).length)] [(32, .row 48 4 (encL EIIII ([(x1.1, x1.2.1, x1.2.2.1, x1.2.2.2)])))] [(32, some 3152)] [] hρ (EQ [32])
 ·refine AN hN ?_; refine AB h (fun hc2 h => ?_) fun hc2 h => ?_
  ·refine AR hN fun K hK => ?_; obtain ⟨x2, h2, h⟩ := bO_inv h; simp only [EV, seval]; refine CP (s_l14One_ok h2) ?_; obtain ⟨x3, h3, h⟩ := bO_inv h; simp only [EV, seval]; refine CP (s_l14One_ok h3) ?_; simp only [EV, seval]; refine hK _ _ _ ?_; clear hK K; injection h with h; subst h; exact AX (b' := 64) [(2, .own 32 ([(x2.1, x2.2.1, x2.2.2.1, x2.2.2.2), (x3.1, x3.2.1, x3.2.2.1, x3.2.2.2)]).length)] [(32, .row 48 4 (encL EIIII ([(x2.1, x2.2.1, x2.2.2.1, x2.2.2.2), (x3.1, x3.2.1, x3.2.2.1, x3.2.2.2)])))] [(32, some 4192)] [] hρ (EQ [32])
  ·refine AW_skip (AK ?_); refine AN hN ?_; injection h with h; subst h; exact AX (b' := 64) [(2, .own 32 0)] [(32, .row 48 4 (encL EIIII ([])))] [(32, some 4160)] [] hρ (EQ [32])
end Go.Proofs.YtfjopjalhllplaaGreat
/- Models of functions, and that the functions do what the models say; printed by a program. -/
namespace Go.Proofs.YtfjopjalhllplaaGreat
open Go.RowKit
set_option maxRecDepth 100000
set_option linter.unusedVariables false
set_option linter.unusedSimpArgs false
set_option linter.defProp false
set_option maxHeartbeats 4000000
/- impl.NormalFormGates -/
def i_NormalFormGates_j1 (a2 : Int) (a3 : LQ) (v9 : LQ) : Option (LQ) :=
  bO (i_CliffordWord a2 a3) fun x8 => gd (decide (v9.length + x8.1.length ≤ 16777216)) (some (v9 ++ x8.1))
def i_NormalFormGates_l1 (a1 : List Int) (a2 : Int) (a3 : LQ) : Nat → Int → Int → (LQ) → Option (LQ)
  | 0, _, _, _ => none
  | n1 + 1, v6, v7, v8 =>
  br (decide (v7 < v6)) (bO (geti a1 v7) fun q3 => bO (i_CosetRepresentative q3) fun x6 => gd (decide (v8.length + x6.length ≤ 16777216)) (bO (i_one 7 0) fun x7 => gd (decide ((v8 ++ x6).length + ([(x7.1, x7.2.1, x7.2.2.1, x7.2.2.2)]).length ≤ 16777216)) ((i_NormalFormGates_l1 a1 a2 a3 n1) v6 (IntKind.wrap .i64 (v7 + 1)) ((v8 ++ x6) ++ ([(x7.1, x7.2.1, x7.2.2.1, x7.2.2.2)]))))) (i_NormalFormGates_j1 a2 a3 v8)
def i_NormalFormGates (a1 : List Int) (a2 : Int) (a3 : LQ) : Option (LQ) :=
  bO (i_IsValidNormalForm a1 a2 a3) fun x1 => br (!x1) (some ([])) (i_NormalFormGates_l1 a1 a2 a3 FU ((a1.length : Int)) 0 ([] : LQ))
theorem i_NormalFormGates_ok {a1 : List Int} {a2 : Int} {a3 : LQ} {r : LQ} (h : i_NormalFormGates a1 a2 a3 = some r) :
    Spec Tryz.prog 78 [.agg [.sl (encL EI a1) a1.length, .int .i64 a2, .sl (encL EIIII a3) a3.length]] [] (.own 0 r.length) [.row 48 4 (encL EIIII r)] := by
 unfold i_NormalFormGates at h; refine SO Tryz.func78 rfl Tryz.ntmps78 fun C hN hρ => ?_; simp only [st0, tmps0, Nat.zero_add, Nat.reduceAdd]; refine AN hN ?_; refine AW_seq ?_; obtain ⟨x1, h1, h⟩ := bO_inv h; refine AP hN (i_IsValidNormalForm_ok h1) ?_; refine AB h (fun hc1 h => ?_) fun hc1 h => ?_
 ·refine AN hN ?_; injection h with h; subst h; refine AW_le (Le_can (lt := [(2, .own 32 0)]) (lr := [(32, .row 48 4 (encL EIIII ([])))]) (b' := 64) [(32, none)] [] hρ (by kernel_rfl) ?_ ?_) (AW_ret (end_q [32] (.inr rfl) (by kernel_rfl) (by kernel_rfl) ?_))
  ·simp only [AL, EV, seval] <;> omega
  ·simp only [AL, EV, seval] <;> omega
  ·simp only [EV, Tryz.results78, seval]
 ·refine AW_skip (AK ?_); refine AN hN ?_; refine AW_cutK (fun S => ∃ (v9 : LQ), S = ⟨mkT [(1, .ptr 32 0), (3, .own 33 v9.length)], mkR [(32, .box 118 [.sl (encL EI a1) a1.length, .int .i64 a2, .sl (encL EIIII a3) a3.length]), (33, .row 48 4 (encL EIIII v9))], 64⟩ ∧ i_NormalFormGates_j1 a2 a3 v9 = some r) ?_ ?_
  ·refine AN hN ?_; refine AW_block ?_; refine AW_loopF (fun n S => ∃ (v6 v7 : Int) (v8 : LQ), S = ⟨mkT [(1, .ptr 32 0), (3, .own 33 v8.length), (13, .sl (encL EI a1) a1.length), (14, .int .i64 v6), (15, .int .i64 v7)], mkR [(32, .box 118 [.sl (encL EI a1) a1.length, .int .i64 a2, .sl (encL EIIII a3) a3.length]), (33, .row 48 4 (encL EIIII v8))], 64⟩ ∧ i_NormalFormGates_l1 a1 a2 a3 n v6 v7 v8 = some r) FU ?_ ?_ ?_
   ·refine cutL ⟨_, _, _, rfl, h⟩ (Le_can [(32, some 64), (33, some 2112)] [] hρ (by kernel_rfl) ?_ ?_)
    ·simp only [AL, EV, seval] <;> omega
    ·simp only [AL, EV, seval] <;> omega
   ·rintro S ⟨_, _, _, _, h⟩; rw [i_NormalFormGates_l1] at h; cases h
   ·rintro n1 S ⟨v6, v7, v8, rfl, h⟩; rw [i_NormalFormGates_l1] at h; refine AN hN ?_; refine AW_seq ?_; refine AB h (fun hc4 h => ?_) fun hc4 h => ?_
    ·refine AW_skip (AK ?_); refine AW_seq ?_; refine AW_block ?_; refine AR hN fun K hK => ?_; obtain ⟨q3, h14, h⟩ := bO_inv h; obtain ⟨⟨h15a, h15b⟩, h15c⟩ := geti_E EIl h14; (try simp only [EV, seval] at h15c); simp only [EV, seval, h15a, h15b, h15c]; refine hK _ _ _ ?_; clear hK K; refine AS hN fun K hK => ?_; obtain ⟨x6, h16, h⟩ := bO_inv h; simp only [EV, seval]; refine rC_p (i_CosetRepresentative_ok h16) (by simp only [AL, EV, seval]) (le_d rfl) (site_1 (by simp only [EV, seval])) ?_; obtain ⟨h17, h⟩ := gd_inv h; replace h17 := of_decide_eq_true h17; (try simp only [EV, seval] at h17); obtain ⟨x7, h18, h⟩ := bO_inv h; simp only [EV, seval, h17]; refine rC_p (i_one_ok h18) (by simp only [AL, EV, seval, h17]) (le_d rfl) (no_j rfl) ?_; obtain ⟨h19, h⟩ := gd_inv h; replace h19 := of_decide_eq_true h19; (try simp only [EV, seval] at h19); simp only [EV, seval, h17, h19]; refine hK _ _ _ (show AW _ _ _ _ _ from ?_); refine AS hN fun K hK => ?_; simp only [EV, seval]; refine hK _ _ _ (show cutK _ _ _ from cutL ⟨_, _, _, rfl, h⟩ (Le_can [(32, some 32), (33, some 2208)] [] hρ (by kernel_rfl) ?_ ?_))
     ·simp only [AL, EV, seval] <;> omega
     ·simp only [AL, EV, seval] <;> omega
    ·refine AW_exit (show cutK _ _ _ from cutL ⟨_, rfl, h⟩ (Le_can [(32, some 32), (33, some 33)] [] hρ (by kernel_rfl) ?_ ?_))
     ·simp only [AL, EV, seval] <;> omega
     ·simp only [AL, EV, seval] <;> omega
  ·rintro S ⟨v9, rfl, h⟩; unfold i_NormalFormGates_j1 at h; obtain ⟨x8, h20, h⟩ := bO_inv h; refine AP hN (i_CliffordWord_ok h20) ?_; refine AR hN fun K hK => ?_; obtain ⟨h21, h⟩ := gd_inv h; replace h21 := of_decide_eq_true h21; (try simp only [EV, seval] at h21); have h22 := encL_len EIIIIl x8.1; simp only [EV, seval, h21, h22]; refine hK _ _ _ ?_; clear hK K; injection h with h; subst h; refine AW_le (Le_can (lt := [(2, .own 32 (v9 ++ x8.1).length)]) (lr := [(32, .row 48 4 (encL EIIII (v9 ++ x8.1)))]) (b' := 64) [(32, some 1120)] [] hρ (by kernel_rfl) ?_ ?_) (AW_ret (end_q [32] (.inr rfl) (by kernel_rfl) (by kernel_rfl) ?_))
   ·simp only [AL, EV, seval, h21, h22] <;> omega
   ·simp only [AL, EV, seval, h21, h22] <;> omega
   ·simp only [EV, Tryz.results78, seval]
/- spec.NormalFormGates -/
def s_NormalFormGates_j1 (a2 : Int) (a3 : LQ) (v6 : LQ) : Option (LQ) :=
  bO (s_CliffordWord a2 a3) fun x8 => gd (decide (v6.length + x8.1.length ≤ 16777216)) (some (v6 ++ x8.1))
def s_NormalFormGates_l1 (a1 : List Int) (a2 : Int) (a3 : LQ) : Nat → Int → (LQ) → Option (LQ)
  | 0, _, _ => none
  | n1 + 1, v4, v5 =>
  br (decide (v4 < ((a1.length : Int)))) (bO (geti a1 v4) fun q3 => bO (s_CosetRepresentative q3) fun x6 => gd (decide (v5.length + x6.length ≤ 16777216)) (bO (s_l14One 7 0) fun x7 => gd (decide ((v5 ++ x6).length + ([(x7.1, x7.2.1, x7.2.2.1, x7.2.2.2)]).length ≤ 16777216)) ((s_NormalFormGates_l1 a1 a2 a3 n1) (IntKind.wrap .i64 (v4 + 1)) ((v5 ++ x6) ++ ([(x7.1, x7.2.1, x7.2.2.1, x7.2.2.2)]))))) (s_NormalFormGates_j1 a2 a3 v5)
def s_NormalFormGates (a1 : List Int) (a2 : Int) (a3 : LQ) : Option (LQ) :=
  bO (s_IsValidNormalForm a1 a2 a3) fun x1 => br (!x1) (some ([])) (s_NormalFormGates_l1 a1 a2 a3 FU 0 ([] : LQ))
theorem s_NormalFormGates_ok {a1 : List Int} {a2 : Int} {a3 : LQ} {r : LQ} (h : s_NormalFormGates a1 a2 a3 = some r) :
    Spec Tryz.prog 81 [.agg [.sl (encL EI a1) a1.length, .int .i64 a2, .sl (encL EIIII a3) a3.length]] [] (.own 0 r.length) [.row 48 4 (encL EIIII r)] := by
 unfold s_NormalFormGates at h; refine SO Tryz.func81 rfl Tryz.ntmps81 fun C hN hρ => ?_; simp only [st0, tmps0, Nat.zero_add, Nat.reduceAdd]; refine AN hN ?_; refine AN hN ?_; refine AW_seq ?_; obtain ⟨x1, h1, h⟩ := bO_inv h; refine AP hN (s_IsValidNormalForm_ok h1) ?_; refine AB h (fun hc1 h => ?_) fun hc1 h => ?_
 ·refine AN hN ?_; injection h with h; subst h; refine AW_le (Le_can (lt := [(2, .own 32 0)]) (lr := [(32, .row 48 4 (encL EIIII ([])))]) (b' := 64) [(32, some 1088)] [] hρ (by kernel_rfl) ?_ ?_) (AW_ret (end_q [32] (.inr rfl) (by kernel_rfl) (by kernel_rfl) ?_))
  ·simp only [AL, EV, seval] <;> omega
  ·simp only [AL, EV, seval] <;> omega
  ·simp only [EV, Tryz.results81, seval]
 ·refine AW_skip (AK ?_); refine AW_cutK (fun S => ∃ (v6 : LQ), S = ⟨mkT [(1, .ptr 32 0), (3, .own 33 v6.length)], mkR [(32, .box 118 [.sl (encL EI a1) a1.length, .int .i64 a2, .sl (encL EIIII a3) a3.length]), (33, .row 48 4 (encL EIIII v6))], 64⟩ ∧ s_NormalFormGates_j1 a2 a3 v6 = some r) ?_ ?_
  ·refine AN hN ?_; refine AW_block ?_; refine AW_loopF (fun n S => ∃ (v4 : Int) (v5 : LQ), S = ⟨mkT [(1, .ptr 32 0), (3, .own 33 v5.length), (4, .int .i64 v4)], mkR [(32, .box 118 [.sl (encL EI a1) a1.length, .int .i64 a2, .sl (encL EIIII a3) a3.length]), (33, .row 48 4 (encL EIIII v5))], 64⟩ ∧ s_NormalFormGates_l1 a1 a2 a3 n v4 v5 = some r) FU ?_ ?_ ?_
   ·refine cutL ⟨_, _, rfl, h⟩ (Le_can [(32, some 64), (33, some 1088)] [] hρ (by kernel_rfl) ?_ ?_)
    ·simp only [AL, EV, seval] <;> omega
    ·simp only [AL, EV, seval] <;> omega
   ·rintro S ⟨_, _, _, h⟩; rw [s_NormalFormGates_l1] at h; cases h
   ·rintro n1 S ⟨v4, v5, rfl, h⟩; rw [s_NormalFormGates_l1] at h; refine AW_seq ?_; refine AN hN ?_; refine AB h (fun hc4 h => ?_) fun hc4 h => ?_
    ·refine AW_skip (AK ?_); refine AW_seq ?_; refine AW_block ?_; refine AS hN fun K hK => ?_; obtain ⟨q3, h14, h⟩ := bO_inv h; obtain ⟨⟨h15a, h15b⟩, h15c⟩ := geti_E EIl h14; (try simp only [EV, seval] at h15c); obtain ⟨x6, h16, h⟩ := bO_inv h; simp only [EV, seval, h15a, h15b, h15c]; refine rC_p (s_CosetRepresentative_ok h16) (by simp only [AL, EV, seval, h15a, h15b, h15c]) (le_d rfl) (site_1 (by simp only [EV, seval])) ?_; obtain ⟨h17, h⟩ := gd_inv h; replace h17 := of_decide_eq_true h17; (try simp only [EV, seval] at h17); obtain ⟨x7, h18, h⟩ := bO_inv h; simp only [EV, seval, h15a, h15b, h15c, h17]; refine rC_p (s_l14One_ok h18) (by simp only [AL, EV, seval, h15a, h15b, h15c, h17]) (le_d rfl) (no_j rfl) ?_; obtain ⟨h19, h⟩ := gd_inv h; replace h19 := of_decide_eq_true h19; (try simp only [EV, seval] at h19); simp only [EV, seval, h15a, h15b, h15c, h17, h19]; refine hK _ _ _ (show AW _ _ _ _ _ from ?_); refine AS hN fun K hK => ?_; simp only [EV, seval]; refine hK _ _ _ (show cutK _ _ _ from cutL ⟨_, _, rfl, h⟩ (Le_can [(32, some 32), (33, some 1248)] [] hρ (by kernel_rfl) ?_ ?_))
     ·simp only [AL, EV, seval] <;> omega
     ·simp only [AL, EV, seval] <;> omega
    ·refine AW_exit (show cutK _ _ _ from cutL ⟨_, rfl, h⟩ (Le_can [(32, some 32), (33, some 33)] [] hρ (by kernel_rfl) ?_ ?_))
     ·simp only [AL, EV, seval] <;> omega
     ·simp only [AL, EV, seval] <;> omega
  ·rintro S ⟨v6, rfl, h⟩; unfold s_NormalFormGates_j1 at h; refine AR hN fun K hK => ?_; obtain ⟨x8, h20, h⟩ := bO_inv h; simp only [EV, seval]; refine rC_p (s_CliffordWord_ok h20) (by simp only [AL, EV, seval]) (le_d rfl) (site_1 (by simp only [EV, seval])) ?_; simp only [EV, seval]; refine hK _ _ _ ?_; clear hK K; refine AR hN fun K hK => ?_; obtain ⟨h21, h⟩ := gd_inv h; replace h21 := of_decide_eq_true h21; (try simp only [EV, seval] at h21); simp only [EV, seval, h21]; refine hK _ _ _ ?_; clear hK K; injection h with h; subst h; refine AW_le (Le_can (lt := [(2, .own 32 (v6 ++ x8.1).length)]) (lr := [(32, .row 48 4 (encL EIIII (v6 ++ x8.1)))]) (b' := 64) [(32, some 1120)] [] hρ (by kernel_rfl) ?_ ?_) (AW_ret (end_q [32] (.inr rfl) (by kernel_rfl) (by kernel_rfl) ?_))
   ·simp only [AL, EV, seval, h21] <;> omega
   ·simp only [AL, EV, seval, h21] <;> omega
   ·simp only [EV, Tryz.results81, seval]
end Go.Proofs.YtfjopjalhllplaaGreat
