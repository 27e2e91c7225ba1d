/- Joined texts: Msg Men. -/
import Derived.Test.YtbkkfmcjfbbkaaaGreatK1
import Derived.Test.YtbkkfmcjfbbkaaaGreatK5
/- Models of functions, and that the functions do what the models say; printed by a program. -/
namespace Go.Proofs.YtbkkfmcjfbbkaaaGreat
open Go.RowKit
set_option maxRecDepth 100000
set_option linter.unusedVariables false
set_option linter.unusedSimpArgs false
set_option linter.defProp false
set_option maxHeartbeats 4000000
/- laws.sameGates -/
def l_sameGates_j1 : Option Bool :=
  some true
def l_sameGates_l1 (a1 : LQ) (a2 : LQ) : Nat → Int → Option Bool
  | 0, _ => none
  | n1 + 1, v2 =>
  br (decide (v2 < ((a1.length : Int)))) (bO (geti a1 v2) fun q5 => bO (geti a2 v2) fun q6 => br (!((q5.1 == q6.1) && ((q5.2.1 == q6.2.1) && ((q5.2.2.1 == q6.2.2.1) && (q5.2.2.2 == q6.2.2.2))))) (some false) ((l_sameGates_l1 a1 a2 n1) (IntKind.wrap .i64 (v2 + 1)))) (l_sameGates_j1)
def l_sameGates (a1 : LQ) (a2 : LQ) : Option Bool :=
  br (((a1.length : Int)) != ((a2.length : Int))) (some false) (l_sameGates_l1 a1 a2 FU 0)
theorem l_sameGates_ok {a1 : LQ} {a2 : LQ} {r : Bool} (h : l_sameGates a1 a2 = some r) :
    Spec Tryz.prog 10 [.sl (encL EIIII a1) a1.length, .sl (encL EIIII a2) a2.length] [] (.bool r) [] := by
 unfold l_sameGates at h; refine SO Tryz.func10 rfl Tryz.ntmps10 fun C hN hρ => ?_; simp only [st0, tmps0, Nat.zero_add, Nat.reduceAdd]; refine AR hN fun K hK => ?_; simp only [EV, seval]; refine hK _ _ _ ?_; clear hK K; refine AW_seq ?_; refine AR hN fun K hK => ?_; simp only [EV, seval]; refine hK _ _ _ ?_; clear hK K; refine AB h (fun hc1 h => ?_) fun hc1 h => ?_
 ·refine AR hN fun K hK => ?_; simp only [EV, seval]; refine hK _ _ _ ?_; clear hK K; injection h with h; subst h; exact AX (b' := 64) [(4, .bool false)] [] [] [] hρ (EQ [] (by simp only [EV, Tryz.results10, seval]))
 ·refine AW_skip (AK ?_); refine AW_cutK (fun S => S = ⟨mkT [], mkR [], 64⟩ ∧ l_sameGates_j1 = some r) ?_ ?_
  ·refine AR hN fun K hK => ?_; simp only [EV, seval]; refine hK _ _ _ ?_; clear hK K; refine AW_block ?_; refine AW_loopF (fun n S => ∃ (v2 : Int), S = ⟨mkT [(0, .sl (encL EIIII a1) a1.length), (1, .sl (encL EIIII a2) a2.length), (5, .int .i64 v2)], mkR [], 64⟩ ∧ l_sameGates_l1 a1 a2 n v2 = some r) FU ?_ ?_ ?_
   ·refine cutL ⟨_, rfl, h⟩ (Le_can [] [] hρ (by kernel_rfl) ?_ ?_)
    ·simp only [AL, EV, seval]
    ·simp only [AL, EV, seval]
   ·rintro S ⟨_, _, h⟩; rw [l_sameGates_l1] at h; cases h
   ·rintro n1 S ⟨v2, rfl, h⟩; rw [l_sameGates_l1] at h; refine AW_seq ?_; refine AR hN fun K hK => ?_; simp only [EV, seval]; refine hK _ _ _ ?_; clear hK K; refine AB h (fun hc6 h => ?_) fun hc6 h => ?_
    ·refine AW_skip (AK ?_); refine AW_seq ?_; refine AW_block ?_; refine AR hN fun K hK => ?_; obtain ⟨q5, h9, h⟩ := bO_inv h; obtain ⟨⟨h10a, h10b⟩, h10c⟩ := geti_E EIIIIl h9; (try simp only [EV, seval] at h10c); obtain ⟨q6, h11, h⟩ := bO_inv h; obtain ⟨⟨h12a, h12b⟩, h12c⟩ := geti_E EIIIIl h11; (try simp only [EV, seval] at h12c); simp only [EV, seval, h10a, h10b, h10c, h12a, h12b, h12c]; refine hK _ _ _ ?_; clear hK K; refine AW_condK (a := .bool (!((q5.1 == q6.1) && ((q5.2.1 == q6.2.1) && ((q5.2.2.1 == q6.2.2.1) && (q5.2.2.2 == q6.2.2.2)))))) (by simp only [EV, seval, h10a, h10b, h10c, h12a, h12b, h12c]) (brK h (fun hc7 h => ?_) (fun hc7 h => ?_))
     ·refine AR hN fun K hK => ?_; simp only [EV, seval]; refine hK _ _ _ ?_; clear hK K; injection h with h; subst h; exact AX (b' := 64) [(4, .bool false)] [] [] [] hρ (EQ [] (by simp only [EV, Tryz.results10, seval]))
     ·refine AW_skip (AK ?_); refine AS hN fun K hK => ?_; simp only [EV, seval]; exact hK _ _ _ (AC ⟨_, rfl, h⟩ [] [] hρ)
    ·refine AW_exit (show cutK _ _ _ from cutL ⟨rfl, h⟩ (Le_can [] [] hρ (by kernel_rfl) ?_ ?_))
     ·simp only [AL, EV, seval]
     ·simp only [AL, EV, seval]
  ·rintro S ⟨rfl, h⟩; unfold l_sameGates_j1 at h; refine AR hN fun K hK => ?_; simp only [EV, seval]; refine hK _ _ _ ?_; clear hK K; injection h with h; subst h; exact AX (b' := 64) [(4, .bool true)] [] [] [] hρ (EQ [] (by simp only [EV, Tryz.results10, seval]))
end Go.Proofs.YtbkkfmcjfbbkaaaGreat
/- Models of functions, and that the functions do what the models say; printed by a program. -/
namespace Go.Proofs.YtbkkfmcjfbbkaaaGreat
open Go.RowKit
set_option maxRecDepth 100000
set_option linter.unusedVariables false
set_option linter.unusedSimpArgs false
set_option linter.defProp false
set_option maxHeartbeats 4000000
/- spec.l1Ints -/
def s_l1Ints_j1 : Option Bool :=
  some true
def s_l1Ints_l1 (a1 : List Int) (a2 : List Int) : Nat → Int → Option Bool
  | 0, _ => none
  | n1 + 1, v2 =>
  br (decide (v2 < ((a1.length : Int)))) (bO (geti a1 v2) fun q5 => bO (geti a2 v2) fun q6 => br (q5 != q6) (some false) ((s_l1Ints_l1 a1 a2 n1) (IntKind.wrap .i64 (v2 + 1)))) (s_l1Ints_j1)
def s_l1Ints (a1 : List Int) (a2 : List Int) : Option Bool :=
  br (((a1.length : Int)) != ((a2.length : Int))) (some false) (s_l1Ints_l1 a1 a2 FU 0)
theorem s_l1Ints_ok {a1 : List Int} {a2 : List Int} {r : Bool} (h : s_l1Ints a1 a2 = some r) :
    Spec Tryz.prog 45 [.sl (encL EI a1) a1.length, .sl (encL EI a2) a2.length] [] (.bool r) [] := by
 unfold s_l1Ints at h; refine SO Tryz.func45 rfl Tryz.ntmps45 fun C hN hρ => ?_; simp only [st0, tmps0, Nat.zero_add, Nat.reduceAdd]; refine AR hN fun K hK => ?_; simp only [EV, seval]; refine hK _ _ _ ?_; clear hK K; refine AW_seq ?_; refine AR hN fun K hK => ?_; simp only [EV, seval]; refine hK _ _ _ ?_; clear hK K; refine AB h (fun hc1 h => ?_) fun hc1 h => ?_
 ·refine AR hN fun K hK => ?_; simp only [EV, seval]; refine hK _ _ _ ?_; clear hK K; injection h with h; subst h; exact AX (b' := 64) [(4, .bool false)] [] [] [] hρ (EQ [] (by simp only [EV, Tryz.results45, seval]))
 ·refine AW_skip (AK ?_); refine AW_cutK (fun S => S = ⟨mkT [], mkR [], 64⟩ ∧ s_l1Ints_j1 = some r) ?_ ?_
  ·refine AR hN fun K hK => ?_; simp only [EV, seval]; refine hK _ _ _ ?_; clear hK K; refine AW_block ?_; refine AW_loopF (fun n S => ∃ (v2 : Int), S = ⟨mkT [(0, .sl (encL EI a1) a1.length), (1, .sl (encL EI a2) a2.length), (5, .int .i64 v2)], mkR [], 64⟩ ∧ s_l1Ints_l1 a1 a2 n v2 = some r) FU ?_ ?_ ?_
   ·refine cutL ⟨_, rfl, h⟩ (Le_can [] [] hρ (by kernel_rfl) ?_ ?_)
    ·simp only [AL, EV, seval]
    ·simp only [AL, EV, seval]
   ·rintro S ⟨_, _, h⟩; rw [s_l1Ints_l1] at h; cases h
   ·rintro n1 S ⟨v2, rfl, h⟩; rw [s_l1Ints_l1] at h; refine AW_seq ?_; refine AR hN fun K hK => ?_; simp only [EV, seval]; refine hK _ _ _ ?_; clear hK K; refine AB h (fun hc6 h => ?_) fun hc6 h => ?_
    ·refine AW_skip (AK ?_); refine AW_seq ?_; refine AW_block ?_; refine AR hN fun K hK => ?_; obtain ⟨q5, h9, h⟩ := bO_inv h; obtain ⟨⟨h10a, h10b⟩, h10c⟩ := geti_E EIl h9; (try simp only [EV, seval] at h10c); obtain ⟨q6, h11, h⟩ := bO_inv h; obtain ⟨⟨h12a, h12b⟩, h12c⟩ := geti_E EIl h11; (try simp only [EV, seval] at h12c); simp only [EV, seval, h10a, h10b, h10c, h12a, h12b, h12c]; refine hK _ _ _ ?_; clear hK K; refine AW_condK (a := .bool (q5 != q6)) (by simp only [EV, seval, h10a, h10b, h10c, h12a, h12b, h12c]) (brK h (fun hc7 h => ?_) (fun hc7 h => ?_))
     ·refine AR hN fun K hK => ?_; simp only [EV, seval]; refine hK _ _ _ ?_; clear hK K; injection h with h; subst h; exact AX (b' := 64) [(4, .bool false)] [] [] [] hρ (EQ [] (by simp only [EV, Tryz.results45, seval]))
     ·refine AW_skip (AK ?_); refine AS hN fun K hK => ?_; simp only [EV, seval]; exact hK _ _ _ (AC ⟨_, rfl, h⟩ [] [] hρ)
    ·refine AW_exit (show cutK _ _ _ from cutL ⟨rfl, h⟩ (Le_can [] [] hρ (by kernel_rfl) ?_ ?_))
     ·simp only [AL, EV, seval]
     ·simp only [AL, EV, seval]
  ·rintro S ⟨rfl, h⟩; unfold s_l1Ints_j1 at h; refine AR hN fun K hK => ?_; simp only [EV, seval]; refine hK _ _ _ ?_; clear hK K; injection h with h; subst h; exact AX (b' := 64) [(4, .bool true)] [] [] [] hρ (EQ [] (by simp only [EV, Tryz.results45, seval]))
/- spec.EqualNormalForm -/
def s_EqualNormalForm_j1 (v1 : Bool) : Option Bool :=
  some v1
def s_EqualNormalForm (a1 : List Int) (a2 : Int) (a3 : LQ) (a4 : List Int) (a5 : Int) (a6 : LQ) : Option Bool :=
  bO (s_l1Ints a1 a4) fun x1 => bO (br x1 (bO (s_EqualTableau a2 a3 a5 a6) fun x2 => some x2) (some false)) fun x3 => s_EqualNormalForm_j1 x3
theorem s_EqualNormalForm_ok {a1 : List Int} {a2 : Int} {a3 : LQ} {a4 : List Int} {a5 : Int} {a6 : LQ} {r : Bool} (h : s_EqualNormalForm a1 a2 a3 a4 a5 a6 = some r) :
    Spec Tryz.prog 16 [.agg [.sl (encL EI a1) a1.length, .int .i64 a2, .sl (encL EIIII a3) a3.length], .agg [.sl (encL EI a4) a4.length, .int .i64 a5, .sl (encL EIIII a6) a6.length]] [] (.bool r) [] := by
 unfold s_EqualNormalForm at h; refine SO Tryz.func16 rfl Tryz.ntmps16 fun C hN hρ => ?_; simp only [st0, tmps0, Nat.zero_add, Nat.reduceAdd]; refine AR hN fun K hK => ?_; simp only [EV, seval]; refine hK _ _ _ ?_; clear hK K; refine AJ (fun S => ∃ (v1 : Bool), S = ⟨mkT [(4, .bool v1)], mkR [], 64⟩ ∧ s_EqualNormalForm_j1 v1 = some r) hN ?_ ?_
 ·intro K hK; obtain ⟨x1, h1, h⟩ := bO_inv h; simp only [EV, seval]; refine CP (s_l1Ints_ok h1) ?_; obtain ⟨x3, hv1, h⟩ := bO_inv h; rcases br_inv hv1 with ⟨hc1, hv1⟩ | ⟨hc1, hv1⟩
  ·obtain ⟨x4, h3, hv1⟩ := bO_inv hv1; simp only [EV, seval, hc1]; refine rC_p (s_EqualTableau_ok h3) (by simp only [AL, EV, seval, hc1]) (le_d rfl) (no_j rfl) ?_; cases hv1; simp only [EV, seval, hc1]; refine hK _ _ _ (show cutK _ _ _ from cutL ⟨_, rfl, h⟩ (Le_can [] [] hρ (by kernel_rfl) ?_ ?_))
   ·simp only [AL, EV, seval, hc1]
   ·simp only [AL, EV, seval, hc1]
  ·cases hv1; simp only [EV, seval, hc1]; refine hK _ _ _ (show cutK _ _ _ from cutL ⟨_, rfl, h⟩ (Le_can [] [] hρ (by kernel_rfl) ?_ ?_))
   ·simp only [AL, EV, seval, hc1]
   ·simp only [AL, EV, seval, hc1]
 ·rintro S ⟨v1, rfl, h⟩; unfold s_EqualNormalForm_j1 at h; injection h with h; subst h; exact AX (b' := 64) [(4, .bool v1)] [] [] [] hρ (EQ [] (by simp only [EV, Tryz.results16, seval]))
/- impl.same[int] -/
def i_same_int__j1 : Option Bool :=
  some true
def i_same_int__l1 (a1 : List Int) (a2 : List Int) : Nat → Int → Int → Option Bool
  | 0, _, _ => none
  | n1 + 1, v4, v5 =>
  br (decide (v5 < v4)) (bO (geti a1 v5) fun q5 => bO (geti a2 v5) fun q6 => br (q5 != q6) (some false) ((i_same_int__l1 a1 a2 n1) v4 (IntKind.wrap .i64 (v5 + 1)))) (i_same_int__j1)
def i_same_int_ (a1 : List Int) (a2 : List Int) : Option Bool :=
  br (((a1.length : Int)) != ((a2.length : Int))) (some false) (i_same_int__l1 a1 a2 FU ((a1.length : Int)) 0)
theorem i_same_int__ok {a1 : List Int} {a2 : List Int} {r : Bool} (h : i_same_int_ a1 a2 = some r) :
    Spec Tryz.prog 43 [.sl (encL EI a1) a1.length, .sl (encL EI a2) a2.length] [] (.bool r) [] := by
 unfold i_same_int_ at h; refine SO Tryz.func43 rfl Tryz.ntmps43 fun C hN hρ => ?_; simp only [st0, tmps0, Nat.zero_add, Nat.reduceAdd]; refine AR hN fun K hK => ?_; simp only [EV, seval]; refine hK _ _ _ ?_; clear hK K; refine AW_seq ?_; refine AR hN fun K hK => ?_; simp only [EV, seval]; refine hK _ _ _ ?_; clear hK K; refine AB h (fun hc1 h => ?_) fun hc1 h => ?_
 ·refine AR hN fun K hK => ?_; simp only [EV, seval]; refine hK _ _ _ ?_; clear hK K; injection h with h; subst h; exact AX (b' := 64) [(4, .bool false)] [] [] [] hρ (EQ [] (by simp only [EV, Tryz.results43, seval]))
 ·refine AW_skip (AK ?_); refine AW_cutK (fun S => S = ⟨mkT [], mkR [], 64⟩ ∧ i_same_int__j1 = some r) ?_ ?_
  ·refine AR hN fun K hK => ?_; simp only [EV, seval]; refine hK _ _ _ ?_; clear hK K; refine AW_block ?_; refine AW_loopF (fun n S => ∃ (v4 : Int) (v5 : Int), S = ⟨mkT [(0, .sl (encL EI a1) a1.length), (1, .sl (encL EI a2) a2.length), (12, .int .i64 v4), (13, .int .i64 v5)], mkR [], 64⟩ ∧ i_same_int__l1 a1 a2 n v4 v5 = some r) FU ?_ ?_ ?_
   ·refine cutL ⟨_, _, rfl, h⟩ (Le_can [] [] hρ (by kernel_rfl) ?_ ?_)
    ·simp only [AL, EV, seval]
    ·simp only [AL, EV, seval]
   ·rintro S ⟨_, _, _, h⟩; rw [i_same_int__l1] at h; cases h
   ·rintro n1 S ⟨v4, v5, rfl, h⟩; rw [i_same_int__l1] at h; refine AR hN fun K hK => ?_; simp only [EV, seval]; refine hK _ _ _ ?_; clear hK K; refine AW_seq ?_; refine AB h (fun hc6 h => ?_) fun hc6 h => ?_
    ·refine AW_skip (AK ?_); refine AW_seq ?_; refine AW_block ?_; refine AR hN fun K hK => ?_; simp only [EV, seval]; refine hK _ _ _ ?_; clear hK K; refine AR hN fun K hK => ?_; obtain ⟨q5, h9, h⟩ := bO_inv h; obtain ⟨⟨h10a, h10b⟩, h10c⟩ := geti_E EIl h9; (try simp only [EV, seval] at h10c); obtain ⟨q6, h11, h⟩ := bO_inv h; obtain ⟨⟨h12a, h12b⟩, h12c⟩ := geti_E EIl h11; (try simp only [EV, seval] at h12c); simp only [EV, seval, h10a, h10b, h10c, h12a, h12b, h12c]; refine hK _ _ _ ?_; clear hK K; refine AW_condK (a := .bool (q5 != q6)) (by simp only [EV, seval, h10a, h10b, h10c, h12a, h12b, h12c]) (brK h (fun hc7 h => ?_) (fun hc7 h => ?_))
     ·refine AR hN fun K hK => ?_; simp only [EV, seval]; refine hK _ _ _ ?_; clear hK K; injection h with h; subst h; exact AX (b' := 64) [(4, .bool false)] [] [] [] hρ (EQ [] (by simp only [EV, Tryz.results43, seval]))
     ·refine AW_skip (AK ?_); refine AS hN fun K hK => ?_; simp only [EV, seval]; exact hK _ _ _ (AC ⟨_, _, rfl, h⟩ [] [] hρ)
    ·refine AW_exit (show cutK _ _ _ from cutL ⟨rfl, h⟩ (Le_can [] [] hρ (by kernel_rfl) ?_ ?_))
     ·simp only [AL, EV, seval]
     ·simp only [AL, EV, seval]
  ·rintro S ⟨rfl, h⟩; unfold i_same_int__j1 at h; refine AR hN fun K hK => ?_; simp only [EV, seval]; refine hK _ _ _ ?_; clear hK K; injection h with h; subst h; exact AX (b' := 64) [(4, .bool true)] [] [] [] hρ (EQ [] (by simp only [EV, Tryz.results43, seval]))
/- impl.EqualNormalForm -/
def i_EqualNormalForm_j1 (v1 : Bool) : Option Bool :=
  some v1
def i_EqualNormalForm (a1 : List Int) (a2 : Int) (a3 : LQ) (a4 : List Int) (a5 : Int) (a6 : LQ) : Option Bool :=
  bO (i_same_int_ a1 a4) fun x1 => bO (br x1 (bO (i_EqualTableau a2 a3 a5 a6) fun x2 => some x2) (some false)) fun x3 => i_EqualNormalForm_j1 x3
theorem i_EqualNormalForm_ok {a1 : List Int} {a2 : Int} {a3 : LQ} {a4 : List Int} {a5 : Int} {a6 : LQ} {r : Bool} (h : i_EqualNormalForm a1 a2 a3 a4 a5 a6 = some r) :
    Spec Tryz.prog 15 [.agg [.sl (encL EI a1) a1.length, .int .i64 a2, .sl (encL EIIII a3) a3.length], .agg [.sl (encL EI a4) a4.length, .int .i64 a5, .sl (encL EIIII a6) a6.length]] [] (.bool r) [] := by
 unfold i_EqualNormalForm at h; refine SO Tryz.func15 rfl Tryz.ntmps15 fun C hN hρ => ?_; simp only [st0, tmps0, Nat.zero_add, Nat.reduceAdd]; refine AR hN fun K hK => ?_; simp only [EV, seval]; refine hK _ _ _ ?_; clear hK K; refine AJ (fun S => ∃ (v1 : Bool), S = ⟨mkT [(4, .bool v1)], mkR [], 64⟩ ∧ i_EqualNormalForm_j1 v1 = some r) hN ?_ ?_
 ·intro K hK; obtain ⟨x1, h1, h⟩ := bO_inv h; simp only [EV, seval]; refine CP (i_same_int__ok h1) ?_; obtain ⟨x3, hv1, h⟩ := bO_inv h; rcases br_inv hv1 with ⟨hc1, hv1⟩ | ⟨hc1, hv1⟩
  ·obtain ⟨x4, h3, hv1⟩ := bO_inv hv1; simp only [EV, seval, hc1]; refine rC_p (i_EqualTableau_ok h3) (by simp only [AL, EV, seval, hc1]) (le_d rfl) (no_j rfl) ?_; cases hv1; simp only [EV, seval, hc1]; refine hK _ _ _ (show cutK _ _ _ from cutL ⟨_, rfl, h⟩ (Le_can [] [] hρ (by kernel_rfl) ?_ ?_))
   ·simp only [AL, EV, seval, hc1]
   ·simp only [AL, EV, seval, hc1]
  ·cases hv1; simp only [EV, seval, hc1]; refine hK _ _ _ (show cutK _ _ _ from cutL ⟨_, rfl, h⟩ (Le_can [] [] hρ (by kernel_rfl) ?_ ?_))
   ·simp only [AL, EV, seval, hc1]
   ·simp only [AL, EV, seval, hc1]
 ·rintro S ⟨v1, rfl, h⟩; unfold i_EqualNormalForm_j1 at h; injection h with h; subst h; exact AX (b' := 64) [(4, .bool v1)] [] [] [] hρ (EQ [] (by simp only [EV, Tryz.results15, seval]))
end Go.Proofs.YtbkkfmcjfbbkaaaGreat
