/- Models of functions, and that the functions do what the models say; printed by a program. -/
import Derived.Test.YtflfodcgoffjkaaK1
namespace Go.Proofs.Ytflfodcgoffjkaa
open Go.RowKit
set_option maxRecDepth 100000
set_option linter.unusedVariables false
set_option linter.unusedSimpArgs false
set_option linter.defProp false
set_option maxHeartbeats 4000000
/- spec.l14One -/
def s_l14One (a1 a2 : Int) : Option (Int × Int × Int × Int) :=
  some (a1, a2, 0, 0)
theorem s_l14One_ok {a1 a2 : Int} {r : Int × Int × Int × Int} (h : s_l14One a1 a2 = some r) :
    Spec Try.prog 98 [.int .i64 a1, .int .i64 a2] [] (.agg [.int .i64 r.1, .int .i64 r.2.1, .int .i64 r.2.2.1, .int .i64 r.2.2.2]) [] := by
 unfold s_l14One at h; refine SO Try.func98 rfl Try.ntmps98 fun C hN hρ => ?_; simp only [st0, tmps0, Nat.zero_add, Nat.reduceAdd]; refine AN hN ?_; refine AN hN ?_; injection h with h; subst h; exact AX (b' := 64) [(4, .ptr 32 0)] [(32, .box 88 [.int .i64 a1, .int .i64 a2, .int .i64 0, .int .i64 0])] [(32, some 64)] [] hρ (EQ [])
/- spec.EqualTableau -/
def s_EqualTableau_j2 : Option Bool :=
  some true
def s_EqualTableau_l1 (a2 : LQ) (a4 : LQ) : Nat → Int → Option Bool
  | 0, _ => none
  | n1 + 1, v3 =>
  br (decide (v3 < ((a2.length : Int)))) (bO (geti a2 v3) fun q5 => bO (geti a4 v3) fun q6 => br (!((q5.1 == q6.1) && ((q5.2.1 == q6.2.1) && ((q5.2.2.1 == q6.2.2.1) && (q5.2.2.2 == q6.2.2.2))))) (some false) ((s_EqualTableau_l1 a2 a4 n1) (IntKind.wrap .i64 (v3 + 1)))) (s_EqualTableau_j2)
def s_EqualTableau_j1 (a2 : LQ) (a4 : LQ) (v1 : Bool) : Option Bool :=
  br v1 (some false) (s_EqualTableau_l1 a2 a4 FU 0)
def s_EqualTableau (a1 : Int) (a2 : LQ) (a3 : Int) (a4 : LQ) : Option Bool :=
  bO (br (a1 != a3) (some true) (some (((a2.length : Int)) != ((a4.length : Int))))) fun x1 => s_EqualTableau_j1 a2 a4 x1
theorem s_EqualTableau_ok {a1 : Int} {a2 : LQ} {a3 : Int} {a4 : LQ} {r : Bool} (h : s_EqualTableau a1 a2 a3 a4 = some r) :
    Spec Try.prog 103 [.agg [.int .i64 a1, .sl (encL EIIII a2) a2.length], .agg [.int .i64 a3, .sl (encL EIIII a4) a4.length]] [] (.bool r) [] := by
 unfold s_EqualTableau at h; refine SO Try.func103 rfl Try.ntmps103 fun C hN hρ => ?_; simp only [st0, tmps0, Nat.zero_add, Nat.reduceAdd]; refine AN hN ?_; refine AW_seq ?_; refine AJ (fun S => ∃ (v1 : Bool), S = ⟨mkT [(2, .ptr 32 0), (3, .ptr 33 0), (19, .bool v1)], mkR [(32, .box 45 [.int .i64 a1, .sl (encL EIIII a2) a2.length]), (33, .box 45 [.int .i64 a3, .sl (encL EIIII a4) a4.length])], 64⟩ ∧ s_EqualTableau_j1 a2 a4 v1 = some r) hN ?_ ?_
 ·intro K hK; obtain ⟨x1, hv1, h⟩ := bO_inv h; rcases br_inv hv1 with ⟨hc1, hv1⟩ | ⟨hc1, hv1⟩
  ·cases hv1; simp only [EV, seval, hc1]; refine hK _ _ _ (show cutK _ _ _ from cutL ⟨_, rfl, h⟩ (Le_can [(32, some 64), (33, some 80)] [] hρ (by kernel_rfl) ?_ ?_))
   ·simp only [AL, EV, seval, hc1]
   ·simp only [AL, EV, seval, hc1]
  ·cases hv1; simp only [EV, seval, hc1]; refine hK _ _ _ (show cutK _ _ _ from cutL ⟨_, rfl, h⟩ (Le_can [(32, some 64), (33, some 80)] [] hρ (by kernel_rfl) ?_ ?_))
   ·simp only [AL, EV, seval, hc1]
   ·simp only [AL, EV, seval, hc1]
 ·rintro S ⟨v1, rfl, h⟩; unfold s_EqualTableau_j1 at h; refine AB h (fun hc2 h => ?_) fun hc2 h => ?_
  ·refine AN hN ?_; injection h with h; subst h; exact AX (b' := 64) [(4, .bool false)] [] [] [] hρ (EQ [])
  ·refine AW_skip (AK ?_); refine AW_cutK (fun S => S = ⟨mkT [], mkR [], 64⟩ ∧ s_EqualTableau_j2 = some r) ?_ ?_
   ·refine AN hN ?_; refine AW_block ?_; refine AW_loopF (fun n S => ∃ (v3 : Int), S = ⟨mkT [(2, .ptr 32 0), (3, .ptr 33 0), (5, .int .i64 v3)], mkR [(32, .box 45 [.int .i64 a1, .sl (encL EIIII a2) a2.length]), (33, .box 45 [.int .i64 a3, .sl (encL EIIII a4) a4.length])], 64⟩ ∧ s_EqualTableau_l1 a2 a4 n v3 = some r) FU ?_ ?_ ?_
    ·exact AC ⟨_, rfl, h⟩ [(32, some 32), (33, some 33)] [] hρ
    ·rintro S ⟨_, _, h⟩; rw [s_EqualTableau_l1] at h; cases h
    ·rintro n1 S ⟨v3, rfl, h⟩; rw [s_EqualTableau_l1] at h; refine AW_seq ?_; refine AN hN ?_; refine AB h (fun hc7 h => ?_) fun hc7 h => ?_
     ·refine AW_skip (AK ?_); refine AW_seq ?_; refine AW_block ?_; refine AR hN fun K hK => ?_; obtain ⟨q5, h9, h⟩ := bO_inv h; obtain ⟨⟨h10a, h10b⟩, h10c⟩ := geti_E EIIIIl h9; (try simp only [EV, seval] at h10c); obtain ⟨q6, h11, h⟩ := bO_inv h; obtain ⟨⟨h12a, h12b⟩, h12c⟩ := geti_E EIIIIl h11; (try simp only [EV, seval] at h12c); simp only [EV, seval, h10a, h10b, h10c, h12a, h12b, h12c]; refine hK _ _ _ ?_; clear hK K; refine AW_condK (a := .bool (!((q5.1 == q6.1) && ((q5.2.1 == q6.2.1) && ((q5.2.2.1 == q6.2.2.1) && (q5.2.2.2 == q6.2.2.2)))))) (by simp only [EV, seval, h10a, h10b, h10c, h12a, h12b, h12c]) (brK h (fun hc8 h => ?_) (fun hc8 h => ?_))
      ·refine AN hN ?_; injection h with h; subst h; exact AX (b' := 64) [(4, .bool false)] [] [] [] hρ (EQ [])
      ·refine AW_skip (AK ?_); refine AS hN fun K hK => ?_; simp only [EV, seval]; exact hK _ _ _ (AC ⟨_, rfl, h⟩ [(32, some 32), (33, some 33)] [] hρ)
     ·exact AW_exit (AC ⟨rfl, h⟩ [] [] hρ)
   ·rintro S ⟨rfl, h⟩; unfold s_EqualTableau_j2 at h; refine AN hN ?_; injection h with h; subst h; exact AX (b' := 64) [(4, .bool true)] [] [] [] hρ (EQ [])
/- spec.InverseGate -/
def s_InverseGate_j1 (a2 a3 a4 v1 : Int) : Option (Int × Int × Int × Int) :=
  some (v1, a2, a3, a4)
def s_InverseGate (a1 a2 a3 a4 : Int) : Option (Int × Int × Int × Int) :=
  br (a1 == 5) (s_InverseGate_j1 a2 a3 a4 6) (br (a1 == 6) (s_InverseGate_j1 a2 a3 a4 5) (br (a1 == 7) (s_InverseGate_j1 a2 a3 a4 8) (br (a1 == 8) (s_InverseGate_j1 a2 a3 a4 7) (s_InverseGate_j1 a2 a3 a4 a1))))
theorem s_InverseGate_ok {a1 a2 a3 a4 : Int} {r : Int × Int × Int × Int} (h : s_InverseGate a1 a2 a3 a4 = some r) :
    Spec Try.prog 218 [.agg [.int .i64 a1, .int .i64 a2, .int .i64 a3, .int .i64 a4]] [] (.agg [.int .i64 r.1, .int .i64 r.2.1, .int .i64 r.2.2.1, .int .i64 r.2.2.2]) [] := by
 unfold s_InverseGate at h; refine SO Try.func218 rfl Try.ntmps218 fun C hN hρ => ?_; simp only [st0, tmps0, Nat.zero_add, Nat.reduceAdd]; refine AN hN ?_; refine AW_cutK (fun S => ∃ (v1 : Int), S = ⟨mkT [(1, .ptr 32 0), (2, .ptr 33 0)], mkR [(32, .box 88 [.int .i64 v1, .int .i64 a2, .int .i64 a3, .int .i64 a4]), (33, .box 88 [.int .i64 0, .int .i64 0, .int .i64 0, .int .i64 0])], 64⟩ ∧ s_InverseGate_j1 a2 a3 a4 v1 = some r) ?_ ?_
 ·refine AN hN ?_; refine AW_block ?_; refine AN hN ?_; refine AB h (fun hc1 h => ?_) fun hc1 h => ?_
  ·refine AS hN fun K hK => ?_; simp only [EV, seval]; exact hK _ _ _ (AC ⟨_, rfl, h⟩ [(32, some 64), (33, some 80)] [] hρ)
  ·refine AN hN ?_; refine AB h (fun hc2 h => ?_) fun hc2 h => ?_
   ·refine AS hN fun K hK => ?_; simp only [EV, seval]; exact hK _ _ _ (AC ⟨_, rfl, h⟩ [(32, some 64), (33, some 80)] [] hρ)
   ·refine AN hN ?_; refine AB h (fun hc3 h => ?_) fun hc3 h => ?_
    ·refine AS hN fun K hK => ?_; simp only [EV, seval]; exact hK _ _ _ (AC ⟨_, rfl, h⟩ [(32, some 64), (33, some 80)] [] hρ)
    ·refine AN hN ?_; refine AB h (fun hc4 h => ?_) fun hc4 h => ?_
     ·refine AS hN fun K hK => ?_; simp only [EV, seval]; exact hK _ _ _ (AC ⟨_, rfl, h⟩ [(32, some 64), (33, some 80)] [] hρ)
     ·refine AW_skip (show cutK _ _ _ from cutL ⟨_, rfl, h⟩ (Le_can [(32, some 64), (33, some 80)] [] hρ (by kernel_rfl) ?_ ?_))
      ·simp only [AL, EV, seval]
      ·simp only [AL, EV, seval]
 ·rintro S ⟨v1, rfl, h⟩; unfold s_InverseGate_j1 at h; refine AN hN ?_; injection h with h; subst h; exact AX (b' := 64) [(2, .ptr 32 0)] [(32, .box 88 [.int .i64 v1, .int .i64 a2, .int .i64 a3, .int .i64 a4])] [(32, some 33)] [] hρ (EQ [])
end Go.Proofs.Ytflfodcgoffjkaa
