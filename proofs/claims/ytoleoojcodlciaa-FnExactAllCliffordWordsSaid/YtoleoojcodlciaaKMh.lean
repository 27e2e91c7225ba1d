/- Models of functions, and that the functions do what the models say; printed by a program. -/
import Derived.Test.YtoleoojcodlciaaK1
import Derived.Test.YtoleoojcodlciaaK2
import Derived.Test.YtoleoojcodlciaaKMf
namespace Go.Proofs.Ytoleoojcodlciaa
open Go.RowKit
set_option maxRecDepth 100000
set_option linter.unusedVariables false
set_option linter.unusedSimpArgs false
set_option linter.defProp false
set_option maxHeartbeats 4000000
/- spec.TableauApplyGate -/
def s_TableauApplyGate_j1 (a1 : Int) (v5 : LQ) : Option (Int × LQ × Bool) :=
  some (a1, v5, true)
def s_TableauApplyGate_l1 (a1 : Int) (a2 : LQ) (a3 a4 a5 a6 : Int) : Nat → Int → (LQ) → Option (Int × LQ × Bool)
  | 0, _, _ => none
  | n1 + 1, v3, v4 =>
  br (decide (v3 < ((a2.length : Int)))) (bO (geti a2 v3) fun q3 => bO (s_ConjugatePauli q3.1 q3.2.1 q3.2.2.1 q3.2.2.2 a3 a4 a5 a6) fun x4 => br (!x4.2.2.2.2) (some (0, [], false)) (gd (decide (v4.length + ([(x4.1, x4.2.1, x4.2.2.1, x4.2.2.2.1)]).length ≤ 16777216)) ((s_TableauApplyGate_l1 a1 a2 a3 a4 a5 a6 n1) (IntKind.wrap .i64 (v3 + 1)) (v4 ++ ([(x4.1, x4.2.1, x4.2.2.1, x4.2.2.2.1)]))))) (s_TableauApplyGate_j1 a1 v4)
def s_TableauApplyGate (a1 : Int) (a2 : LQ) (a3 a4 a5 a6 : Int) : Option (Int × LQ × Bool) :=
  bO (s_IsValidTableau a1 a2) fun x1 => br (!x1) (some (0, [], false)) (s_TableauApplyGate_l1 a1 a2 a3 a4 a5 a6 FU 0 ([] : LQ))
theorem s_TableauApplyGate_ok {a1 : Int} {a2 : LQ} {a3 a4 a5 a6 : Int} {r : Int × LQ × Bool} (h : s_TableauApplyGate a1 a2 a3 a4 a5 a6 = some r) :
    Spec Try.prog 87 [.agg [.int .i64 a1, .sl (encL EIIII a2) a2.length], .agg [.int .i64 a3, .int .i64 a4, .int .i64 a5, .int .i64 a6]] [] (.tup [.agg [.int .i64 r.1, .own 0 r.2.1.length], .bool r.2.2]) [.row 26 4 (encL EIIII r.2.1)] := by
 unfold s_TableauApplyGate at h; refine SO Try.func87 rfl Try.ntmps87 fun C hN hρ => ?_; simp only [st0, tmps0, Nat.zero_add, Nat.reduceAdd]; refine AN hN ?_; refine AW_seq ?_; obtain ⟨x1, h1, h⟩ := bO_inv h; refine AP hN (s_IsValidTableau_ok h1) ?_; refine AB h (fun hc1 h => ?_) fun hc1 h => ?_
 ·refine AN hN ?_; injection h with h; subst h; exact AX (b' := 64) [(4, .ptr 32 0), (5, .bool false)] [(32, .box 45 [.int .i64 0, .own 33 0]), (33, .row 26 4 (encL EIIII ([])))] [(32, some 96), (33, none)] [] hρ (EQ [33])
 ·refine AW_skip (AK ?_); refine AN hN ?_; refine AW_cutK (fun S => ∃ (v5 : LQ), S = ⟨mkT [(4, .ptr 32 0), (6, .ptr 33 0)], mkR [(32, .box 45 [.int .i64 0, .nil]), (33, .box 45 [.int .i64 a1, .own 34 v5.length]), (34, .row 26 4 (encL EIIII v5))], 64⟩ ∧ s_TableauApplyGate_j1 a1 v5 = some r) ?_ ?_
  ·refine AN hN ?_; refine AW_block ?_; refine AW_loopF (fun n S => ∃ (v3 : Int) (v4 : LQ), S = ⟨mkT [(2, .ptr 32 0), (3, .ptr 33 0), (4, .ptr 34 0), (6, .ptr 35 0), (7, .int .i64 v3)], mkR [(32, .box 45 [.int .i64 a1, .sl (encL EIIII a2) a2.length]), (33, .box 86 [.int .i64 a3, .int .i64 a4, .int .i64 a5, .int .i64 a6]), (34, .box 45 [.int .i64 0, .nil]), (35, .box 45 [.int .i64 a1, .own 36 v4.length]), (36, .row 26 4 (encL EIIII v4))], 64⟩ ∧ s_TableauApplyGate_l1 a1 a2 a3 a4 a5 a6 n v3 v4 = some r) FU ?_ ?_ ?_
   ·exact AC ⟨_, _, rfl, h⟩ [(32, some 64), (33, some 80), (34, some 96), (35, some 2160), (36, none)] [] hρ
   ·rintro S ⟨_, _, _, h⟩; rw [s_TableauApplyGate_l1] at h; cases h
   ·rintro n1 S ⟨v3, v4, rfl, h⟩; rw [s_TableauApplyGate_l1] at h; refine AW_seq ?_; refine AN hN ?_; refine AB h (fun hc6 h => ?_) fun hc6 h => ?_
    ·refine AW_skip (AK ?_); refine AW_seq ?_; refine AW_block ?_; refine AR hN fun K hK => ?_; obtain ⟨q3, h10, h⟩ := bO_inv h; obtain ⟨⟨h11a, h11b⟩, h11c⟩ := geti_E EIIIIl h10; (try simp only [EV, seval] at h11c); obtain ⟨x4, h12, h⟩ := bO_inv h; simp only [EV, seval, h11a, h11b, h11c]; refine rC_p (s_ConjugatePauli_ok h12) (by simp only [AL, EV, seval, h11a, h11b, h11c]) (le_d rfl) (no_j rfl) ?_; simp only [EV, seval, h11a, h11b, h11c]; refine hK _ _ _ ?_; clear hK K; refine AW_seq ?_; refine AN hN ?_; refine AB h (fun hc7 h => ?_) fun hc7 h => ?_
     ·refine AN hN ?_; injection h with h; subst h; exact AX (b' := 64) [(4, .ptr 32 0), (5, .bool false)] [(32, .box 45 [.int .i64 0, .own 33 0]), (33, .row 26 4 (encL EIIII ([])))] [(32, some 34), (33, none)] [] hρ (EQ [33])
     ·refine AW_skip (AK ?_); refine AS hN fun K hK => ?_; obtain ⟨h13, h⟩ := gd_inv h; replace h13 := of_decide_eq_true h13; (try simp only [EV, seval] at h13); simp only [EV, seval, h13]; refine hK _ _ _ (show AW _ _ _ _ _ from ?_); refine AS hN fun K hK => ?_; simp only [EV, seval]; exact hK _ _ _ (AC ⟨_, _, rfl, h⟩ [(32, some 32), (33, some 33), (34, some 34), (35, some 35), (36, some 3200)] [] hρ)
    ·exact AW_exit (AC ⟨_, rfl, h⟩ [(32, some 34), (33, some 35), (34, some 36)] [] hρ)
  ·rintro S ⟨v5, rfl, h⟩; unfold s_TableauApplyGate_j1 at h; refine AN hN ?_; injection h with h; subst h; exact AX (b' := 64) [(4, .ptr 32 0), (5, .bool true)] [(32, .box 45 [.int .i64 a1, .own 33 v5.length]), (33, .row 26 4 (encL EIIII v5))] [(32, some 32), (33, some 34)] [] hρ (EQ [33])
/- impl.TableauApplyGate -/
def i_TableauApplyGate_j1 (a1 : Int) (v8 : LQ) : Option (Int × LQ × Bool) :=
  some (a1, v8, true)
def i_TableauApplyGate_l1 (a1 : Int) (a2 : LQ) (a3 a4 a5 a6 : Int) : Nat → Int → Int → (LQ) → Option (Int × LQ × Bool)
  | 0, _, _, _ => none
  | n1 + 1, v5, v6, v7 =>
  br (decide (v6 < v5)) (bO (geti a2 v6) fun q3 => bO (i_ConjugatePauli q3.1 q3.2.1 q3.2.2.1 q3.2.2.2 a3 a4 a5 a6) fun x4 => br (!x4.2.2.2.2) (some (0, [], false)) (gd (decide (v7.length + ([(x4.1, x4.2.1, x4.2.2.1, x4.2.2.2.1)]).length ≤ 16777216)) ((i_TableauApplyGate_l1 a1 a2 a3 a4 a5 a6 n1) v5 (IntKind.wrap .i64 (v6 + 1)) (v7 ++ ([(x4.1, x4.2.1, x4.2.2.1, x4.2.2.2.1)]))))) (i_TableauApplyGate_j1 a1 v7)
def i_TableauApplyGate (a1 : Int) (a2 : LQ) (a3 a4 a5 a6 : Int) : Option (Int × LQ × Bool) :=
  bO (i_IsValidTableau a1 a2) fun x1 => br (!x1) (some (0, [], false)) (i_TableauApplyGate_l1 a1 a2 a3 a4 a5 a6 FU ((a2.length : Int)) 0 ([] : LQ))
theorem i_TableauApplyGate_ok {a1 : Int} {a2 : LQ} {a3 a4 a5 a6 : Int} {r : Int × LQ × Bool} (h : i_TableauApplyGate a1 a2 a3 a4 a5 a6 = some r) :
    Spec Try.prog 51 [.agg [.int .i64 a1, .sl (encL EIIII a2) a2.length], .agg [.int .i64 a3, .int .i64 a4, .int .i64 a5, .int .i64 a6]] [] (.tup [.agg [.int .i64 r.1, .own 0 r.2.1.length], .bool r.2.2]) [.row 26 4 (encL EIIII r.2.1)] := by
 unfold i_TableauApplyGate at h; refine SO Try.func51 rfl Try.ntmps51 fun C hN hρ => ?_; simp only [st0, tmps0, Nat.zero_add, Nat.reduceAdd]; refine AN hN ?_; refine AW_seq ?_; obtain ⟨x1, h1, h⟩ := bO_inv h; refine AP hN (i_IsValidTableau_ok h1) ?_; refine AB h (fun hc1 h => ?_) fun hc1 h => ?_
 ·refine AN hN ?_; injection h with h; subst h; exact AX (b' := 64) [(4, .ptr 32 0), (5, .bool false)] [(32, .box 45 [.int .i64 0, .own 33 0]), (33, .row 26 4 (encL EIIII ([])))] [(32, some 96), (33, none)] [] hρ (EQ [33])
 ·refine AW_skip (AK ?_); refine AN hN ?_; refine AW_cutK (fun S => ∃ (v8 : LQ), S = ⟨mkT [(4, .ptr 32 0), (6, .ptr 33 0)], mkR [(32, .box 45 [.int .i64 0, .nil]), (33, .box 45 [.int .i64 a1, .own 34 v8.length]), (34, .row 26 4 (encL EIIII v8))], 64⟩ ∧ i_TableauApplyGate_j1 a1 v8 = some r) ?_ ?_
  ·refine AN hN ?_; refine AW_block ?_; refine AW_loopF (fun n S => ∃ (v5 v6 : Int) (v7 : LQ), S = ⟨mkT [(3, .ptr 32 0), (4, .ptr 33 0), (6, .ptr 34 0), (19, .sl (encL EIIII a2) a2.length), (20, .int .i64 v5), (21, .int .i64 v6)], mkR [(32, .box 86 [.int .i64 a3, .int .i64 a4, .int .i64 a5, .int .i64 a6]), (33, .box 45 [.int .i64 0, .nil]), (34, .box 45 [.int .i64 a1, .own 35 v7.length]), (35, .row 26 4 (encL EIIII v7))], 64⟩ ∧ i_TableauApplyGate_l1 a1 a2 a3 a4 a5 a6 n v5 v6 v7 = some r) FU ?_ ?_ ?_
   ·exact AC ⟨_, _, _, rfl, h⟩ [(32, some 80), (33, some 96), (34, some 2160), (35, none)] [] hρ
   ·rintro S ⟨_, _, _, _, h⟩; rw [i_TableauApplyGate_l1] at h; cases h
   ·rintro n1 S ⟨v5, v6, v7, rfl, h⟩; rw [i_TableauApplyGate_l1] at h; refine AN hN ?_; refine AW_seq ?_; refine AB h (fun hc6 h => ?_) fun hc6 h => ?_
    ·refine AW_skip (AK ?_); refine AW_seq ?_; refine AW_block ?_; refine AR hN fun K hK => ?_; obtain ⟨q3, h10, h⟩ := bO_inv h; obtain ⟨⟨h11a, h11b⟩, h11c⟩ := geti_E EIIIIl h10; (try simp only [EV, seval] at h11c); simp only [EV, seval, h11a, h11b, h11c]; refine hK _ _ _ ?_; clear hK K; obtain ⟨x4, h12, h⟩ := bO_inv h; refine AP hN (i_ConjugatePauli_ok h12) ?_; refine AW_seq ?_; refine AN hN ?_; refine AB h (fun hc7 h => ?_) fun hc7 h => ?_
     ·refine AN hN ?_; injection h with h; subst h; exact AX (b' := 64) [(4, .ptr 32 0), (5, .bool false)] [(32, .box 45 [.int .i64 0, .own 33 0]), (33, .row 26 4 (encL EIIII ([])))] [(32, some 33), (33, none)] [] hρ (EQ [33])
     ·refine AW_skip (AK ?_); refine AS hN fun K hK => ?_; obtain ⟨h13, h⟩ := gd_inv h; replace h13 := of_decide_eq_true h13; (try simp only [EV, seval] at h13); simp only [EV, seval, h13]; refine hK _ _ _ (show AW _ _ _ _ _ from ?_); refine AS hN fun K hK => ?_; simp only [EV, seval]; exact hK _ _ _ (AC ⟨_, _, _, rfl, h⟩ [(32, some 32), (33, some 33), (34, some 34), (35, some 4224)] [] hρ)
    ·exact AW_exit (AC ⟨_, rfl, h⟩ [(32, some 33), (33, some 34), (34, some 35)] [] hρ)
  ·rintro S ⟨v8, rfl, h⟩; unfold i_TableauApplyGate_j1 at h; refine AN hN ?_; injection h with h; subst h; exact AX (b' := 64) [(4, .ptr 32 0), (5, .bool true)] [(32, .box 45 [.int .i64 a1, .own 33 v8.length]), (33, .row 26 4 (encL EIIII v8))] [(32, some 32), (33, some 34)] [] hρ (EQ [33])
end Go.Proofs.Ytoleoojcodlciaa
