/- Joined texts: Mh Mi Mj. -/
import Derived.Test.YtfjopjalhllplaaGreatK1
import Derived.Test.YtfjopjalhllplaaGreatK2
import Derived.Test.YtfjopjalhllplaaGreatKMf
/- Models of functions, and that the functions do what the models say; printed by a program. -/
namespace Go.Proofs.YtfjopjalhllplaaGreat
open Go.RowKit
set_option maxRecDepth 100000
set_option linter.unusedVariables false
set_option linter.unusedSimpArgs false
set_option linter.defProp false
set_option maxHeartbeats 4000000
/- spec.TableauApplyGate -/
def s_TableauApplyGate_j1 (a1 : Int) (v5 : LQ) : Option (Int × LQ × Bool) :=
  some (a1, v5, true)
def s_TableauApplyGate_l1 (a1 : Int) (a2 : LQ) (a3 a4 a5 a6 : Int) : Nat → Int → (LQ) → Option (Int × LQ × Bool)
  | 0, _, _ => none
  | n1 + 1, v3, v4 =>
  br (decide (v3 < ((a2.length : Int)))) (bO (geti a2 v3) fun q3 => bO (s_ConjugatePauli q3.1 q3.2.1 q3.2.2.1 q3.2.2.2 a3 a4 a5 a6) fun x4 => br (!x4.2.2.2.2) (some (0, [], false)) (gd (decide (v4.length + ([(x4.1, x4.2.1, x4.2.2.1, x4.2.2.2.1)]).length ≤ 16777216)) ((s_TableauApplyGate_l1 a1 a2 a3 a4 a5 a6 n1) (IntKind.wrap .i64 (v3 + 1)) (v4 ++ ([(x4.1, x4.2.1, x4.2.2.1, x4.2.2.2.1)]))))) (s_TableauApplyGate_j1 a1 v4)
def s_TableauApplyGate (a1 : Int) (a2 : LQ) (a3 a4 a5 a6 : Int) : Option (Int × LQ × Bool) :=
  bO (s_IsValidTableau a1 a2) fun x1 => br (!x1) (some (0, [], false)) (s_TableauApplyGate_l1 a1 a2 a3 a4 a5 a6 FU 0 ([] : LQ))
theorem s_TableauApplyGate_ok {a1 : Int} {a2 : LQ} {a3 a4 a5 a6 : Int} {r : Int × LQ × Bool} (h : s_TableauApplyGate a1 a2 a3 a4 a5 a6 = some r) :
    Spec Tryz.prog 158 [.agg [.int .i64 a1, .sl (encL EIIII a2) a2.length], .agg [.int .i64 a3, .int .i64 a4, .int .i64 a5, .int .i64 a6]] [] (.tup [.agg [.int .i64 r.1, .own 0 r.2.1.length], .bool r.2.2]) [.row 213 4 (encL EIIII r.2.1)] := by
 unfold s_TableauApplyGate at h; refine SO Tryz.func158 rfl Tryz.ntmps158 fun C hN hρ => ?_; simp only [st0, tmps0, Nat.zero_add, Nat.reduceAdd]; refine AN hN ?_; refine AW_seq ?_; obtain ⟨x1, h1, h⟩ := bO_inv h; refine AP hN (s_IsValidTableau_ok h1) ?_; refine AB h (fun hc1 h => ?_) fun hc1 h => ?_
 ·refine AN hN ?_; injection h with h; subst h; exact AX (b' := 64) [(4, .ptr 32 0), (5, .bool false)] [(32, .box 116 [.int .i64 0, .own 33 0]), (33, .row 213 4 (encL EIIII ([])))] [(32, some 96), (33, none)] [] hρ (EQ [33])
 ·refine AW_skip (AK ?_); refine AN hN ?_; refine AW_cutK (fun S => ∃ (v5 : LQ), S = ⟨mkT [(4, .ptr 32 0), (6, .ptr 33 0)], mkR [(32, .box 116 [.int .i64 0, .nil]), (33, .box 116 [.int .i64 a1, .own 34 v5.length]), (34, .row 213 4 (encL EIIII v5))], 64⟩ ∧ s_TableauApplyGate_j1 a1 v5 = some r) ?_ ?_
  ·refine AN hN ?_; refine AW_block ?_; refine AW_loopF (fun n S => ∃ (v3 : Int) (v4 : LQ), S = ⟨mkT [(2, .ptr 32 0), (3, .ptr 33 0), (4, .ptr 34 0), (6, .ptr 35 0), (7, .int .i64 v3)], mkR [(32, .box 116 [.int .i64 a1, .sl (encL EIIII a2) a2.length]), (33, .box 48 [.int .i64 a3, .int .i64 a4, .int .i64 a5, .int .i64 a6]), (34, .box 116 [.int .i64 0, .nil]), (35, .box 116 [.int .i64 a1, .own 36 v4.length]), (36, .row 213 4 (encL EIIII v4))], 64⟩ ∧ s_TableauApplyGate_l1 a1 a2 a3 a4 a5 a6 n v3 v4 = some r) FU ?_ ?_ ?_
   ·exact AC ⟨_, _, rfl, h⟩ [(32, some 64), (33, some 80), (34, some 96), (35, some 2160), (36, none)] [] hρ
   ·rintro S ⟨_, _, _, h⟩; rw [s_TableauApplyGate_l1] at h; cases h
   ·rintro n1 S ⟨v3, v4, rfl, h⟩; rw [s_TableauApplyGate_l1] at h; refine AW_seq ?_; refine AN hN ?_; refine AB h (fun hc6 h => ?_) fun hc6 h => ?_
    ·refine AW_skip (AK ?_); refine AW_seq ?_; refine AW_block ?_; refine AR hN fun K hK => ?_; obtain ⟨q3, h10, h⟩ := bO_inv h; obtain ⟨⟨h11a, h11b⟩, h11c⟩ := geti_E EIIIIl h10; (try simp only [EV, seval] at h11c); obtain ⟨x4, h12, h⟩ := bO_inv h; simp only [EV, seval, h11a, h11b, h11c]; refine rC_p (s_ConjugatePauli_ok h12) (by simp only [AL, EV, seval, h11a, h11b, h11c]) (le_d rfl) (no_j rfl) ?_; simp only [EV, seval, h11a, h11b, h11c]; refine hK _ _ _ ?_; clear hK K; refine AW_seq ?_; refine AN hN ?_; refine AB h (fun hc7 h => ?_) fun hc7 h => ?_
     ·refine AN hN ?_; injection h with h; subst h; exact AX (b' := 64) [(4, .ptr 32 0), (5, .bool false)] [(32, .box 116 [.int .i64 0, .own 33 0]), (33, .row 213 4 (encL EIIII ([])))] [(32, some 34), (33, none)] [] hρ (EQ [33])
     ·refine AW_skip (AK ?_); refine AS hN fun K hK => ?_; obtain ⟨h13, h⟩ := gd_inv h; replace h13 := of_decide_eq_true h13; (try simp only [EV, seval] at h13); simp only [EV, seval, h13]; refine hK _ _ _ (show AW _ _ _ _ _ from ?_); refine AS hN fun K hK => ?_; simp only [EV, seval]; exact hK _ _ _ (AC ⟨_, _, rfl, h⟩ [(32, some 32), (33, some 33), (34, some 34), (35, some 35), (36, some 3200)] [] hρ)
    ·exact AW_exit (AC ⟨_, rfl, h⟩ [(32, some 34), (33, some 35), (34, some 36)] [] hρ)
  ·rintro S ⟨v5, rfl, h⟩; unfold s_TableauApplyGate_j1 at h; refine AN hN ?_; injection h with h; subst h; exact AX (b' := 64) [(4, .ptr 32 0), (5, .bool true)] [(32, .box 116 [.int .i64 a1, .own 33 v5.length]), (33, .row 213 4 (encL EIIII v5))] [(32, some 32), (33, some 34)] [] hρ (EQ [33])
/- impl.TableauApplyGate -/
def i_TableauApplyGate_j1 (a1 : Int) (v8 : LQ) : Option (Int × LQ × Bool) :=
  some (a1, v8, true)
def i_TableauApplyGate_l1 (a1 : Int) (a2 : LQ) (a3 a4 a5 a6 : Int) : Nat → Int → Int → (LQ) → Option (Int × LQ × Bool)
  | 0, _, _, _ => none
  | n1 + 1, v5, v6, v7 =>
  br (decide (v6 < v5)) (bO (geti a2 v6) fun q3 => bO (i_ConjugatePauli q3.1 q3.2.1 q3.2.2.1 q3.2.2.2 a3 a4 a5 a6) fun x4 => br (!x4.2.2.2.2) (some (0, [], false)) (gd (decide (v7.length + ([(x4.1, x4.2.1, x4.2.2.1, x4.2.2.2.1)]).length ≤ 16777216)) ((i_TableauApplyGate_l1 a1 a2 a3 a4 a5 a6 n1) v5 (IntKind.wrap .i64 (v6 + 1)) (v7 ++ ([(x4.1, x4.2.1, x4.2.2.1, x4.2.2.2.1)]))))) (i_TableauApplyGate_j1 a1 v7)
def i_TableauApplyGate (a1 : Int) (a2 : LQ) (a3 a4 a5 a6 : Int) : Option (Int × LQ × Bool) :=
  bO (i_IsValidTableau a1 a2) fun x1 => br (!x1) (some (0, [], false)) (i_TableauApplyGate_l1 a1 a2 a3 a4 a5 a6 FU ((a2.length : Int)) 0 ([] : LQ))
theorem i_TableauApplyGate_ok {a1 : Int} {a2 : LQ} {a3 a4 a5 a6 : Int} {r : Int × LQ × Bool} (h : i_TableauApplyGate a1 a2 a3 a4 a5 a6 = some r) :
    Spec Tryz.prog 150 [.agg [.int .i64 a1, .sl (encL EIIII a2) a2.length], .agg [.int .i64 a3, .int .i64 a4, .int .i64 a5, .int .i64 a6]] [] (.tup [.agg [.int .i64 r.1, .own 0 r.2.1.length], .bool r.2.2]) [.row 213 4 (encL EIIII r.2.1)] := by
 unfold i_TableauApplyGate at h; refine SO Tryz.func150 rfl Tryz.ntmps150 fun C hN hρ => ?_; simp only [st0, tmps0, Nat.zero_add, Nat.reduceAdd]; refine AN hN ?_; refine AW_seq ?_; obtain ⟨x1, h1, h⟩ := bO_inv h; refine AP hN (i_IsValidTableau_ok h1) ?_; refine AB h (fun hc1 h => ?_) fun hc1 h => ?_
 ·refine AN hN ?_; injection h with h; subst h; exact AX (b' := 64) [(4, .ptr 32 0), (5, .bool false)] [(32, .box 116 [.int .i64 0, .own 33 0]), (33, .row 213 4 (encL EIIII ([])))] [(32, some 96), (33, none)] [] hρ (EQ [33])
 ·refine AW_skip (AK ?_); refine AN hN ?_; refine AW_cutK (fun S => ∃ (v8 : LQ), S = ⟨mkT [(4, .ptr 32 0), (6, .ptr 33 0)], mkR [(32, .box 116 [.int .i64 0, .nil]), (33, .box 116 [.int .i64 a1, .own 34 v8.length]), (34, .row 213 4 (encL EIIII v8))], 64⟩ ∧ i_TableauApplyGate_j1 a1 v8 = some r) ?_ ?_
  ·refine AN hN ?_; refine AW_block ?_; refine AW_loopF (fun n S => ∃ (v5 v6 : Int) (v7 : LQ), S = ⟨mkT [(3, .ptr 32 0), (4, .ptr 33 0), (6, .ptr 34 0), (19, .sl (encL EIIII a2) a2.length), (20, .int .i64 v5), (21, .int .i64 v6)], mkR [(32, .box 48 [.int .i64 a3, .int .i64 a4, .int .i64 a5, .int .i64 a6]), (33, .box 116 [.int .i64 0, .nil]), (34, .box 116 [.int .i64 a1, .own 35 v7.length]), (35, .row 213 4 (encL EIIII v7))], 64⟩ ∧ i_TableauApplyGate_l1 a1 a2 a3 a4 a5 a6 n v5 v6 v7 = some r) FU ?_ ?_ ?_
   ·exact AC ⟨_, _, _, rfl, h⟩ [(32, some 80), (33, some 96), (34, some 2160), (35, none)] [] hρ
   ·rintro S ⟨_, _, _, _, h⟩; rw [i_TableauApplyGate_l1] at h; cases h
   ·rintro n1 S ⟨v5, v6, v7, rfl, h⟩; rw [i_TableauApplyGate_l1] at h; refine AN hN ?_; refine AW_seq ?_; refine AB h (fun hc6 h => ?_) fun hc6 h => ?_
    ·refine AW_skip (AK ?_); refine AW_seq ?_; refine AW_block ?_; refine AR hN fun K hK => ?_; obtain ⟨q3, h10, h⟩ := bO_inv h; obtain ⟨⟨h11a, h11b⟩, h11c⟩ := geti_E EIIIIl h10; (try simp only [EV, seval] at h11c); simp only [EV, seval, h11a, h11b, h11c]; refine hK _ _ _ ?_; clear hK K; obtain ⟨x4, h12, h⟩ := bO_inv h; refine AP hN (i_ConjugatePauli_ok h12) ?_; refine AW_seq ?_; refine AN hN ?_; refine AB h (fun hc7 h => ?_) fun hc7 h => ?_
     ·refine AN hN ?_; injection h with h; subst h; exact AX (b' := 64) [(4, .ptr 32 0), (5, .bool false)] [(32, .box 116 [.int .i64 0, .own 33 0]), (33, .row 213 4 (encL EIIII ([])))] [(32, some 33), (33, none)] [] hρ (EQ [33])
     ·refine AW_skip (AK ?_); refine AS hN fun K hK => ?_; obtain ⟨h13, h⟩ := gd_inv h; replace h13 := of_decide_eq_true h13; (try simp only [EV, seval] at h13); simp only [EV, seval, h13]; refine hK _ _ _ (show AW _ _ _ _ _ from ?_); refine AS hN fun K hK => ?_; simp only [EV, seval]; exact hK _ _ _ (AC ⟨_, _, _, rfl, h⟩ [(32, some 32), (33, some 33), (34, some 34), (35, some 4224)] [] hρ)
    ·exact AW_exit (AC ⟨_, rfl, h⟩ [(32, some 33), (33, some 34), (34, some 35)] [] hρ)
  ·rintro S ⟨v8, rfl, h⟩; unfold i_TableauApplyGate_j1 at h; refine AN hN ?_; injection h with h; subst h; exact AX (b' := 64) [(4, .ptr 32 0), (5, .bool true)] [(32, .box 116 [.int .i64 a1, .own 33 v8.length]), (33, .row 213 4 (encL EIIII v8))] [(32, some 32), (33, some 34)] [] hρ (EQ [33])
end Go.Proofs.YtfjopjalhllplaaGreat
/- Models of functions, and that the functions do what the models say; printed by a program. -/
namespace Go.Proofs.YtfjopjalhllplaaGreat
open Go.RowKit
set_option maxRecDepth 100000
set_option linter.unusedVariables false
set_option linter.unusedSimpArgs false
set_option linter.defProp false
set_option maxHeartbeats 4000000
/- spec.IsValidCircuit -/
def s_IsValidCircuit_j2 (v3 : Bool) : Option Bool :=
  some v3
def s_IsValidCircuit_j1 (a1 : Int) (a2 : LQ) : Option Bool :=
  bO (s_l1In a1 1 4) fun x4 => bO (br x4 (some (decide (((a2.length : Int)) ≤ 60))) (some false)) fun x5 => s_IsValidCircuit_j2 x5
def s_IsValidCircuit_l1 (a1 : Int) (a2 : LQ) : Nat → Int → Option Bool
  | 0, _ => none
  | n1 + 1, v2 =>
  br (decide (v2 < ((a2.length : Int)))) (bO (geti a2 v2) fun q3 => bO (s_IsValidGate q3.1 q3.2.1 q3.2.2.1 q3.2.2.2 a1) fun x3 => br (!x3) (some false) ((s_IsValidCircuit_l1 a1 a2 n1) (IntKind.wrap .i64 (v2 + 1)))) (s_IsValidCircuit_j1 a1 a2)
def s_IsValidCircuit (a1 : Int) (a2 : LQ) : Option Bool :=
  s_IsValidCircuit_l1 a1 a2 FU 0
theorem s_IsValidCircuit_ok {a1 : Int} {a2 : LQ} {r : Bool} (h : s_IsValidCircuit a1 a2 = some r) :
    Spec Tryz.prog 239 [.agg [.int .i64 a1, .sl (encL EIIII a2) a2.length]] [] (.bool r) [] := by
 unfold s_IsValidCircuit at h; refine SO Tryz.func239 rfl Tryz.ntmps239 fun C hN hρ => ?_; simp only [st0, tmps0, Nat.zero_add, Nat.reduceAdd]; refine AN hN ?_; refine AW_cutK (fun S => S = ⟨mkT [(1, .ptr 32 0)], mkR [(32, .box 66 [.int .i64 a1, .sl (encL EIIII a2) a2.length])], 64⟩ ∧ s_IsValidCircuit_j1 a1 a2 = some r) ?_ ?_
 ·refine AN hN ?_; refine AW_block ?_; refine AW_loopF (fun n S => ∃ (v2 : Int), S = ⟨mkT [(1, .ptr 32 0), (3, .int .i64 v2)], mkR [(32, .box 66 [.int .i64 a1, .sl (encL EIIII a2) a2.length])], 64⟩ ∧ s_IsValidCircuit_l1 a1 a2 n v2 = some r) FU ?_ ?_ ?_
  ·exact AC ⟨_, rfl, h⟩ [(32, some 64)] [] hρ
  ·rintro S ⟨_, _, h⟩; rw [s_IsValidCircuit_l1] at h; cases h
  ·rintro n1 S ⟨v2, rfl, h⟩; rw [s_IsValidCircuit_l1] at h; refine AW_seq ?_; refine AN hN ?_; refine AB h (fun hc5 h => ?_) fun hc5 h => ?_
   ·refine AW_skip (AK ?_); refine AW_seq ?_; refine AW_block ?_; refine AR hN fun K hK => ?_; obtain ⟨q3, h7, h⟩ := bO_inv h; obtain ⟨⟨h8a, h8b⟩, h8c⟩ := geti_E EIIIIl h7; (try simp only [EV, seval] at h8c); obtain ⟨x3, h9, h⟩ := bO_inv h; simp only [EV, seval, h8a, h8b, h8c]; refine rC_p (s_IsValidGate_ok h9) (by simp only [AL, EV, seval, h8a, h8b, h8c]) (le_d rfl) (no_j rfl) ?_; simp only [EV, seval, h8a, h8b, h8c]; refine hK _ _ _ ?_; clear hK K; refine AW_condK (a := .bool (!x3)) (by simp only [EV, seval, h8a, h8b, h8c]) (brK h (fun hc6 h => ?_) (fun hc6 h => ?_))
    ·refine AN hN ?_; injection h with h; subst h; exact AX (b' := 64) [(2, .bool false)] [] [] [] hρ (EQ [])
    ·refine AW_skip (AK ?_); refine AS hN fun K hK => ?_; simp only [EV, seval]; exact hK _ _ _ (AC ⟨_, rfl, h⟩ [(32, some 32)] [] hρ)
   ·exact AW_exit (AC ⟨rfl, h⟩ [(32, some 32)] [] hρ)
 ·rintro S ⟨rfl, h⟩; unfold s_IsValidCircuit_j1 at h; refine AJ (fun S => ∃ (v3 : Bool), S = ⟨mkT [(2, .bool v3)], mkR [], 64⟩ ∧ s_IsValidCircuit_j2 v3 = some r) hN ?_ ?_
  ·intro K hK; obtain ⟨x4, h10, h⟩ := bO_inv h; simp only [EV, seval]; refine CP (s_l1In_ok h10) ?_; obtain ⟨x5, hv1, h⟩ := bO_inv h; rcases br_inv hv1 with ⟨hc7, hv1⟩ | ⟨hc7, hv1⟩
   ·cases hv1; simp only [EV, seval, hc7]; refine hK _ _ _ (show cutK _ _ _ from cutL ⟨_, rfl, h⟩ (Le_can [] [] hρ (by kernel_rfl) ?_ ?_))
    ·simp only [AL, EV, seval, hc7]
    ·simp only [AL, EV, seval, hc7]
   ·cases hv1; simp only [EV, seval, hc7]; refine hK _ _ _ (show cutK _ _ _ from cutL ⟨_, rfl, h⟩ (Le_can [] [] hρ (by kernel_rfl) ?_ ?_))
    ·simp only [AL, EV, seval, hc7]
    ·simp only [AL, EV, seval, hc7]
  ·rintro S ⟨v3, rfl, h⟩; unfold s_IsValidCircuit_j2 at h; injection h with h; subst h; exact AX (b' := 64) [(2, .bool v3)] [] [] [] hρ (EQ [])
/- spec.IdentityTableau -/
def s_IdentityTableau_j1 (a1 : Int) (v5 : LQ) : Option (Int × LQ) :=
  some (a1, v5)
def s_IdentityTableau_l1 (a1 : Int) : Nat → Int → (LQ) → Option (Int × LQ)
  | 0, _, _ => none
  | n1 + 1, v3, v4 =>
  br (decide (v3 < (IntKind.wrap .i64 (2 * a1)))) (gd (decide (a1 ≠ 0)) (bO (s_l25Single a1 (Int.tmod v3 a1) (decide (a1 ≤ v3))) fun x4 => gd (decide (v4.length + ([(x4.1, x4.2.1, x4.2.2.1, x4.2.2.2)]).length ≤ 16777216)) ((s_IdentityTableau_l1 a1 n1) (IntKind.wrap .i64 (v3 + 1)) (v4 ++ ([(x4.1, x4.2.1, x4.2.2.1, x4.2.2.2)]))))) (s_IdentityTableau_j1 a1 v4)
def s_IdentityTableau (a1 : Int) : Option (Int × LQ) :=
  bO (s_l1In a1 1 4) fun x1 => br (!x1) (some (0, [])) (s_IdentityTableau_l1 a1 FU 0 ([] : LQ))
theorem s_IdentityTableau_ok {a1 : Int} {r : Int × LQ} (h : s_IdentityTableau a1 = some r) :
    Spec Tryz.prog 155 [.int .i64 a1] [] (.agg [.int .i64 r.1, .own 0 r.2.length]) [.row 213 4 (encL EIIII r.2)] := by
 unfold s_IdentityTableau at h; refine SO Tryz.func155 rfl Tryz.ntmps155 fun C hN hρ => ?_; simp only [st0, tmps0, Nat.zero_add, Nat.reduceAdd]; refine AN hN ?_; refine AW_seq ?_; obtain ⟨x1, h1, h⟩ := bO_inv h; refine AP hN (s_l1In_ok h1) ?_; refine AB h (fun hc1 h => ?_) fun hc1 h => ?_
 ·refine AN hN ?_; injection h with h; subst h; exact AX (b' := 64) [(2, .ptr 32 0)] [(32, .box 116 [.int .i64 0, .own 33 0]), (33, .row 213 4 (encL EIIII ([])))] [(32, some 64), (33, none)] [] hρ (EQ [33])
 ·refine AW_skip (AK ?_); refine AN hN ?_; refine AW_cutK (fun S => ∃ (v5 : LQ), S = ⟨mkT [(2, .ptr 32 0), (3, .ptr 33 0)], mkR [(32, .box 116 [.int .i64 0, .nil]), (33, .box 116 [.int .i64 a1, .own 34 v5.length]), (34, .row 213 4 (encL EIIII v5))], 64⟩ ∧ s_IdentityTableau_j1 a1 v5 = some r) ?_ ?_
  ·refine AN hN ?_; refine AW_block ?_; refine AW_loopF (fun n S => ∃ (v3 : Int) (v4 : LQ), S = ⟨mkT [(0, .int .i64 a1), (2, .ptr 32 0), (3, .ptr 33 0), (4, .int .i64 v3)], mkR [(32, .box 116 [.int .i64 0, .nil]), (33, .box 116 [.int .i64 a1, .own 34 v4.length]), (34, .row 213 4 (encL EIIII v4))], 64⟩ ∧ s_IdentityTableau_l1 a1 n v3 v4 = some r) FU ?_ ?_ ?_
   ·exact AC ⟨_, _, rfl, h⟩ [(32, some 64), (33, some 2144), (34, none)] [] hρ
   ·rintro S ⟨_, _, _, h⟩; rw [s_IdentityTableau_l1] at h; cases h
   ·rintro n1 S ⟨v3, v4, rfl, h⟩; rw [s_IdentityTableau_l1] at h; refine AW_seq ?_; refine AN hN ?_; refine AB h (fun hc4 h => ?_) fun hc4 h => ?_
    ·refine AW_skip (AK ?_); refine AW_seq ?_; refine AW_block ?_; refine AS hN fun K hK => ?_; obtain ⟨h8, h⟩ := gd_inv h; replace h8 := of_decide_eq_true h8; obtain ⟨x4, h9, h⟩ := bO_inv h; simp only [EV, seval, h8]; refine rC_p (s_l25Single_ok h9) (by simp only [AL, EV, seval, h8]) (le_d rfl) (no_j rfl) ?_; obtain ⟨h10, h⟩ := gd_inv h; replace h10 := of_decide_eq_true h10; (try simp only [EV, seval] at h10); simp only [EV, seval, h8, h10]; refine hK _ _ _ (show AW _ _ _ _ _ from ?_); refine AS hN fun K hK => ?_; simp only [EV, seval]; exact hK _ _ _ (AC ⟨_, _, rfl, h⟩ [(32, some 32), (33, some 33), (34, some 1264)] [] hρ)
    ·exact AW_exit (AC ⟨_, rfl, h⟩ [(32, some 32), (33, some 33), (34, some 34)] [] hρ)
  ·rintro S ⟨v5, rfl, h⟩; unfold s_IdentityTableau_j1 at h; refine AN hN ?_; injection h with h; subst h; exact AX (b' := 64) [(2, .ptr 32 0)] [(32, .box 116 [.int .i64 a1, .own 33 v5.length]), (33, .row 213 4 (encL EIIII v5))] [(32, some 32), (33, some 34)] [] hρ (EQ [33])
/- spec.CircuitTableau -/
def s_CircuitTableau_j1 (v7 : Int) (v8 : LQ) : Option (Int × LQ × Bool) :=
  some (v7, v8, true)
def s_CircuitTableau_l1 (a2 : LQ) : Nat → Int → Int → (LQ) → Option (Int × LQ × Bool)
  | 0, _, _, _ => none
  | n1 + 1, v4, v5, v6 =>
  br (decide (v4 < ((a2.length : Int)))) (bO (geti a2 v4) fun q3 => bO (s_TableauApplyGate v5 v6 q3.1 q3.2.1 q3.2.2.1 q3.2.2.2) fun x5 => br (!x5.2.2) (some (0, [], false)) ((s_CircuitTableau_l1 a2 n1) (IntKind.wrap .i64 (v4 + 1)) x5.1 x5.2.1)) (s_CircuitTableau_j1 v5 v6)
def s_CircuitTableau (a1 : Int) (a2 : LQ) : Option (Int × LQ × Bool) :=
  bO (s_IsValidCircuit a1 a2) fun x1 => br (!x1) (some (0, [], false)) (bO (s_IdentityTableau a1) fun x2 => s_CircuitTableau_l1 a2 FU 0 x2.1 x2.2)
theorem s_CircuitTableau_ok {a1 : Int} {a2 : LQ} {r : Int × LQ × Bool} (h : s_CircuitTableau a1 a2 = some r) :
    Spec Tryz.prog 228 [.agg [.int .i64 a1, .sl (encL EIIII a2) a2.length]] [] (.tup [.agg [.int .i64 r.1, .own 0 r.2.1.length], .bool r.2.2]) [.row 213 4 (encL EIIII r.2.1)] := by
 unfold s_CircuitTableau at h; refine SO Tryz.func228 rfl Tryz.ntmps228 fun C hN hρ => ?_; simp only [st0, tmps0, Nat.zero_add, Nat.reduceAdd]; refine AN hN ?_; refine AW_seq ?_; obtain ⟨x1, h1, h⟩ := bO_inv h; refine AP hN (s_IsValidCircuit_ok h1) ?_; refine AB h (fun hc1 h => ?_) fun hc1 h => ?_
 ·refine AN hN ?_; injection h with h; subst h; exact AX (b' := 64) [(2, .ptr 32 0), (3, .bool false)] [(32, .box 116 [.int .i64 0, .own 33 0]), (33, .row 213 4 (encL EIIII ([])))] [(32, some 80), (33, none)] [] hρ (EQ [33])
 ·refine AW_skip (AK ?_); refine AR hN fun K hK => ?_; obtain ⟨x2, h2, h⟩ := bO_inv h; simp only [EV, seval]; refine rC_p (s_IdentityTableau_ok h2) (by simp only [AL, EV, seval]) (le_d rfl) (site_1 (by simp only [EV, seval])) ?_; simp only [EV, seval]; refine hK _ _ _ ?_; clear hK K; refine AW_cutK (fun S => ∃ (v7 : Int) (v8 : LQ), S = ⟨mkT [(2, .ptr 32 0), (4, .ptr 33 0)], mkR [(32, .box 116 [.int .i64 0, .nil]), (33, .box 116 [.int .i64 v7, .own 34 v8.length]), (34, .row 213 4 (encL EIIII v8))], 64⟩ ∧ s_CircuitTableau_j1 v7 v8 = some r) ?_ ?_
  ·refine AN hN ?_; refine AW_block ?_; refine AW_loopF (fun n S => ∃ (v4 v5 : Int) (v6 : LQ), S = ⟨mkT [(1, .ptr 32 0), (2, .ptr 33 0), (4, .ptr 34 0), (5, .int .i64 v4)], mkR [(32, .box 66 [.int .i64 a1, .sl (encL EIIII a2) a2.length]), (33, .box 116 [.int .i64 0, .nil]), (34, .box 116 [.int .i64 v5, .own 35 v6.length]), (35, .row 213 4 (encL EIIII v6))], 64⟩ ∧ s_CircuitTableau_l1 a2 n v4 v5 v6 = some r) FU ?_ ?_ ?_
   ·exact AC ⟨_, _, _, rfl, h⟩ [(32, some 64), (33, some 80), (34, some 2160), (35, some 2144)] [] hρ
   ·rintro S ⟨_, _, _, _, h⟩; rw [s_CircuitTableau_l1] at h; cases h
   ·rintro n1 S ⟨v4, v5, v6, rfl, h⟩; rw [s_CircuitTableau_l1] at h; refine AW_seq ?_; refine AN hN ?_; refine AB h (fun hc6 h => ?_) fun hc6 h => ?_
    ·refine AW_skip (AK ?_); refine AW_seq ?_; refine AW_block ?_; refine AR hN fun K hK => ?_; obtain ⟨q3, h9, h⟩ := bO_inv h; obtain ⟨⟨h10a, h10b⟩, h10c⟩ := geti_E EIIIIl h9; (try simp only [EV, seval] at h10c); obtain ⟨x5, h11, h⟩ := bO_inv h; simp only [EV, seval, h10a, h10b, h10c]; refine rC_l (s_TableauApplyGate_ok h11) (by simp only [AL, EV, seval, h10a, h10b, h10c]) (by simp only [AL, EF, and_self]) (le_d rfl) (site_1 (by simp only [EV, seval])) ?_; simp only [EV, seval, h10a, h10b, h10c]; refine hK _ _ _ ?_; clear hK K; refine AW_seq ?_; refine AN hN ?_; refine AB h (fun hc7 h => ?_) fun hc7 h => ?_
     ·refine AN hN ?_; injection h with h; subst h; exact AX (b' := 64) [(2, .ptr 32 0), (3, .bool false)] [(32, .box 116 [.int .i64 0, .own 33 0]), (33, .row 213 4 (encL EIIII ([])))] [(32, some 33), (33, none)] [] hρ (EQ [33])
     ·refine AW_skip (AK ?_); refine AS hN fun K hK => ?_; simp only [EV, seval]; refine hK _ _ _ (show AW _ _ _ _ _ from ?_); refine AS hN fun K hK => ?_; simp only [EV, seval]; exact hK _ _ _ (AC ⟨_, _, _, rfl, h⟩ [(32, some 32), (33, some 33), (34, some 34), (35, some 1184)] [] hρ)
    ·exact AW_exit (AC ⟨_, _, rfl, h⟩ [(32, some 33), (33, some 34), (34, some 35)] [] hρ)
  ·rintro S ⟨v7, v8, rfl, h⟩; unfold s_CircuitTableau_j1 at h; refine AN hN ?_; injection h with h; subst h; exact AX (b' := 64) [(2, .ptr 32 0), (3, .bool true)] [(32, .box 116 [.int .i64 v7, .own 33 v8.length]), (33, .row 213 4 (encL EIIII v8))] [(32, some 32), (33, some 34)] [] hρ (EQ [33])
/- impl.IsValidCircuit -/
def i_IsValidCircuit_j2 : Option Bool :=
  some true
def i_IsValidCircuit_l1 (a1 : Int) (a2 : LQ) : Nat → Int → Int → Option Bool
  | 0, _, _ => none
  | n1 + 1, v5, v6 =>
  br (decide (v6 < v5)) (bO (geti a2 v6) fun q3 => bO (i_IsValidGate q3.1 q3.2.1 q3.2.2.1 q3.2.2.2 a1) fun x5 => br (!x5) (some false) ((i_IsValidCircuit_l1 a1 a2 n1) v5 (IntKind.wrap .i64 (v6 + 1)))) (i_IsValidCircuit_j2)
def i_IsValidCircuit_j1 (a1 : Int) (a2 : LQ) (v1 : Bool) : Option Bool :=
  br v1 (some false) (i_IsValidCircuit_l1 a1 a2 FU ((a2.length : Int)) 0)
def i_IsValidCircuit (a1 : Int) (a2 : LQ) : Option Bool :=
  bO (i_in a1 1 4) fun x1 => bO (br (!x1) (some true) (some (decide (60 < ((a2.length : Int)))))) fun x2 => i_IsValidCircuit_j1 a1 a2 x2
theorem i_IsValidCircuit_ok {a1 : Int} {a2 : LQ} {r : Bool} (h : i_IsValidCircuit a1 a2 = some r) :
    Spec Tryz.prog 227 [.agg [.int .i64 a1, .sl (encL EIIII a2) a2.length]] [] (.bool r) [] := by
 unfold i_IsValidCircuit at h; refine SO Tryz.func227 rfl Tryz.ntmps227 fun C hN hρ => ?_; simp only [st0, tmps0, Nat.zero_add, Nat.reduceAdd]; refine AN hN ?_; refine AW_seq ?_; refine AJ (fun S => ∃ (v1 : Bool), S = ⟨mkT [(1, .ptr 32 0), (14, .bool v1)], mkR [(32, .box 66 [.int .i64 a1, .sl (encL EIIII a2) a2.length])], 64⟩ ∧ i_IsValidCircuit_j1 a1 a2 v1 = some r) hN ?_ ?_
 ·intro K hK; obtain ⟨x1, h1, h⟩ := bO_inv h; simp only [EV, seval]; refine CP (i_in_ok h1) ?_; obtain ⟨x2, hv1, h⟩ := bO_inv h; rcases br_inv hv1 with ⟨hc1, hv1⟩ | ⟨hc1, hv1⟩
  ·cases hv1; simp only [EV, seval, hc1]; refine hK _ _ _ (show cutK _ _ _ from cutL ⟨_, rfl, h⟩ (Le_can [(32, some 64)] [] hρ (by kernel_rfl) ?_ ?_))
   ·simp only [AL, EV, seval, hc1]
   ·simp only [AL, EV, seval, hc1]
  ·cases hv1; simp only [EV, seval, hc1]; refine hK _ _ _ (show cutK _ _ _ from cutL ⟨_, rfl, h⟩ (Le_can [(32, some 64)] [] hρ (by kernel_rfl) ?_ ?_))
   ·simp only [AL, EV, seval, hc1]
   ·simp only [AL, EV, seval, hc1]
 ·rintro S ⟨v1, rfl, h⟩; unfold i_IsValidCircuit_j1 at h; refine AB h (fun hc2 h => ?_) fun hc2 h => ?_
  ·refine AN hN ?_; injection h with h; subst h; exact AX (b' := 64) [(2, .bool false)] [] [] [] hρ (EQ [])
  ·refine AW_skip (AK ?_); refine AW_cutK (fun S => S = ⟨mkT [], mkR [], 64⟩ ∧ i_IsValidCircuit_j2 = some r) ?_ ?_
   ·refine AN hN ?_; refine AW_block ?_; refine AW_loopF (fun n S => ∃ (v5 v6 : Int), S = ⟨mkT [(1, .ptr 32 0), (16, .sl (encL EIIII a2) a2.length), (17, .int .i64 v5), (18, .int .i64 v6)], mkR [(32, .box 66 [.int .i64 a1, .sl (encL EIIII a2) a2.length])], 64⟩ ∧ i_IsValidCircuit_l1 a1 a2 n v5 v6 = some r) FU ?_ ?_ ?_
    ·exact AC ⟨_, _, rfl, h⟩ [(32, some 32)] [] hρ
    ·rintro S ⟨_, _, _, h⟩; rw [i_IsValidCircuit_l1] at h; cases h
    ·rintro n1 S ⟨v5, v6, rfl, h⟩; rw [i_IsValidCircuit_l1] at h; refine AN hN ?_; refine AW_seq ?_; refine AB h (fun hc7 h => ?_) fun hc7 h => ?_
     ·refine AW_skip (AK ?_); refine AW_seq ?_; refine AW_block ?_; refine AR hN fun K hK => ?_; obtain ⟨q3, h8, h⟩ := bO_inv h; obtain ⟨⟨h9a, h9b⟩, h9c⟩ := geti_E EIIIIl h8; (try simp only [EV, seval] at h9c); simp only [EV, seval, h9a, h9b, h9c]; refine hK _ _ _ ?_; clear hK K; obtain ⟨x5, h10, h⟩ := bO_inv h; refine AP hN (i_IsValidGate_ok h10) ?_; refine AB h (fun hc8 h => ?_) fun hc8 h => ?_
      ·refine AN hN ?_; injection h with h; subst h; exact AX (b' := 64) [(2, .bool false)] [] [] [] hρ (EQ [])
      ·refine AW_skip (AK ?_); refine AS hN fun K hK => ?_; simp only [EV, seval]; exact hK _ _ _ (AC ⟨_, _, rfl, h⟩ [(32, some 32)] [] hρ)
     ·exact AW_exit (AC ⟨rfl, h⟩ [] [] hρ)
   ·rintro S ⟨rfl, h⟩; unfold i_IsValidCircuit_j2 at h; refine AN hN ?_; injection h with h; subst h; exact AX (b' := 64) [(2, .bool true)] [] [] [] hρ (EQ [])
/- impl.IdentityTableau -/
def i_IdentityTableau_j2 (a1 : Int) (v10 : LQ) : Option (Int × LQ) :=
  some (a1, v10)
def i_IdentityTableau_l2 (a1 : Int) : Nat → Int → (LQ) → Option (Int × LQ)
  | 0, _, _ => none
  | n2 + 1, v8, v9 =>
  br (decide (v8 < a1)) (gd (decide (¬ v8 < 0)) (gd (decide (v9.length + ([(a1, 0, IntKind.wrap .i64 (1 * 2 ^ min (Int.toNat v8) (IntKind.bits .i64)), 0)]).length ≤ 16777216)) ((i_IdentityTableau_l2 a1 n2) (IntKind.wrap .i64 (v8 + 1)) (v9 ++ ([(a1, 0, IntKind.wrap .i64 (1 * 2 ^ min (Int.toNat v8) (IntKind.bits .i64)), 0)]))))) (i_IdentityTableau_j2 a1 v9)
def i_IdentityTableau_j1 (a1 : Int) (v5 : LQ) : Option (Int × LQ) :=
  i_IdentityTableau_l2 a1 FU 0 v5
def i_IdentityTableau_l1 (a1 : Int) : Nat → Int → (LQ) → Option (Int × LQ)
  | 0, _, _ => none
  | n1 + 1, v3, v4 =>
  br (decide (v3 < a1)) (gd (decide (¬ v3 < 0)) (gd (decide (v4.length + ([(a1, IntKind.wrap .i64 (1 * 2 ^ min (Int.toNat v3) (IntKind.bits .i64)), 0, 0)]).length ≤ 16777216)) ((i_IdentityTableau_l1 a1 n1) (IntKind.wrap .i64 (v3 + 1)) (v4 ++ ([(a1, IntKind.wrap .i64 (1 * 2 ^ min (Int.toNat v3) (IntKind.bits .i64)), 0, 0)]))))) (i_IdentityTableau_j1 a1 v4)
def i_IdentityTableau (a1 : Int) : Option (Int × LQ) :=
  bO (i_in a1 1 4) fun x1 => br (!x1) (some (0, [])) (i_IdentityTableau_l1 a1 FU 0 ([] : LQ))
theorem i_IdentityTableau_ok {a1 : Int} {r : Int × LQ} (h : i_IdentityTableau a1 = some r) :
    Spec Tryz.prog 147 [.int .i64 a1] [] (.agg [.int .i64 r.1, .own 0 r.2.length]) [.row 213 4 (encL EIIII r.2)] := by
 unfold i_IdentityTableau at h; refine SO Tryz.func147 rfl Tryz.ntmps147 fun C hN hρ => ?_; simp only [st0, tmps0, Nat.zero_add, Nat.reduceAdd]; refine AN hN ?_; refine AW_seq ?_; obtain ⟨x1, h1, h⟩ := bO_inv h; refine AP hN (i_in_ok h1) ?_; refine AB h (fun hc1 h => ?_) fun hc1 h => ?_
 ·refine AN hN ?_; injection h with h; subst h; exact AX (b' := 64) [(2, .ptr 32 0)] [(32, .box 116 [.int .i64 0, .own 33 0]), (33, .row 213 4 (encL EIIII ([])))] [(32, some 64), (33, none)] [] hρ (EQ [33])
 ·refine AW_skip (AK ?_); refine AN hN ?_; refine AW_cutK (fun S => ∃ (v5 : LQ), S = ⟨mkT [(0, .int .i64 a1), (2, .ptr 32 0), (3, .ptr 33 0)], mkR [(32, .box 116 [.int .i64 0, .nil]), (33, .box 116 [.int .i64 a1, .own 34 v5.length]), (34, .row 213 4 (encL EIIII v5))], 64⟩ ∧ i_IdentityTableau_j1 a1 v5 = some r) ?_ ?_
  ·refine AN hN ?_; refine AW_block ?_; refine AW_loopF (fun n S => ∃ (v3 : Int) (v4 : LQ), S = ⟨mkT [(0, .int .i64 a1), (2, .ptr 32 0), (3, .ptr 33 0), (4, .int .i64 v3)], mkR [(32, .box 116 [.int .i64 0, .nil]), (33, .box 116 [.int .i64 a1, .own 34 v4.length]), (34, .row 213 4 (encL EIIII v4))], 64⟩ ∧ i_IdentityTableau_l1 a1 n v3 v4 = some r) FU ?_ ?_ ?_
   ·exact AC ⟨_, _, rfl, h⟩ [(32, some 64), (33, some 2144), (34, none)] [] hρ
   ·rintro S ⟨_, _, _, h⟩; rw [i_IdentityTableau_l1] at h; cases h
   ·rintro n1 S ⟨v3, v4, rfl, h⟩; rw [i_IdentityTableau_l1] at h; refine AW_seq ?_; refine AN hN ?_; refine AB h (fun hc4 h => ?_) fun hc4 h => ?_
    ·refine AW_skip (AK ?_); refine AW_seq ?_; refine AW_block ?_; refine AS hN fun K hK => ?_; obtain ⟨h5, h⟩ := gd_inv h; replace h5 := of_decide_eq_true h5; obtain ⟨h6, h⟩ := gd_inv h; replace h6 := of_decide_eq_true h6; (try simp only [EV, seval] at h6); simp only [EV, seval, h5, h6]; refine hK _ _ _ (show AW _ _ _ _ _ from ?_); refine AS hN fun K hK => ?_; simp only [EV, seval]; exact hK _ _ _ (AC ⟨_, _, rfl, h⟩ [(32, some 32), (33, some 33), (34, some 1200)] [] hρ)
    ·exact AW_exit (AC ⟨_, rfl, h⟩ [(32, some 32), (33, some 33), (34, some 34)] [] hρ)
  ·rintro S ⟨v5, rfl, h⟩; unfold i_IdentityTableau_j1 at h; refine AW_cutK (fun S => ∃ (v10 : LQ), S = ⟨mkT [(2, .ptr 32 0), (3, .ptr 33 0)], mkR [(32, .box 116 [.int .i64 0, .nil]), (33, .box 116 [.int .i64 a1, .own 34 v10.length]), (34, .row 213 4 (encL EIIII v10))], 64⟩ ∧ i_IdentityTableau_j2 a1 v10 = some r) ?_ ?_
   ·refine AN hN ?_; refine AW_block ?_; refine AW_loopF (fun n S => ∃ (v8 : Int) (v9 : LQ), S = ⟨mkT [(0, .int .i64 a1), (2, .ptr 32 0), (3, .ptr 33 0), (5, .int .i64 v8)], mkR [(32, .box 116 [.int .i64 0, .nil]), (33, .box 116 [.int .i64 a1, .own 34 v9.length]), (34, .row 213 4 (encL EIIII v9))], 64⟩ ∧ i_IdentityTableau_l2 a1 n v8 v9 = some r) FU ?_ ?_ ?_
    ·exact AC ⟨_, _, rfl, h⟩ [(32, some 32), (33, some 33), (34, some 34)] [] hρ
    ·rintro S ⟨_, _, _, h⟩; rw [i_IdentityTableau_l2] at h; cases h
    ·rintro n2 S ⟨v8, v9, rfl, h⟩; rw [i_IdentityTableau_l2] at h; refine AW_seq ?_; refine AN hN ?_; refine AB h (fun hc7 h => ?_) fun hc7 h => ?_
     ·refine AW_skip (AK ?_); refine AW_seq ?_; refine AW_block ?_; refine AS hN fun K hK => ?_; obtain ⟨h10, h⟩ := gd_inv h; replace h10 := of_decide_eq_true h10; obtain ⟨h11, h⟩ := gd_inv h; replace h11 := of_decide_eq_true h11; (try simp only [EV, seval] at h11); simp only [EV, seval, h10, h11]; refine hK _ _ _ (show AW _ _ _ _ _ from ?_); refine AS hN fun K hK => ?_; simp only [EV, seval]; exact hK _ _ _ (AC ⟨_, _, rfl, h⟩ [(32, some 32), (33, some 33), (34, some 1200)] [] hρ)
     ·exact AW_exit (AC ⟨_, rfl, h⟩ [(32, some 32), (33, some 33), (34, some 34)] [] hρ)
   ·rintro S ⟨v10, rfl, h⟩; unfold i_IdentityTableau_j2 at h; refine AN hN ?_; injection h with h; subst h; exact AX (b' := 64) [(2, .ptr 32 0)] [(32, .box 116 [.int .i64 a1, .own 33 v10.length]), (33, .row 213 4 (encL EIIII v10))] [(32, some 32), (33, some 34)] [] hρ (EQ [33])
/- impl.CircuitTableau -/
def i_CircuitTableau_j1 (v10 : Int) (v11 : LQ) : Option (Int × LQ × Bool) :=
  some (v10, v11, true)
def i_CircuitTableau_l1 (a2 : LQ) : Nat → Int → Int → Int → (LQ) → Option (Int × LQ × Bool)
  | 0, _, _, _, _ => none
  | n1 + 1, v6, v7, v8, v9 =>
  br (decide (v7 < v6)) (bO (geti a2 v7) fun q3 => bO (i_TableauApplyGate v8 v9 q3.1 q3.2.1 q3.2.2.1 q3.2.2.2) fun x5 => br (!x5.2.2) (some (0, [], false)) ((i_CircuitTableau_l1 a2 n1) v6 (IntKind.wrap .i64 (v7 + 1)) x5.1 x5.2.1)) (i_CircuitTableau_j1 v8 v9)
def i_CircuitTableau (a1 : Int) (a2 : LQ) : Option (Int × LQ × Bool) :=
  bO (i_IsValidCircuit a1 a2) fun x1 => br (!x1) (some (0, [], false)) (bO (i_IdentityTableau a1) fun x2 => i_CircuitTableau_l1 a2 FU ((a2.length : Int)) 0 x2.1 x2.2)
theorem i_CircuitTableau_ok {a1 : Int} {a2 : LQ} {r : Int × LQ × Bool} (h : i_CircuitTableau a1 a2 = some r) :
    Spec Tryz.prog 196 [.agg [.int .i64 a1, .sl (encL EIIII a2) a2.length]] [] (.tup [.agg [.int .i64 r.1, .own 0 r.2.1.length], .bool r.2.2]) [.row 213 4 (encL EIIII r.2.1)] := by
 unfold i_CircuitTableau at h; refine SO Tryz.func196 rfl Tryz.ntmps196 fun C hN hρ => ?_; simp only [st0, tmps0, Nat.zero_add, Nat.reduceAdd]; refine AN hN ?_; refine AW_seq ?_; obtain ⟨x1, h1, h⟩ := bO_inv h; refine AP hN (i_IsValidCircuit_ok h1) ?_; refine AB h (fun hc1 h => ?_) fun hc1 h => ?_
 ·refine AN hN ?_; injection h with h; subst h; exact AX (b' := 64) [(2, .ptr 32 0), (3, .bool false)] [(32, .box 116 [.int .i64 0, .own 33 0]), (33, .row 213 4 (encL EIIII ([])))] [(32, some 80), (33, none)] [] hρ (EQ [33])
 ·refine AW_skip (AK ?_); refine AR hN fun K hK => ?_; obtain ⟨x2, h2, h⟩ := bO_inv h; simp only [EV, seval]; refine rC_p (i_IdentityTableau_ok h2) (by simp only [AL, EV, seval]) (le_d rfl) (site_1 (by simp only [EV, seval])) ?_; simp only [EV, seval]; refine hK _ _ _ ?_; clear hK K; refine AW_cutK (fun S => ∃ (v10 : Int) (v11 : LQ), S = ⟨mkT [(2, .ptr 32 0), (4, .ptr 33 0)], mkR [(32, .box 116 [.int .i64 0, .nil]), (33, .box 116 [.int .i64 v10, .own 34 v11.length]), (34, .row 213 4 (encL EIIII v11))], 64⟩ ∧ i_CircuitTableau_j1 v10 v11 = some r) ?_ ?_
  ·refine AN hN ?_; refine AW_block ?_; refine AW_loopF (fun n S => ∃ (v6 v7 v8 : Int) (v9 : LQ), S = ⟨mkT [(2, .ptr 32 0), (4, .ptr 33 0), (17, .sl (encL EIIII a2) a2.length), (18, .int .i64 v6), (19, .int .i64 v7)], mkR [(32, .box 116 [.int .i64 0, .nil]), (33, .box 116 [.int .i64 v8, .own 34 v9.length]), (34, .row 213 4 (encL EIIII v9))], 64⟩ ∧ i_CircuitTableau_l1 a2 n v6 v7 v8 v9 = some r) FU ?_ ?_ ?_
   ·exact AC ⟨_, _, _, _, rfl, h⟩ [(32, some 80), (33, some 2160), (34, some 2144)] [] hρ
   ·rintro S ⟨_, _, _, _, _, h⟩; rw [i_CircuitTableau_l1] at h; cases h
   ·rintro n1 S ⟨v6, v7, v8, v9, rfl, h⟩; rw [i_CircuitTableau_l1] at h; refine AN hN ?_; refine AW_seq ?_; refine AB h (fun hc6 h => ?_) fun hc6 h => ?_
    ·refine AW_skip (AK ?_); refine AW_seq ?_; refine AW_block ?_; refine AR hN fun K hK => ?_; obtain ⟨q3, h9, h⟩ := bO_inv h; obtain ⟨⟨h10a, h10b⟩, h10c⟩ := geti_E EIIIIl h9; (try simp only [EV, seval] at h10c); simp only [EV, seval, h10a, h10b, h10c]; refine hK _ _ _ ?_; clear hK K; refine AR hN fun K hK => ?_; obtain ⟨x5, h11, h⟩ := bO_inv h; simp only [EV, seval]; refine rC_l (i_TableauApplyGate_ok h11) (by simp only [AL, EV, seval]) (by simp only [AL, EF, and_self]) (le_d rfl) (site_1 (by simp only [EV, seval])) ?_; simp only [EV, seval]; refine hK _ _ _ ?_; clear hK K; refine AW_seq ?_; refine AN hN ?_; refine AB h (fun hc7 h => ?_) fun hc7 h => ?_
     ·refine AN hN ?_; injection h with h; subst h; exact AX (b' := 64) [(2, .ptr 32 0), (3, .bool false)] [(32, .box 116 [.int .i64 0, .own 33 0]), (33, .row 213 4 (encL EIIII ([])))] [(32, some 32), (33, none)] [] hρ (EQ [33])
     ·refine AW_skip (AK ?_); refine AS hN fun K hK => ?_; simp only [EV, seval]; refine hK _ _ _ (show AW _ _ _ _ _ from ?_); refine AS hN fun K hK => ?_; simp only [EV, seval]; exact hK _ _ _ (AC ⟨_, _, _, _, rfl, h⟩ [(32, some 32), (33, some 33), (34, some 2144)] [] hρ)
    ·exact AW_exit (AC ⟨_, _, rfl, h⟩ [(32, some 32), (33, some 33), (34, some 34)] [] hρ)
  ·rintro S ⟨v10, v11, rfl, h⟩; unfold i_CircuitTableau_j1 at h; refine AN hN ?_; injection h with h; subst h; exact AX (b' := 64) [(2, .ptr 32 0), (3, .bool true)] [(32, .box 116 [.int .i64 v10, .own 33 v11.length]), (33, .row 213 4 (encL EIIII v11))] [(32, some 32), (33, some 34)] [] hρ (EQ [33])
end Go.Proofs.YtfjopjalhllplaaGreat
/- Models of functions, and that the functions do what the models say; printed by a program. -/
namespace Go.Proofs.YtfjopjalhllplaaGreat
open Go.RowKit
set_option maxRecDepth 100000
set_option linter.unusedVariables false
set_option linter.unusedSimpArgs false
set_option linter.defProp false
set_option maxHeartbeats 4000000
/- spec.WordTableau -/
def s_WordTableau (a1 : LQ) : Option (Int × LQ × Bool) :=
  bO (s_CircuitTableau 1 a1) fun x1 => some (x1.1, x1.2.1, x1.2.2)
theorem s_WordTableau_ok {a1 : LQ} {r : Int × LQ × Bool} (h : s_WordTableau a1 = some r) :
    Spec Tryz.prog 201 [.sl (encL EIIII a1) a1.length] [] (.tup [.agg [.int .i64 r.1, .own 0 r.2.1.length], .bool r.2.2]) [.row 213 4 (encL EIIII r.2.1)] := by
 unfold s_WordTableau at h; refine SO Tryz.func201 rfl Tryz.ntmps201 fun C hN hρ => ?_; simp only [st0, tmps0, Nat.zero_add, Nat.reduceAdd]; refine AN hN ?_; refine AR hN fun K hK => ?_; obtain ⟨x1, h1, h⟩ := bO_inv h; simp only [EV, seval]; refine rC_p (s_CircuitTableau_ok h1) (by simp only [AL, EV, seval]) (le_d rfl) (site_1 (by simp only [EV, seval])) ?_; simp only [EV, seval]; refine hK _ _ _ ?_; clear hK K; injection h with h; subst h; exact AX (b' := 64) [(2, .ptr 32 0), (3, .bool x1.2.2)] [(32, .box 116 [.int .i64 x1.1, .own 33 x1.2.1.length]), (33, .row 213 4 (encL EIIII x1.2.1))] [(32, some 64), (33, some 1120)] [] hρ (EQ [33])
/- impl.WordTableau -/
def i_WordTableau (a1 : LQ) : Option (Int × LQ × Bool) :=
  bO (i_CircuitTableau 1 a1) fun x1 => some (x1.1, x1.2.1, x1.2.2)
theorem i_WordTableau_ok {a1 : LQ} {r : Int × LQ × Bool} (h : i_WordTableau a1 = some r) :
    Spec Tryz.prog 153 [.sl (encL EIIII a1) a1.length] [] (.tup [.agg [.int .i64 r.1, .own 0 r.2.1.length], .bool r.2.2]) [.row 213 4 (encL EIIII r.2.1)] := by
 unfold i_WordTableau at h; refine SO Tryz.func153 rfl Tryz.ntmps153 fun C hN hρ => ?_; simp only [st0, tmps0, Nat.zero_add, Nat.reduceAdd]; refine AN hN ?_; refine AR hN fun K hK => ?_; obtain ⟨x1, h1, h⟩ := bO_inv h; simp only [EV, seval]; refine rC_p (i_CircuitTableau_ok h1) (by simp only [AL, EV, seval]) (le_d rfl) (site_1 (by simp only [EV, seval])) ?_; simp only [EV, seval]; refine hK _ _ _ ?_; clear hK K; refine AN hN ?_; injection h with h; subst h; exact AX (b' := 64) [(2, .ptr 32 0), (3, .bool x1.2.2)] [(32, .box 116 [.int .i64 x1.1, .own 33 x1.2.1.length]), (33, .row 213 4 (encL EIIII x1.2.1))] [(32, some 64), (33, some 1120)] [] hρ (EQ [33])
end Go.Proofs.YtfjopjalhllplaaGreat
