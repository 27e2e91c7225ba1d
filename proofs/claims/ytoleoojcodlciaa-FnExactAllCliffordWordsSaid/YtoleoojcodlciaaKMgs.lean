/- Models of functions, and that the functions do what the models say; printed by a program. -/
import Derived.Test.YtoleoojcodlciaaK1
import Derived.Test.YtoleoojcodlciaaK7
namespace Go.Proofs.Ytoleoojcodlciaa
open Go.RowKit
set_option maxRecDepth 100000
set_option linter.unusedVariables false
set_option linter.unusedSimpArgs false
set_option linter.defProp false
set_option maxHeartbeats 4000000
/- laws.eqGateSS -/
def l_eqGateSS_j1 : Option Bool :=
  some true
def l_eqGateSS_l1 (a1 : List (LQ)) (a2 : List (LQ)) : Nat → Int → Option Bool
  | 0, _ => none
  | n1 + 1, v2 =>
  br (decide (v2 < ((a1.length : Int)))) (bO (geti a1 v2) fun q5 => bO (geti a2 v2) fun q6 => bO (l_eqGateS q5 q6) fun x3 => br (!x3) (some false) ((l_eqGateSS_l1 a1 a2 n1) (IntKind.wrap .i64 (v2 + 1)))) (l_eqGateSS_j1)
def l_eqGateSS (a1 : List (LQ)) (a2 : List (LQ)) : Option Bool :=
  br (((a1.length : Int)) != ((a2.length : Int))) (some false) (l_eqGateSS_l1 a1 a2 FU 0)
theorem l_eqGateSS_ok {a1 : List (LQ)} {a2 : List (LQ)} {r : Bool} (h : l_eqGateSS a1 a2 = some r) :
    Spec Try.prog 16 [.sl (encL ELIIIIE a1) a1.length, .sl (encL ELIIIIE a2) a2.length] [] (.bool r) [] := by
 unfold l_eqGateSS at h; refine SO Try.func16 rfl Try.ntmps16 fun C hN hρ => ?_; simp only [st0, tmps0, Nat.zero_add, Nat.reduceAdd]; refine AN hN ?_; refine AW_seq ?_; refine AN hN ?_; refine AB h (fun hc1 h => ?_) fun hc1 h => ?_
 ·refine AN hN ?_; injection h with h; subst h; exact AX (b' := 64) [(4, .bool false)] [] [] [] hρ (EQ [])
 ·refine AW_skip (AK ?_); refine AW_cutK (fun S => S = ⟨mkT [], mkR [], 64⟩ ∧ l_eqGateSS_j1 = some r) ?_ ?_
  ·refine AN hN ?_; refine AW_block ?_; refine AW_loopF (fun n S => ∃ (v2 : Int), S = ⟨mkT [(0, .sl (encL ELIIIIE a1) a1.length), (1, .sl (encL ELIIIIE a2) a2.length), (5, .int .i64 v2)], mkR [], 64⟩ ∧ l_eqGateSS_l1 a1 a2 n v2 = some r) FU ?_ ?_ ?_
   ·exact AC ⟨_, rfl, h⟩ [] [] hρ
   ·rintro S ⟨_, _, h⟩; rw [l_eqGateSS_l1] at h; cases h
   ·rintro n1 S ⟨v2, rfl, h⟩; rw [l_eqGateSS_l1] at h; refine AW_seq ?_; refine AN hN ?_; refine AB h (fun hc6 h => ?_) fun hc6 h => ?_
    ·refine AW_skip (AK ?_); refine AW_seq ?_; refine AW_block ?_; refine AR hN fun K hK => ?_; obtain ⟨q5, h11, h⟩ := bO_inv h; obtain ⟨⟨h12a, h12b⟩, h12c⟩ := geti_E ELIIIIEl h11; (try simp only [EV, seval] at h12c); obtain ⟨q6, h13, h⟩ := bO_inv h; obtain ⟨⟨h14a, h14b⟩, h14c⟩ := geti_E ELIIIIEl h13; (try simp only [EV, seval] at h14c); obtain ⟨x3, h15, h⟩ := bO_inv h; simp only [EV, seval, h12a, h12b, h12c, h14a, h14b, h14c]; refine rC_p (l_eqGateS_ok h15) (by simp only [AL, EV, seval, h12a, h12b, h12c, h14a, h14b, h14c]) (le_d rfl) (no_j rfl) ?_; simp only [EV, seval, h12a, h12b, h12c, h14a, h14b, h14c]; refine hK _ _ _ ?_; clear hK K; refine AW_condK (a := .bool (!x3)) (by simp only [EV, seval, h12a, h12b, h12c, h14a, h14b, h14c]) (brK h (fun hc7 h => ?_) (fun hc7 h => ?_))
     ·refine AN hN ?_; injection h with h; subst h; exact AX (b' := 64) [(4, .bool false)] [] [] [] hρ (EQ [])
     ·refine AW_skip (AK ?_); refine AS hN fun K hK => ?_; simp only [EV, seval]; exact hK _ _ _ (AC ⟨_, rfl, h⟩ [] [] hρ)
    ·exact AW_exit (AC ⟨rfl, h⟩ [] [] hρ)
  ·rintro S ⟨rfl, h⟩; unfold l_eqGateSS_j1 at h; refine AN hN ?_; injection h with h; subst h; exact AX (b' := 64) [(4, .bool true)] [] [] [] hρ (EQ [])
/- laws.heldGateSS -/
def l_heldGateSS_j1 (v5 : Int) : Option Int :=
  some v5
def l_heldGateSS_l1 (a1 : List (LQ)) : Nat → Int → Int → Option Int
  | 0, _, _ => none
  | n1 + 1, v3, v4 =>
  br (decide (v4 < ((a1.length : Int)))) (bO (geti a1 v4) fun q3 => bO (l_heldGateS q3 v3) fun x3 => br (decide (x3 < 0)) (some (-1)) ((l_heldGateSS_l1 a1 n1) x3 (IntKind.wrap .i64 (v4 + 1)))) (l_heldGateSS_j1 v3)
def l_heldGateSS (a1 : List (LQ)) (a2 : Int) : Option Int :=
  l_heldGateSS_l1 a1 FU a2 0
theorem l_heldGateSS_ok {a1 : List (LQ)} {a2 r : Int} (h : l_heldGateSS a1 a2 = some r) :
    Spec Try.prog 18 [.sl (encL ELIIIIE a1) a1.length, .int .i64 a2] [] (.int .i64 r) [] := by
 unfold l_heldGateSS at h; refine SO Try.func18 rfl Try.ntmps18 fun C hN hρ => ?_; simp only [st0, tmps0, Nat.zero_add, Nat.reduceAdd]; refine AN hN ?_; refine AW_cutK (fun S => ∃ (v5 : Int), S = ⟨mkT [(1, .int .i64 v5)], mkR [], 64⟩ ∧ l_heldGateSS_j1 v5 = some r) ?_ ?_
 ·refine AN hN ?_; refine AW_block ?_; refine AW_loopF (fun n S => ∃ (v3 v4 : Int), S = ⟨mkT [(0, .sl (encL ELIIIIE a1) a1.length), (1, .int .i64 v3), (5, .int .i64 v4)], mkR [], 64⟩ ∧ l_heldGateSS_l1 a1 n v3 v4 = some r) FU ?_ ?_ ?_
  ·exact AC ⟨_, _, rfl, h⟩ [] [] hρ
  ·rintro S ⟨_, _, _, h⟩; rw [l_heldGateSS_l1] at h; cases h
  ·rintro n1 S ⟨v3, v4, rfl, h⟩; rw [l_heldGateSS_l1] at h; refine AW_seq ?_; refine AN hN ?_; refine AB h (fun hc5 h => ?_) fun hc5 h => ?_
   ·refine AW_skip (AK ?_); refine AW_seq ?_; refine AW_block ?_; refine AR hN fun K hK => ?_; obtain ⟨q3, h7, h⟩ := bO_inv h; obtain ⟨⟨h8a, h8b⟩, h8c⟩ := geti_E ELIIIIEl h7; (try simp only [EV, seval] at h8c); obtain ⟨x3, h9, h⟩ := bO_inv h; simp only [EV, seval, h8a, h8b, h8c]; refine rC_p (l_heldGateS_ok h9) (by simp only [AL, EV, seval, h8a, h8b, h8c]) (le_d rfl) (no_j rfl) ?_; simp only [EV, seval, h8a, h8b, h8c]; refine hK _ _ _ ?_; clear hK K; refine AN hN ?_; refine AB h (fun hc6 h => ?_) fun hc6 h => ?_
    ·refine AN hN ?_; injection h with h; subst h; exact AX (b' := 64) [(4, .int .i64 (-1))] [] [] [] hρ (EQ [])
    ·refine AW_skip (AK ?_); refine AS hN fun K hK => ?_; simp only [EV, seval]; exact hK _ _ _ (AC ⟨_, _, rfl, h⟩ [] [] hρ)
   ·exact AW_exit (AC ⟨_, rfl, h⟩ [] [] hρ)
 ·rintro S ⟨v5, rfl, h⟩; unfold l_heldGateSS_j1 at h; refine AN hN ?_; injection h with h; subst h; exact AX (b' := 64) [(4, .int .i64 v5)] [] [] [] hρ (EQ [])
end Go.Proofs.Ytoleoojcodlciaa
