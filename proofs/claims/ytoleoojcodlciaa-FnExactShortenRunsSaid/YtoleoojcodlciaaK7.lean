/- Joined texts: Md Msr Mq. -/
import Derived.Test.YtoleoojcodlciaaK1
import Derived.Test.YtoleoojcodlciaaK5
import Derived.Test.YtoleoojcodlciaaKMf
import Derived.Test.YtoleoojcodlciaaK2
import Derived.Test.YtoleoojcodlciaaKMp
/- Models of functions, and that the functions do what the models say; printed by a program. -/
namespace Go.Proofs.Ytoleoojcodlciaa
open Go.RowKit
set_option maxRecDepth 100000
set_option linter.unusedVariables false
set_option linter.unusedSimpArgs false
set_option linter.defProp false
set_option maxHeartbeats 4000000
/- laws.toGate -/
def l_toGate (a1 a2 a3 a4 : Int) : Option (Int × Int × Int × Int) :=
  some (a1, a2, a3, a4)
theorem l_toGate_ok {a1 a2 a3 a4 : Int} {r : Int × Int × Int × Int} (h : l_toGate a1 a2 a3 a4 = some r) :
    Spec Try.prog 75 [.agg [.int .i64 a1, .int .i64 a2, .int .i64 a3, .int .i64 a4]] [] (.agg [.int .i64 r.1, .int .i64 r.2.1, .int .i64 r.2.2.1, .int .i64 r.2.2.2]) [] := by
 unfold l_toGate at h; refine SO Try.func75 rfl Try.ntmps75 fun C hN hρ => ?_; simp only [st0, tmps0, Nat.zero_add, Nat.reduceAdd]; refine AN hN ?_; refine AN hN ?_; refine AN hN ?_; refine AN hN ?_; refine AN hN ?_; refine AN hN ?_; refine AN hN ?_; injection h with h; subst h; exact AX (b' := 64) [(2, .ptr 32 0)] [(32, .box 86 [.int .i64 a1, .int .i64 a2, .int .i64 a3, .int .i64 a4])] [(32, some 80)] [] hρ (EQ [])
/- laws.eqGate -/
def l_eqGate (a1 a2 a3 a4 a5 a6 a7 a8 : Int) : Option Bool :=
  br (a1 != a5) (some false) (br (a2 != a6) (some false) (br (a3 != a7) (some false) (br (a4 != a8) (some false) (some true))))
theorem l_eqGate_ok {a1 a2 a3 a4 a5 a6 a7 a8 : Int} {r : Bool} (h : l_eqGate a1 a2 a3 a4 a5 a6 a7 a8 = some r) :
    Spec Try.prog 60 [.agg [.int .i64 a1, .int .i64 a2, .int .i64 a3, .int .i64 a4], .agg [.int .i64 a5, .int .i64 a6, .int .i64 a7, .int .i64 a8]] [] (.bool r) [] := by
 unfold l_eqGate at h; refine SO Try.func60 rfl Try.ntmps60 fun C hN hρ => ?_; simp only [st0, tmps0, Nat.zero_add, Nat.reduceAdd]; refine AN hN ?_; refine AW_seq ?_; refine AN hN ?_; refine AB h (fun hc1 h => ?_) fun hc1 h => ?_
 ·refine AN hN ?_; injection h with h; subst h; exact AX (b' := 64) [(4, .bool false)] [] [] [] hρ (EQ [])
 ·refine AW_skip (AK ?_); refine AW_seq ?_; refine AN hN ?_; refine AB h (fun hc2 h => ?_) fun hc2 h => ?_
  ·refine AN hN ?_; injection h with h; subst h; exact AX (b' := 64) [(4, .bool false)] [] [] [] hρ (EQ [])
  ·refine AW_skip (AK ?_); refine AW_seq ?_; refine AN hN ?_; refine AB h (fun hc3 h => ?_) fun hc3 h => ?_
   ·refine AN hN ?_; injection h with h; subst h; exact AX (b' := 64) [(4, .bool false)] [] [] [] hρ (EQ [])
   ·refine AW_skip (AK ?_); refine AW_seq ?_; refine AN hN ?_; refine AB h (fun hc4 h => ?_) fun hc4 h => ?_
    ·refine AN hN ?_; injection h with h; subst h; exact AX (b' := 64) [(4, .bool false)] [] [] [] hρ (EQ [])
    ·refine AW_skip (AK ?_); refine AN hN ?_; injection h with h; subst h; exact AX (b' := 64) [(4, .bool true)] [] [] [] hρ (EQ [])
/- laws.toGateS -/
def l_toGateS_j1 (v6 : LQ) : Option (LQ) :=
  some v6
def l_toGateS_l1 (a1 : LQ) : Nat → Int → (LQ) → Option (LQ)
  | 0, _, _ => none
  | n1 + 1, v4, v5 =>
  br (decide (v4 < ((a1.length : Int)))) (bO (geti a1 v4) fun q5 => bO (l_toGate q5.1 q5.2.1 q5.2.2.1 q5.2.2.2) fun x3 => bO (geti v5 v4) fun q6 => (l_toGateS_l1 a1 n1) (IntKind.wrap .i64 (v4 + 1)) (v5.set (Int.toNat v4) ((x3.1, x3.2.1, x3.2.2.1, x3.2.2.2)))) (l_toGateS_j1 v5)
def l_toGateS (a1 : LQ) : Option (LQ) :=
  gd (decide (0 ≤ (a1.length : Int) ∧ (a1.length : Int) ≤ 1048576)) (l_toGateS_l1 a1 FU 0 (List.replicate (Int.toNat ((a1.length : Int))) ((0, 0, 0, 0) : Int × Int × Int × Int)))
theorem l_toGateS_ok {a1 : LQ} {r : LQ} (h : l_toGateS a1 = some r) :
    Spec Try.prog 36 [.sl (encL EIIII a1) a1.length] [] (.own 0 r.length) [.row 86 4 (encL EIIII r)] := by
 unfold l_toGateS at h; refine SO Try.func36 rfl Try.ntmps36 fun C hN hρ => ?_; simp only [st0, tmps0, Nat.zero_add, Nat.reduceAdd]; refine AN hN ?_; refine AR hN fun K hK => ?_; obtain ⟨h1, h⟩ := gd_inv h; replace h1 := of_decide_eq_true h1; have h2 := zrow_enc (e := EIIII) ((0, 0, 0, 0)) (Int.toNat ((a1.length : Int))); simp only [EN] at h2; have h3 : (List.replicate (Int.toNat ((a1.length : Int))) ((0, 0, 0, 0) : Int × Int × Int × Int)).length = Int.toNat ((a1.length : Int)) := List.length_replicate; simp only [EV, seval, h1, h2, h3]; refine hK _ _ _ ?_; clear hK K; refine AW_cutK (fun S => ∃ (v6 : LQ), S = ⟨mkT [(3, .own 32 v6.length)], mkR [(32, .row 86 4 (encL EIIII v6))], 64⟩ ∧ l_toGateS_j1 v6 = some r) ?_ ?_
 ·refine AN hN ?_; refine AW_block ?_; refine AW_loopF (fun n S => ∃ (v4 : Int) (v5 : LQ), S = ⟨mkT [(0, .sl (encL EIIII a1) a1.length), (3, .own 32 v5.length), (4, .int .i64 v4)], mkR [(32, .row 86 4 (encL EIIII v5))], 64⟩ ∧ l_toGateS_l1 a1 n v4 v5 = some r) FU ?_ ?_ ?_
  ·exact AC ⟨_, _, rfl, h⟩ [(32, some 1120)] [] hρ
  ·rintro S ⟨_, _, _, h⟩; rw [l_toGateS_l1] at h; cases h
  ·rintro n1 S ⟨v4, v5, rfl, h⟩; rw [l_toGateS_l1] at h; refine AW_seq ?_; refine AN hN ?_; refine AB h (fun hc3 h => ?_) fun hc3 h => ?_
   ·refine AW_skip (AK ?_); refine AW_seq ?_; refine AW_block ?_; refine AS hN fun K hK => ?_; obtain ⟨q5, h16, h⟩ := bO_inv h; obtain ⟨⟨h17a, h17b⟩, h17c⟩ := geti_E EIIIIl h16; (try simp only [EV, seval] at h17c); obtain ⟨x3, h18, h⟩ := bO_inv h; simp only [EV, seval, h17a, h17b, h17c]; refine rC_p (l_toGate_ok h18) (by simp only [AL, EV, seval, h17a, h17b, h17c]) (le_d rfl) (no_j rfl) ?_; obtain ⟨q6, h19, h⟩ := bO_inv h; obtain ⟨⟨h20a, h20b⟩, h20c⟩ := geti_E EIIIIl h19; (try simp only [EV, seval] at h20c); have h21 := set_E EIIIIl ((x3.1, x3.2.1, x3.2.2.1, x3.2.2.2)) 0 [.int .i64 x3.1, .int .i64 x3.2.1, .int .i64 x3.2.2.1, .int .i64 x3.2.2.2] h19 (Nat.le_of_ble_eq_true rfl) rfl; obtain ⟨h21a, h21b⟩ := h21; (try simp only [EV, seval] at h21a); (try simp only [EV, seval] at h21b); simp only [EV, seval, h17a, h17b, h17c, h20a, h20b, h20c, h21a, h21b]; refine hK _ _ _ (show AW _ _ _ _ _ from ?_); refine AS hN fun K hK => ?_; simp only [EV, seval]; exact hK _ _ _ (AC ⟨_, _, rfl, h⟩ [(32, some 32)] [] hρ)
   ·exact AW_exit (AC ⟨_, rfl, h⟩ [(32, some 32)] [] hρ)
 ·rintro S ⟨v6, rfl, h⟩; unfold l_toGateS_j1 at h; refine AN hN ?_; injection h with h; subst h; exact AX (b' := 64) [(2, .own 32 v6.length)] [(32, .row 86 4 (encL EIIII v6))] [(32, some 32)] [] hρ (EQ [32])
/- laws.szGateS -/
def l_szGateS (a1 : LQ) (a2 : Int) : Option Int :=
  br (decide ((IntKind.wrap .i64 (a2 - ((a1.length : Int)))) < 0)) (some (-1)) (some (IntKind.wrap .i64 (a2 - ((a1.length : Int)))))
theorem l_szGateS_ok {a1 : LQ} {a2 r : Int} (h : l_szGateS a1 a2 = some r) :
    Spec Try.prog 34 [.sl (encL EIIII a1) a1.length, .int .i64 a2] [] (.int .i64 r) [] := by
 unfold l_szGateS at h; refine SO Try.func34 rfl Try.ntmps34 fun C hN hρ => ?_; simp only [st0, tmps0, Nat.zero_add, Nat.reduceAdd]; refine AN hN ?_; refine AN hN ?_; refine AW_seq ?_; refine AN hN ?_; refine AB h (fun hc1 h => ?_) fun hc1 h => ?_
 ·refine AN hN ?_; injection h with h; subst h; exact AX (b' := 64) [(4, .int .i64 (-1))] [] [] [] hρ (EQ [])
 ·refine AW_skip (AK ?_); refine AN hN ?_; injection h with h; subst h; exact AX (b' := 64) [(4, .int .i64 (IntKind.wrap .i64 (a2 - ((a1.length : Int)))))] [] [] [] hρ (EQ [])
/- laws.eqGateS -/
def l_eqGateS_j1 : Option Bool :=
  some true
def l_eqGateS_l1 (a1 : LQ) (a2 : LQ) : Nat → Int → Option Bool
  | 0, _ => none
  | n1 + 1, v2 =>
  br (decide (v2 < ((a1.length : Int)))) (bO (geti a1 v2) fun q5 => bO (geti a2 v2) fun q6 => bO (l_eqGate q5.1 q5.2.1 q5.2.2.1 q5.2.2.2 q6.1 q6.2.1 q6.2.2.1 q6.2.2.2) fun x3 => br (!x3) (some false) ((l_eqGateS_l1 a1 a2 n1) (IntKind.wrap .i64 (v2 + 1)))) (l_eqGateS_j1)
def l_eqGateS (a1 : LQ) (a2 : LQ) : Option Bool :=
  br (((a1.length : Int)) != ((a2.length : Int))) (some false) (l_eqGateS_l1 a1 a2 FU 0)
theorem l_eqGateS_ok {a1 : LQ} {a2 : LQ} {r : Bool} (h : l_eqGateS a1 a2 = some r) :
    Spec Try.prog 23 [.sl (encL EIIII a1) a1.length, .sl (encL EIIII a2) a2.length] [] (.bool r) [] := by
 unfold l_eqGateS at h; refine SO Try.func23 rfl Try.ntmps23 fun C hN hρ => ?_; simp only [st0, tmps0, Nat.zero_add, Nat.reduceAdd]; refine AN hN ?_; refine AW_seq ?_; refine AN hN ?_; refine AB h (fun hc1 h => ?_) fun hc1 h => ?_
 ·refine AN hN ?_; injection h with h; subst h; exact AX (b' := 64) [(4, .bool false)] [] [] [] hρ (EQ [])
 ·refine AW_skip (AK ?_); refine AW_cutK (fun S => S = ⟨mkT [], mkR [], 64⟩ ∧ l_eqGateS_j1 = some r) ?_ ?_
  ·refine AN hN ?_; refine AW_block ?_; refine AW_loopF (fun n S => ∃ (v2 : Int), S = ⟨mkT [(0, .sl (encL EIIII a1) a1.length), (1, .sl (encL EIIII a2) a2.length), (5, .int .i64 v2)], mkR [], 64⟩ ∧ l_eqGateS_l1 a1 a2 n v2 = some r) FU ?_ ?_ ?_
   ·exact AC ⟨_, rfl, h⟩ [] [] hρ
   ·rintro S ⟨_, _, h⟩; rw [l_eqGateS_l1] at h; cases h
   ·rintro n1 S ⟨v2, rfl, h⟩; rw [l_eqGateS_l1] at h; refine AW_seq ?_; refine AN hN ?_; refine AB h (fun hc6 h => ?_) fun hc6 h => ?_
    ·refine AW_skip (AK ?_); refine AW_seq ?_; refine AW_block ?_; refine AR hN fun K hK => ?_; obtain ⟨q5, h11, h⟩ := bO_inv h; obtain ⟨⟨h12a, h12b⟩, h12c⟩ := geti_E EIIIIl h11; (try simp only [EV, seval] at h12c); obtain ⟨q6, h13, h⟩ := bO_inv h; obtain ⟨⟨h14a, h14b⟩, h14c⟩ := geti_E EIIIIl h13; (try simp only [EV, seval] at h14c); obtain ⟨x3, h15, h⟩ := bO_inv h; simp only [EV, seval, h12a, h12b, h12c, h14a, h14b, h14c]; refine rC_p (l_eqGate_ok h15) (by simp only [AL, EV, seval, h12a, h12b, h12c, h14a, h14b, h14c]) (le_d rfl) (no_j rfl) ?_; simp only [EV, seval, h12a, h12b, h12c, h14a, h14b, h14c]; refine hK _ _ _ ?_; clear hK K; refine AW_condK (a := .bool (!x3)) (by simp only [EV, seval, h12a, h12b, h12c, h14a, h14b, h14c]) (brK h (fun hc7 h => ?_) (fun hc7 h => ?_))
     ·refine AN hN ?_; injection h with h; subst h; exact AX (b' := 64) [(4, .bool false)] [] [] [] hρ (EQ [])
     ·refine AW_skip (AK ?_); refine AS hN fun K hK => ?_; simp only [EV, seval]; exact hK _ _ _ (AC ⟨_, rfl, h⟩ [] [] hρ)
    ·exact AW_exit (AC ⟨rfl, h⟩ [] [] hρ)
  ·rintro S ⟨rfl, h⟩; unfold l_eqGateS_j1 at h; refine AN hN ?_; injection h with h; subst h; exact AX (b' := 64) [(4, .bool true)] [] [] [] hρ (EQ [])
end Go.Proofs.Ytoleoojcodlciaa
/- Models of functions, and that the functions do what the models say; printed by a program. -/
namespace Go.Proofs.Ytoleoojcodlciaa
open Go.RowKit
set_option maxRecDepth 100000
set_option linter.unusedVariables false
set_option linter.unusedSimpArgs false
set_option linter.defProp false
set_option maxHeartbeats 4000000
/- impl.RunCost -/
def i_RunCost_j6 (v10 v11 : Int) (kl1 : Int → Int → Int → Option Int) (v13 : Int) : Option Int :=
  kl1 v13 v10 (IntKind.wrap .i64 (v11 + 1))
def i_RunCost_j7 (v9 v10 v11 : Int) (kl1 : Int → Int → Int → Option Int) (v12 : Bool) : Option Int :=
  br v12 (i_RunCost_j6 v10 v11 kl1 (IntKind.wrap .i64 (v9 + 100))) (i_RunCost_j6 v10 v11 kl1 (IntKind.wrap .i64 (v9 + 1)))
def i_RunCost_j1 (v14 : Int) : Option Int :=
  some v14
def i_RunCost_l1 (a1 : LQ) : Nat → Int → Int → Int → Option Int
  | 0, _, _, _ => none
  | n1 + 1, v9, v10, v11 =>
  br (decide (v11 < v10)) (bO (geti a1 v11) fun q3 => bO (br (q3.1 == 7) (some true) (some (q3.1 == 8))) fun x3 => i_RunCost_j7 v9 v10 v11 (i_RunCost_l1 a1 n1) x3) (i_RunCost_j1 v9)
def i_RunCost (a1 : LQ) : Option Int :=
  i_RunCost_l1 a1 FU 0 ((a1.length : Int)) 0
theorem i_RunCost_ok {a1 : LQ} {r : Int} (h : i_RunCost a1 = some r) :
    Spec Try.prog 111 [.sl (encL EIIII a1) a1.length] [] (.int .i64 r) [] := by
 unfold i_RunCost at h; refine SO Try.func111 rfl Try.ntmps111 fun C hN hρ => ?_; simp only [st0, tmps0, Nat.zero_add, Nat.reduceAdd]; refine AN hN ?_; refine AN hN ?_; refine AW_cutK (fun S => ∃ (v14 : Int), S = ⟨mkT [(3, .int .i64 v14)], mkR [], 64⟩ ∧ i_RunCost_j1 v14 = some r) ?_ ?_
 ·refine AN hN ?_; refine AW_block ?_; refine AW_loopF (fun n S => ∃ (v9 v10 v11 : Int), S = ⟨mkT [(3, .int .i64 v9), (6, .sl (encL EIIII a1) a1.length), (7, .int .i64 v10), (8, .int .i64 v11)], mkR [], 64⟩ ∧ i_RunCost_l1 a1 n v9 v10 v11 = some r) FU ?_ ?_ ?_
  ·exact AC ⟨_, _, _, rfl, h⟩ [] [] hρ
  ·rintro S ⟨_, _, _, _, h⟩; rw [i_RunCost_l1] at h; cases h
  ·rintro n1 S ⟨v9, v10, v11, rfl, h⟩; rw [i_RunCost_l1] at h; refine AN hN ?_; refine AW_seq ?_; refine AB h (fun hc7 h => ?_) fun hc7 h => ?_
   ·refine AW_skip (AK ?_); refine AW_cutK (fun S => ∃ (v13 : Int), S = ⟨mkT [(3, .int .i64 v13), (6, .sl (encL EIIII a1) a1.length), (7, .int .i64 v10), (8, .int .i64 v11)], mkR [], 64⟩ ∧ i_RunCost_j6 v10 v11 (i_RunCost_l1 a1 n1) v13 = some r) ?_ ?_
    ·refine AW_block ?_; refine AR hN fun K hK => ?_; obtain ⟨q3, h5, h⟩ := bO_inv h; obtain ⟨⟨h6a, h6b⟩, h6c⟩ := geti_E EIIIIl h5; (try simp only [EV, seval] at h6c); simp only [EV, seval, h6a, h6b, h6c]; refine hK _ _ _ ?_; clear hK K; refine AJ (fun S => ∃ (v12 : Bool), S = ⟨mkT [(3, .int .i64 v9), (6, .sl (encL EIIII a1) a1.length), (7, .int .i64 v10), (8, .int .i64 v11), (19, .bool v12)], mkR [], 64⟩ ∧ i_RunCost_j7 v9 v10 v11 (i_RunCost_l1 a1 n1) v12 = some r) hN ?_ ?_
     ·intro K hK; obtain ⟨x3, hv3, h⟩ := bO_inv h; rcases br_inv hv3 with ⟨hc8, hv3⟩ | ⟨hc8, hv3⟩
      ·cases hv3; simp only [EV, seval, hc8]; refine hK _ _ _ (show cutK _ _ _ from cutL ⟨_, rfl, h⟩ (Le_can [] [] hρ (by kernel_rfl) ?_ ?_))
       ·simp only [AL, EV, seval, hc8]
       ·simp only [AL, EV, seval, hc8]
      ·cases hv3; simp only [EV, seval, hc8]; refine hK _ _ _ (show cutK _ _ _ from cutL ⟨_, rfl, h⟩ (Le_can [] [] hρ (by kernel_rfl) ?_ ?_))
       ·simp only [AL, EV, seval, hc8]
       ·simp only [AL, EV, seval, hc8]
     ·rintro S ⟨v12, rfl, h⟩; unfold i_RunCost_j7 at h; refine AW_condK (a := .bool v12) (by simp only [EV, seval, h6a, h6b, h6c]) (brK h (fun hc9 h => ?_) (fun hc9 h => ?_))
      ·refine AS hN fun K hK => ?_; simp only [EV, seval]; exact hK _ _ _ (AC ⟨_, rfl, h⟩ [] [] hρ)
      ·refine AS hN fun K hK => ?_; simp only [EV, seval]; exact hK _ _ _ (AC ⟨_, rfl, h⟩ [] [] hρ)
    ·rintro S ⟨v13, rfl, h⟩; unfold i_RunCost_j6 at h; refine AS hN fun K hK => ?_; simp only [EV, seval]; exact hK _ _ _ (AC ⟨_, _, _, rfl, h⟩ [] [] hρ)
   ·exact AW_exit (AC ⟨_, rfl, h⟩ [] [] hρ)
 ·rintro S ⟨v14, rfl, h⟩; unfold i_RunCost_j1 at h; refine AN hN ?_; injection h with h; subst h; exact AX (b' := 64) [(2, .int .i64 v14)] [] [] [] hρ (EQ [])
/- spec.RunCost -/
def s_RunCost_j6 (v8 : Int) (kl1 : Int → Int → Option Int) (v10 : Int) : Option Int :=
  kl1 v10 (IntKind.wrap .i64 (v8 + 1))
def s_RunCost_j7 (v7 v8 : Int) (kl1 : Int → Int → Option Int) (v9 : Bool) : Option Int :=
  br v9 (s_RunCost_j6 v8 kl1 (IntKind.wrap .i64 (v7 + 100))) (s_RunCost_j6 v8 kl1 (IntKind.wrap .i64 (v7 + 1)))
def s_RunCost_j1 (v11 : Int) : Option Int :=
  some v11
def s_RunCost_l1 (a1 : LQ) : Nat → Int → Int → Option Int
  | 0, _, _ => none
  | n1 + 1, v7, v8 =>
  br (decide (v8 < ((a1.length : Int)))) (bO (geti a1 v8) fun q3 => bO (br (q3.1 == 7) (some true) (some (q3.1 == 8))) fun x3 => s_RunCost_j7 v7 v8 (s_RunCost_l1 a1 n1) x3) (s_RunCost_j1 v7)
def s_RunCost (a1 : LQ) : Option Int :=
  s_RunCost_l1 a1 FU 0 0
theorem s_RunCost_ok {a1 : LQ} {r : Int} (h : s_RunCost a1 = some r) :
    Spec Try.prog 108 [.sl (encL EIIII a1) a1.length] [] (.int .i64 r) [] := by
 unfold s_RunCost at h; refine SO Try.func108 rfl Try.ntmps108 fun C hN hρ => ?_; simp only [st0, tmps0, Nat.zero_add, Nat.reduceAdd]; refine AN hN ?_; refine AN hN ?_; refine AW_cutK (fun S => ∃ (v11 : Int), S = ⟨mkT [(3, .int .i64 v11)], mkR [], 64⟩ ∧ s_RunCost_j1 v11 = some r) ?_ ?_
 ·refine AN hN ?_; refine AW_block ?_; refine AW_loopF (fun n S => ∃ (v7 v8 : Int), S = ⟨mkT [(0, .sl (encL EIIII a1) a1.length), (3, .int .i64 v7), (4, .int .i64 v8)], mkR [], 64⟩ ∧ s_RunCost_l1 a1 n v7 v8 = some r) FU ?_ ?_ ?_
  ·exact AC ⟨_, _, rfl, h⟩ [] [] hρ
  ·rintro S ⟨_, _, _, h⟩; rw [s_RunCost_l1] at h; cases h
  ·rintro n1 S ⟨v7, v8, rfl, h⟩; rw [s_RunCost_l1] at h; refine AW_seq ?_; refine AN hN ?_; refine AB h (fun hc7 h => ?_) fun hc7 h => ?_
   ·refine AW_skip (AK ?_); refine AW_cutK (fun S => ∃ (v10 : Int), S = ⟨mkT [(0, .sl (encL EIIII a1) a1.length), (3, .int .i64 v10), (4, .int .i64 v8)], mkR [], 64⟩ ∧ s_RunCost_j6 v8 (s_RunCost_l1 a1 n1) v10 = some r) ?_ ?_
    ·refine AW_block ?_; refine AJ (fun S => ∃ (v9 : Bool), S = ⟨mkT [(0, .sl (encL EIIII a1) a1.length), (3, .int .i64 v7), (4, .int .i64 v8), (24, .bool v9)], mkR [], 64⟩ ∧ s_RunCost_j7 v7 v8 (s_RunCost_l1 a1 n1) v9 = some r) hN ?_ ?_
     ·intro K hK; obtain ⟨q3, h5, h⟩ := bO_inv h; obtain ⟨⟨h6a, h6b⟩, h6c⟩ := geti_E EIIIIl h5; (try simp only [EV, seval] at h6c); obtain ⟨x3, hv3, h⟩ := bO_inv h; rcases br_inv hv3 with ⟨hc8, hv3⟩ | ⟨hc8, hv3⟩
      ·cases hv3; simp only [EV, seval, h6a, h6b, h6c, hc8]; refine hK _ _ _ (show cutK _ _ _ from cutL ⟨_, rfl, h⟩ (Le_can [] [] hρ (by kernel_rfl) ?_ ?_))
       ·simp only [AL, EV, seval, h6a, h6b, h6c, hc8]
       ·simp only [AL, EV, seval, h6a, h6b, h6c, hc8]
      ·cases hv3; simp only [EV, seval, h6a, h6b, h6c, hc8]; refine hK _ _ _ (show cutK _ _ _ from cutL ⟨_, rfl, h⟩ (Le_can [] [] hρ (by kernel_rfl) ?_ ?_))
       ·simp only [AL, EV, seval, h6a, h6b, h6c, hc8]
       ·simp only [AL, EV, seval, h6a, h6b, h6c, hc8]
     ·rintro S ⟨v9, rfl, h⟩; unfold s_RunCost_j7 at h; refine AB h (fun hc9 h => ?_) fun hc9 h => ?_
      ·refine AS hN fun K hK => ?_; simp only [EV, seval]; exact hK _ _ _ (AC ⟨_, rfl, h⟩ [] [] hρ)
      ·refine AS hN fun K hK => ?_; simp only [EV, seval]; exact hK _ _ _ (AC ⟨_, rfl, h⟩ [] [] hρ)
    ·rintro S ⟨v10, rfl, h⟩; unfold s_RunCost_j6 at h; refine AS hN fun K hK => ?_; simp only [EV, seval]; exact hK _ _ _ (AC ⟨_, _, rfl, h⟩ [] [] hρ)
   ·exact AW_exit (AC ⟨_, rfl, h⟩ [] [] hρ)
 ·rintro S ⟨v11, rfl, h⟩; unfold s_RunCost_j1 at h; refine AN hN ?_; injection h with h; subst h; exact AX (b' := 64) [(2, .int .i64 v11)] [] [] [] hρ (EQ [])
/- impl.ShortenRun -/
def i_ShortenRun_j4 (x1 : LQ) (v8 v9 : Int) (v10 : LQ) (kl1 : Int → Int → (LQ) → Option (LQ)) (q4 : Int × Int × Int × Int) (v11 : Bool) : Option (LQ) :=
  br v11 (some x1) (bO (i_one q4.1 0) fun x36 => gd (decide (v10.length + ([(x36.1, x36.2.1, x36.2.2.1, x36.2.2.2)]).length ≤ 16777216)) (kl1 v8 (IntKind.wrap .i64 (v9 + 1)) (v10 ++ ([(x36.1, x36.2.1, x36.2.2.1, x36.2.2.2)]))))
def i_ShortenRun_j5 (v20 : LQ) : Option (LQ) :=
  some v20
def i_ShortenRun_l2 (a1 : LQ) : Nat → Int → Int → (LQ) → Option (LQ)
  | 0, _, _, _ => none
  | n2 + 1, v17, v18, v19 =>
  br (decide (v18 < v17)) (bO (geti a1 0) fun q11 => bO (geti v19 v18) fun q12 => (i_ShortenRun_l2 a1 n2) v17 (IntKind.wrap .i64 (v18 + 1)) (v19.set (Int.toNat v18) ((q12.1, q11.2.1, q12.2.2.1, q12.2.2.2)))) (i_ShortenRun_j5 v19)
def i_ShortenRun_j1 (a1 : LQ) (x1 : LQ) (v12 : LQ) : Option (LQ) :=
  bO (i_ComputeNormalForm v12) fun x37 => br (!x37.2.2.2) (some x1) (bO (i_NormalFormGates x37.2.1 x37.1 x37.2.2.1) fun x38 => bO (i_RunCost x38) fun x39 => bO (i_RunCost a1) fun x40 => br (decide (x40 ≤ x39)) (some x1) (i_ShortenRun_l2 a1 FU ((x38.length : Int)) 0 x38))
def i_ShortenRun_l1 (a1 : LQ) (x1 : LQ) : Nat → Int → Int → (LQ) → Option (LQ)
  | 0, _, _, _ => none
  | n1 + 1, v8, v9, v10 =>
  br (decide (v9 < v8)) (bO (geti a1 v9) fun q4 => bO (i_Arity q4.1) fun x16 => bO (br (x16 != 1) (some true) (bO (geti a1 0) fun q5 => some (q4.2.1 != q5.2.1))) fun x17 => bO (br x17 (some true) (bO (i_in q4.2.1 0 3) fun x18 => some (!x18))) fun x19 => bO (br x19 (some true) (some (q4.2.2.1 != 0))) fun x20 => bO (br x20 (some true) (some (q4.2.2.2 != 0))) fun x21 => i_ShortenRun_j4 x1 v8 v9 v10 (i_ShortenRun_l1 a1 x1 n1) q4 x21) (i_ShortenRun_j1 a1 x1 v10)
def i_ShortenRun (a1 : LQ) : Option (LQ) :=
  bO (i_copyGates a1) fun x1 => i_ShortenRun_l1 a1 x1 FU ((a1.length : Int)) 0 ([] : LQ)
theorem i_ShortenRun_ok {a1 : LQ} {r : LQ} (h : i_ShortenRun a1 = some r) :
    Spec Try.prog 78 [.sl (encL EIIII a1) a1.length] [] (.own 0 r.length) [.row 86 4 (encL EIIII r)] := by
 unfold i_ShortenRun at h; refine SO Try.func78 rfl Try.ntmps78 fun C hN hρ => ?_; simp only [st0, tmps0, Nat.zero_add, Nat.reduceAdd]; refine AN hN ?_; refine AR hN fun K hK => ?_; obtain ⟨x1, h1, h⟩ := bO_inv h; simp only [EV, seval]; refine rC_p (i_copyGates_ok h1) (by simp only [AL, EV, seval]) (le_d rfl) (site_1 (by simp only [EV, seval])) ?_; simp only [EV, seval]; refine hK _ _ _ ?_; clear hK K; refine AN hN ?_; refine AW_cutK (fun S => ∃ (v12 : LQ), S = ⟨mkT [(0, .sl (encL EIIII a1) a1.length), (3, .own 32 x1.length), (4, .own 33 v12.length)], mkR [(32, .row 86 4 (encL EIIII x1)), (33, .row 86 4 (encL EIIII v12))], 64⟩ ∧ i_ShortenRun_j1 a1 x1 v12 = some r) ?_ ?_
 ·refine AN hN ?_; refine AW_block ?_; refine AW_loopF (fun n S => ∃ (v8 v9 : Int) (v10 : LQ), S = ⟨mkT [(0, .sl (encL EIIII a1) a1.length), (3, .own 32 x1.length), (4, .own 33 v10.length), (14, .sl (encL EIIII a1) a1.length), (15, .int .i64 v8), (16, .int .i64 v9)], mkR [(32, .row 86 4 (encL EIIII x1)), (33, .row 86 4 (encL EIIII v10))], 64⟩ ∧ i_ShortenRun_l1 a1 x1 n v8 v9 v10 = some r) FU ?_ ?_ ?_
  ·exact AC ⟨_, _, _, rfl, h⟩ [(32, some 1104), (33, some 2112)] [] hρ
  ·rintro S ⟨_, _, _, _, h⟩; rw [i_ShortenRun_l1] at h; cases h
  ·rintro n1 S ⟨v8, v9, v10, rfl, h⟩; rw [i_ShortenRun_l1] at h; refine AN hN ?_; refine AW_seq ?_; refine AB h (fun hc13 h => ?_) fun hc13 h => ?_
   ·refine AW_skip (AK ?_); refine AW_seq ?_; refine AW_block ?_; refine AR hN fun K hK => ?_; obtain ⟨q4, h16, h⟩ := bO_inv h; obtain ⟨⟨h17a, h17b⟩, h17c⟩ := geti_E EIIIIl h16; (try simp only [EV, seval] at h17c); simp only [EV, seval, h17a, h17b, h17c]; refine hK _ _ _ ?_; clear hK K; refine AW_seq ?_; refine AJ (fun S => ∃ (v11 : Bool), S = ⟨mkT [(0, .sl (encL EIIII a1) a1.length), (3, .own 32 x1.length), (4, .own 33 v10.length), (6, .ptr 34 0), (14, .sl (encL EIIII a1) a1.length), (15, .int .i64 v8), (16, .int .i64 v9), (48, .bool v11)], mkR [(32, .row 86 4 (encL EIIII x1)), (33, .row 86 4 (encL EIIII v10)), (34, .box 86 [.int .i64 q4.1, .int .i64 q4.2.1, .int .i64 q4.2.2.1, .int .i64 q4.2.2.2])], 64⟩ ∧ i_ShortenRun_j4 x1 v8 v9 v10 (i_ShortenRun_l1 a1 x1 n1) q4 v11 = some r) hN ?_ ?_
    ·intro K hK; obtain ⟨x16, h18, h⟩ := bO_inv h; simp only [EV, seval]; refine CP (i_Arity_ok h18) ?_; obtain ⟨x17, hv9, h⟩ := bO_inv h; rcases br_inv hv9 with ⟨hc14, hv9⟩ | ⟨hc14, hv9⟩
     ·cases hv9; obtain ⟨x22, hv13, h⟩ := bO_inv h; replace hv13 := br_t hv13; cases hv13; (try dsimp only at h); obtain ⟨x23, hv14, h⟩ := bO_inv h; replace hv14 := br_t hv14; cases hv14; (try dsimp only at h); obtain ⟨x24, hv15, h⟩ := bO_inv h; replace hv15 := br_t hv15; cases hv15; (try dsimp only at h); simp only [EV, seval, hc14]; refine hK _ _ _ (show cutK _ _ _ from cutL ⟨_, rfl, h⟩ (Le_can [(32, some 32), (33, some 33), (34, some 1120)] [] hρ (by kernel_rfl) ?_ ?_))
      ·simp only [AL, EV, seval, hc14]
      ·simp only [AL, EV, seval, hc14]
     ·obtain ⟨q6, h22, hv9⟩ := bO_inv hv9; obtain ⟨⟨h23a, h23b⟩, h23c⟩ := geti_E EIIIIl h22; (try simp only [EV, seval] at h23c); (try simp only [EV, seval, h23c] at h17c); cases hv9; obtain ⟨x26, hv16, h⟩ := bO_inv h; rcases br_inv hv16 with ⟨hc18, hv16⟩ | ⟨hc18, hv16⟩
      ·cases hv16; obtain ⟨x29, hv19, h⟩ := bO_inv h; replace hv19 := br_t hv19; cases hv19; (try dsimp only at h); obtain ⟨x30, hv20, h⟩ := bO_inv h; replace hv20 := br_t hv20; cases hv20; (try dsimp only at h); simp only [EV, seval, hc14, h23a, h23b, h23c, hc18]; refine hK _ _ _ (show cutK _ _ _ from cutL ⟨_, rfl, h⟩ (Le_can [(32, some 32), (33, some 33), (34, some 1120)] [] hρ (by kernel_rfl) ?_ ?_))
       ·simp only [AL, EV, seval, hc14, h23a, h23b, h23c, hc18]
       ·simp only [AL, EV, seval, hc14, h23a, h23b, h23c, hc18]
      ·obtain ⟨x31, h25, hv16⟩ := bO_inv hv16; simp only [EV, seval, hc14, h23a, h23b, h23c, hc18]; refine rC_p (i_in_ok h25) (by simp only [AL, EV, seval, hc14, h23a, h23b, h23c, hc18]) (le_d rfl) (no_j rfl) ?_; cases hv16; obtain ⟨x32, hv21, h⟩ := bO_inv h; rcases br_inv hv21 with ⟨hc21, hv21⟩ | ⟨hc21, hv21⟩
       ·cases hv21; obtain ⟨x34, hv23, h⟩ := bO_inv h; replace hv23 := br_t hv23; cases hv23; (try dsimp only at h); simp only [EV, seval, hc14, h23a, h23b, h23c, hc18, hc21]; refine hK _ _ _ (show cutK _ _ _ from cutL ⟨_, rfl, h⟩ (Le_can [(32, some 32), (33, some 33), (34, some 1120)] [] hρ (by kernel_rfl) ?_ ?_))
        ·simp only [AL, EV, seval, hc14, h23a, h23b, h23c, hc18, hc21]
        ·simp only [AL, EV, seval, hc14, h23a, h23b, h23c, hc18, hc21]
       ·cases hv21; obtain ⟨x35, hv24, h⟩ := bO_inv h; rcases br_inv hv24 with ⟨hc23, hv24⟩ | ⟨hc23, hv24⟩
        ·cases hv24; simp only [EV, seval, hc14, h23a, h23b, h23c, hc18, hc21, hc23]; refine hK _ _ _ (show cutK _ _ _ from cutL ⟨_, rfl, h⟩ (Le_can [(32, some 32), (33, some 33), (34, some 1120)] [] hρ (by kernel_rfl) ?_ ?_))
         ·simp only [AL, EV, seval, hc14, h23a, h23b, h23c, hc18, hc21, hc23]
         ·simp only [AL, EV, seval, hc14, h23a, h23b, h23c, hc18, hc21, hc23]
        ·cases hv24; simp only [EV, seval, hc14, h23a, h23b, h23c, hc18, hc21, hc23]; refine hK _ _ _ (show cutK _ _ _ from cutL ⟨_, rfl, h⟩ (Le_can [(32, some 32), (33, some 33), (34, some 1120)] [] hρ (by kernel_rfl) ?_ ?_))
         ·simp only [AL, EV, seval, hc14, h23a, h23b, h23c, hc18, hc21, hc23]
         ·simp only [AL, EV, seval, hc14, h23a, h23b, h23c, hc18, hc21, hc23]
    ·rintro S ⟨v11, rfl, h⟩; unfold i_ShortenRun_j4 at h; refine AW_condK (a := .bool v11) (by simp only [EV, seval, h17a, h17b, h17c]) (brK h (fun hc24 h => ?_) (fun hc24 h => ?_))
     ·refine AN hN ?_; injection h with h; subst h; exact AX (b' := 64) [(2, .own 32 x1.length)] [(32, .row 86 4 (encL EIIII x1))] [(32, some 32)] [] hρ (EQ [32])
     ·refine AW_skip (AK ?_); refine AS hN fun K hK => ?_; obtain ⟨x36, h26, h⟩ := bO_inv h; simp only [EV, seval]; refine CP (i_one_ok h26) ?_; obtain ⟨h27, h⟩ := gd_inv h; replace h27 := of_decide_eq_true h27; (try simp only [EV, seval] at h27); simp only [EV, seval, h27]; refine hK _ _ _ (show AW _ _ _ _ _ from ?_); refine AS hN fun K hK => ?_; simp only [EV, seval]; exact hK _ _ _ (AC ⟨_, _, _, rfl, h⟩ [(32, some 32), (33, some 144)] [] hρ)
   ·exact AW_exit (AC ⟨_, rfl, h⟩ [(32, some 32), (33, some 33)] [] hρ)
 ·rintro S ⟨v12, rfl, h⟩; unfold i_ShortenRun_j1 at h; refine AR hN fun K hK => ?_; obtain ⟨x37, h28, h⟩ := bO_inv h; simp only [EV, seval]; refine rC_l (i_ComputeNormalForm_ok h28) (by simp only [AL, EV, seval]) (by simp only [AL, EF, and_self]) (le_d rfl) (site_2 (by simp only [EV, seval])) ?_; simp only [EV, seval]; refine hK _ _ _ ?_; clear hK K; refine AW_seq ?_; refine AN hN ?_; refine AB h (fun hc25 h => ?_) fun hc25 h => ?_
  ·refine AN hN ?_; injection h with h; subst h; exact AX (b' := 64) [(2, .own 32 x1.length)] [(32, .row 86 4 (encL EIIII x1))] [(32, some 32)] [] hρ (EQ [32])
  ·refine AW_skip (AK ?_); refine AR hN fun K hK => ?_; obtain ⟨x38, h29, h⟩ := bO_inv h; simp only [EV, seval]; refine rC_l (i_NormalFormGates_ok h29) (by simp only [AL, EV, seval]) (by simp only [AL, EF, and_self]) (le_d rfl) (site_1 (by simp only [EV, seval])) ?_; simp only [EV, seval]; refine hK _ _ _ ?_; clear hK K; refine AW_seq ?_; refine AR hN fun K hK => ?_; obtain ⟨x39, h30, h⟩ := bO_inv h; simp only [EV, seval]; refine rC_l (i_RunCost_ok h30) (by simp only [AL, EV, seval]) (by simp only [AL, EF, and_self]) (le_d rfl) (no_j rfl) ?_; obtain ⟨x40, h31, h⟩ := bO_inv h; simp only [EV, seval]; refine CP (i_RunCost_ok h31) ?_; simp only [EV, seval]; refine hK _ _ _ ?_; clear hK K; refine AB h (fun hc26 h => ?_) fun hc26 h => ?_
   ·refine AN hN ?_; injection h with h; subst h; exact AX (b' := 64) [(2, .own 32 x1.length)] [(32, .row 86 4 (encL EIIII x1))] [(32, some 32)] [] hρ (EQ [32])
   ·refine AW_skip (AK ?_); refine AW_cutK (fun S => ∃ (v20 : LQ), S = ⟨mkT [(9, .own 32 v20.length)], mkR [(32, .row 86 4 (encL EIIII v20))], 64⟩ ∧ i_ShortenRun_j5 v20 = some r) ?_ ?_
    ·refine AN hN ?_; refine AW_block ?_; refine AW_loopF (fun n S => ∃ (v17 v18 : Int) (v19 : LQ), S = ⟨mkT [(0, .sl (encL EIIII a1) a1.length), (9, .own 32 v19.length), (74, .int .i64 v17), (75, .int .i64 v18)], mkR [(32, .row 86 4 (encL EIIII v19))], 64⟩ ∧ i_ShortenRun_l2 a1 n v17 v18 v19 = some r) FU ?_ ?_ ?_
     ·exact AC ⟨_, _, _, rfl, h⟩ [(32, some 2128)] [] hρ
     ·rintro S ⟨_, _, _, _, h⟩; rw [i_ShortenRun_l2] at h; cases h
     ·rintro n2 S ⟨v17, v18, v19, rfl, h⟩; rw [i_ShortenRun_l2] at h; refine AN hN ?_; refine AW_seq ?_; refine AB h (fun hc29 h => ?_) fun hc29 h => ?_
      ·refine AW_skip (AK ?_); refine AW_seq ?_; refine AW_block ?_; refine AN hN ?_; refine AS hN fun K hK => ?_; obtain ⟨q11, h42, h⟩ := bO_inv h; obtain ⟨⟨h43a, h43b⟩, h43c⟩ := geti_E EIIIIl h42; (try simp only [EV, seval] at h43c); obtain ⟨q12, h44, h⟩ := bO_inv h; obtain ⟨⟨h45a, h45b⟩, h45c⟩ := geti_E EIIIIl h44; (try simp only [EV, seval] at h45c); have h46 := set_E EIIIIl ((q12.1, q11.2.1, q12.2.2.1, q12.2.2.2)) 1 [.int .i64 q11.2.1] h44 (Nat.le_of_ble_eq_true rfl) rfl; obtain ⟨h46a, h46b⟩ := h46; (try simp only [EV, seval] at h46a); (try simp only [EV, seval] at h46b); simp only [EV, seval, h43a, h43b, h43c, h45a, h45b, h45c, h46a, h46b]; refine hK _ _ _ (show AW _ _ _ _ _ from ?_); refine AS hN fun K hK => ?_; simp only [EV, seval, h43c]; refine hK _ _ _ (show cutK _ _ _ from cutL ⟨_, _, _, rfl, h⟩ (Le_can [(32, some 32)] [] hρ (by kernel_rfl) ?_ ?_))
       ·simp only [AL, EV, seval, h43c]
       ·simp only [AL, EV, seval, h43c]
      ·exact AW_exit (AC ⟨_, rfl, h⟩ [(32, some 32)] [] hρ)
    ·rintro S ⟨v20, rfl, h⟩; unfold i_ShortenRun_j5 at h; refine AN hN ?_; injection h with h; subst h; exact AX (b' := 64) [(2, .own 32 v20.length)] [(32, .row 86 4 (encL EIIII v20))] [(32, some 32)] [] hρ (EQ [32])
/- spec.ShortenRun -/
def s_ShortenRun_j4 (a1 : LQ) (v6 : Int) (v7 : LQ) (kl1 : Int → (LQ) → Option (LQ)) (q4 : Int × Int × Int × Int) (v8 : Bool) : Option (LQ) :=
  br v8 (some a1) (bO (s_l14One q4.1 0) fun x18 => gd (decide (v7.length + ([(x18.1, x18.2.1, x18.2.2.1, x18.2.2.2)]).length ≤ 16777216)) (kl1 (IntKind.wrap .i64 (v6 + 1)) (v7 ++ ([(x18.1, x18.2.1, x18.2.2.1, x18.2.2.2)]))))
def s_ShortenRun_j5 (v14 : LQ) : Option (LQ) :=
  some v14
def s_ShortenRun_l2 (a1 : LQ) : Nat → Int → (LQ) → Option (LQ)
  | 0, _, _ => none
  | n2 + 1, v12, v13 =>
  br (decide (v12 < ((v13.length : Int)))) (bO (geti a1 0) fun q12 => bO (geti v13 v12) fun q13 => (s_ShortenRun_l2 a1 n2) (IntKind.wrap .i64 (v12 + 1)) (v13.set (Int.toNat v12) ((q13.1, q12.2.1, q13.2.2.1, q13.2.2.2)))) (s_ShortenRun_j5 v13)
def s_ShortenRun_j1 (a1 : LQ) (v9 : LQ) : Option (LQ) :=
  br (decide (((a1.length : Int)) < 2)) (some a1) (bO (s_ComputeNormalForm v9) fun x19 => bO (s_NormalFormGates x19.2.1 x19.1 x19.2.2.1) fun x20 => bO (s_RunCost x20) fun x21 => bO (s_RunCost a1) fun x22 => br (decide (x22 ≤ x21)) (some a1) (s_ShortenRun_l2 a1 FU 0 x20))
def s_ShortenRun_l1 (a1 : LQ) : Nat → Int → (LQ) → Option (LQ)
  | 0, _, _ => none
  | n1 + 1, v6, v7 =>
  br (decide (v6 < ((a1.length : Int)))) (bO (geti a1 v6) fun q4 => bO (s_Arity q4.1) fun x11 => bO (br (x11 != 1) (some true) (bO (s_IsValidGate q4.1 q4.2.1 q4.2.2.1 q4.2.2.2 4) fun x12 => some (!x12))) fun x13 => bO (br x13 (some true) (bO (geti a1 0) fun q5 => some (q4.2.1 != q5.2.1))) fun x14 => s_ShortenRun_j4 a1 v6 v7 (s_ShortenRun_l1 a1 n1) q4 x14) (s_ShortenRun_j1 a1 v7)
def s_ShortenRun (a1 : LQ) : Option (LQ) :=
  gd (decide (([] : LQ).length + a1.length ≤ 16777216)) (s_ShortenRun_l1 a1 FU 0 ([] : LQ))
theorem s_ShortenRun_ok {a1 : LQ} {r : LQ} (h : s_ShortenRun a1 = some r) :
    Spec Try.prog 74 [.sl (encL EIIII a1) a1.length] [] (.own 0 r.length) [.row 86 4 (encL EIIII r)] := by
 unfold s_ShortenRun at h; refine SO Try.func74 rfl Try.ntmps74 fun C hN hρ => ?_; simp only [st0, tmps0, Nat.zero_add, Nat.reduceAdd]; refine AN hN ?_; refine AR hN fun K hK => ?_; obtain ⟨h1, h⟩ := gd_inv h; replace h1 := of_decide_eq_true h1; (try simp only [EV, seval] at h1); have h2 := encL_len EIIIIl a1; simp only [EV, seval, h1, h2]; refine hK _ _ _ ?_; clear hK K; refine AN hN ?_; refine AW_cutK (fun S => ∃ (v9 : LQ), S = ⟨mkT [(0, .sl (encL EIIII a1) a1.length), (3, .own 32 a1.length), (4, .own 33 v9.length)], mkR [(32, .row 86 4 (encL EIIII a1)), (33, .row 86 4 (encL EIIII v9))], 64⟩ ∧ s_ShortenRun_j1 a1 v9 = some r) ?_ ?_
 ·refine AN hN ?_; refine AW_block ?_; refine AW_loopF (fun n S => ∃ (v6 : Int) (v7 : LQ), S = ⟨mkT [(0, .sl (encL EIIII a1) a1.length), (3, .own 32 a1.length), (4, .own 33 v7.length), (5, .int .i64 v6)], mkR [(32, .row 86 4 (encL EIIII a1)), (33, .row 86 4 (encL EIIII v7))], 64⟩ ∧ s_ShortenRun_l1 a1 n v6 v7 = some r) FU ?_ ?_ ?_
  ·exact AC ⟨_, _, rfl, h⟩ [(32, some 1120), (33, some 2112)] [] hρ
  ·rintro S ⟨_, _, _, h⟩; rw [s_ShortenRun_l1] at h; cases h
  ·rintro n1 S ⟨v6, v7, rfl, h⟩; rw [s_ShortenRun_l1] at h; refine AW_seq ?_; refine AN hN ?_; refine AB h (fun hc9 h => ?_) fun hc9 h => ?_
   ·refine AW_skip (AK ?_); refine AW_seq ?_; refine AW_block ?_; refine AR hN fun K hK => ?_; obtain ⟨q4, h17, h⟩ := bO_inv h; obtain ⟨⟨h18a, h18b⟩, h18c⟩ := geti_E EIIIIl h17; (try simp only [EV, seval] at h18c); simp only [EV, seval, h18a, h18b, h18c]; refine hK _ _ _ ?_; clear hK K; refine AW_seq ?_; refine AJ (fun S => ∃ (v8 : Bool), S = ⟨mkT [(0, .sl (encL EIIII a1) a1.length), (3, .own 32 a1.length), (4, .own 33 v7.length), (5, .int .i64 v6), (6, .ptr 34 0), (42, .bool v8)], mkR [(32, .row 86 4 (encL EIIII a1)), (33, .row 86 4 (encL EIIII v7)), (34, .box 86 [.int .i64 q4.1, .int .i64 q4.2.1, .int .i64 q4.2.2.1, .int .i64 q4.2.2.2])], 64⟩ ∧ s_ShortenRun_j4 a1 v6 v7 (s_ShortenRun_l1 a1 n1) q4 v8 = some r) hN ?_ ?_
    ·intro K hK; obtain ⟨x11, h19, h⟩ := bO_inv h; simp only [EV, seval]; refine CP (s_Arity_ok h19) ?_; obtain ⟨x13, hv5, h⟩ := bO_inv h; rcases br_inv hv5 with ⟨hc10, hv5⟩ | ⟨hc10, hv5⟩
     ·cases hv5; obtain ⟨x15, hv7, h⟩ := bO_inv h; replace hv7 := br_t hv7; cases hv7; (try dsimp only at h); simp only [EV, seval, hc10]; refine hK _ _ _ (show cutK _ _ _ from cutL ⟨_, rfl, h⟩ (Le_can [(32, some 32), (33, some 33), (34, some 1152)] [] hρ (by kernel_rfl) ?_ ?_))
      ·simp only [AL, EV, seval, hc10]
      ·simp only [AL, EV, seval, hc10]
     ·obtain ⟨x16, h23, hv5⟩ := bO_inv hv5; simp only [EV, seval, hc10]; refine rC_p (s_IsValidGate_ok h23) (by simp only [AL, EV, seval, hc10]) (le_d rfl) (no_j rfl) ?_; cases hv5; obtain ⟨x17, hv8, h⟩ := bO_inv h; rcases br_inv hv8 with ⟨hc12, hv8⟩ | ⟨hc12, hv8⟩
      ·cases hv8; simp only [EV, seval, hc10, hc12]; refine hK _ _ _ (show cutK _ _ _ from cutL ⟨_, rfl, h⟩ (Le_can [(32, some 32), (33, some 33), (34, some 1152)] [] hρ (by kernel_rfl) ?_ ?_))
       ·simp only [AL, EV, seval, hc10, hc12]
       ·simp only [AL, EV, seval, hc10, hc12]
      ·obtain ⟨q7, h26, hv8⟩ := bO_inv hv8; obtain ⟨⟨h27a, h27b⟩, h27c⟩ := geti_E EIIIIl h26; (try simp only [EV, seval] at h27c); (try simp only [EV, seval, h27c] at h18c); cases hv8; simp only [EV, seval, hc10, hc12, h27a, h27b, h27c]; refine hK _ _ _ (show cutK _ _ _ from cutL ⟨_, rfl, h⟩ (Le_can [(32, some 32), (33, some 33), (34, some 1152)] [] hρ (by kernel_rfl) ?_ ?_))
       ·simp only [AL, EV, seval, hc10, hc12, h27a, h27b, h27c]
       ·simp only [AL, EV, seval, hc10, hc12, h27a, h27b, h27c]
    ·rintro S ⟨v8, rfl, h⟩; unfold s_ShortenRun_j4 at h; refine AW_condK (a := .bool v8) (by simp only [EV, seval, h18a, h18b, h18c]) (brK h (fun hc13 h => ?_) (fun hc13 h => ?_))
     ·refine AN hN ?_; injection h with h; subst h; exact AX (b' := 64) [(2, .own 32 a1.length)] [(32, .row 86 4 (encL EIIII a1))] [(32, some 32)] [] hρ (EQ [32])
     ·refine AW_skip (AK ?_); refine AS hN fun K hK => ?_; obtain ⟨x18, h28, h⟩ := bO_inv h; simp only [EV, seval]; refine CP (s_l14One_ok h28) ?_; obtain ⟨h29, h⟩ := gd_inv h; replace h29 := of_decide_eq_true h29; (try simp only [EV, seval] at h29); simp only [EV, seval, h29]; refine hK _ _ _ (show AW _ _ _ _ _ from ?_); refine AS hN fun K hK => ?_; simp only [EV, seval]; exact hK _ _ _ (AC ⟨_, _, rfl, h⟩ [(32, some 32), (33, some 144)] [] hρ)
   ·exact AW_exit (AC ⟨_, rfl, h⟩ [(32, some 32), (33, some 33)] [] hρ)
 ·rintro S ⟨v9, rfl, h⟩; unfold s_ShortenRun_j1 at h; refine AW_seq ?_; refine AN hN ?_; refine AB h (fun hc14 h => ?_) fun hc14 h => ?_
  ·refine AN hN ?_; injection h with h; subst h; exact AX (b' := 64) [(2, .own 32 a1.length)] [(32, .row 86 4 (encL EIIII a1))] [(32, some 32)] [] hρ (EQ [32])
  ·refine AW_skip (AK ?_); refine AR hN fun K hK => ?_; obtain ⟨x19, h30, h⟩ := bO_inv h; simp only [EV, seval]; refine rC_l (s_ComputeNormalForm_ok h30) (by simp only [AL, EV, seval]) (by simp only [AL, EF, and_self]) (le_d rfl) (site_2 (by simp only [EV, seval])) ?_; simp only [EV, seval]; refine hK _ _ _ ?_; clear hK K; refine AR hN fun K hK => ?_; obtain ⟨x20, h31, h⟩ := bO_inv h; simp only [EV, seval]; refine rC_l (s_NormalFormGates_ok h31) (by simp only [AL, EV, seval]) (by simp only [AL, EF, and_self]) (le_d rfl) (site_1 (by simp only [EV, seval])) ?_; simp only [EV, seval]; refine hK _ _ _ ?_; clear hK K; refine AW_seq ?_; refine AR hN fun K hK => ?_; obtain ⟨x21, h32, h⟩ := bO_inv h; simp only [EV, seval]; refine rC_l (s_RunCost_ok h32) (by simp only [AL, EV, seval]) (by simp only [AL, EF, and_self]) (le_d rfl) (no_j rfl) ?_; obtain ⟨x22, h33, h⟩ := bO_inv h; simp only [EV, seval]; refine CP (s_RunCost_ok h33) ?_; simp only [EV, seval]; refine hK _ _ _ ?_; clear hK K; refine AB h (fun hc15 h => ?_) fun hc15 h => ?_
   ·refine AN hN ?_; injection h with h; subst h; exact AX (b' := 64) [(2, .own 32 a1.length)] [(32, .row 86 4 (encL EIIII a1))] [(32, some 32)] [] hρ (EQ [32])
   ·refine AW_skip (AK ?_); refine AW_cutK (fun S => ∃ (v14 : LQ), S = ⟨mkT [(9, .own 32 v14.length)], mkR [(32, .row 86 4 (encL EIIII v14))], 64⟩ ∧ s_ShortenRun_j5 v14 = some r) ?_ ?_
    ·refine AN hN ?_; refine AW_block ?_; refine AW_loopF (fun n S => ∃ (v12 : Int) (v13 : LQ), S = ⟨mkT [(0, .sl (encL EIIII a1) a1.length), (9, .own 32 v13.length), (10, .int .i64 v12)], mkR [(32, .row 86 4 (encL EIIII v13))], 64⟩ ∧ s_ShortenRun_l2 a1 n v12 v13 = some r) FU ?_ ?_ ?_
     ·exact AC ⟨_, _, rfl, h⟩ [(32, some 2128)] [] hρ
     ·rintro S ⟨_, _, _, h⟩; rw [s_ShortenRun_l2] at h; cases h
     ·rintro n2 S ⟨v12, v13, rfl, h⟩; rw [s_ShortenRun_l2] at h; refine AW_seq ?_; refine AN hN ?_; refine AB h (fun hc18 h => ?_) fun hc18 h => ?_
      ·refine AW_skip (AK ?_); refine AW_seq ?_; refine AW_block ?_; refine AS hN fun K hK => ?_; obtain ⟨q12, h44, h⟩ := bO_inv h; obtain ⟨⟨h45a, h45b⟩, h45c⟩ := geti_E EIIIIl h44; (try simp only [EV, seval] at h45c); obtain ⟨q13, h46, h⟩ := bO_inv h; obtain ⟨⟨h47a, h47b⟩, h47c⟩ := geti_E EIIIIl h46; (try simp only [EV, seval] at h47c); have h48 := set_E EIIIIl ((q13.1, q12.2.1, q13.2.2.1, q13.2.2.2)) 1 [.int .i64 q12.2.1] h46 (Nat.le_of_ble_eq_true rfl) rfl; obtain ⟨h48a, h48b⟩ := h48; (try simp only [EV, seval] at h48a); (try simp only [EV, seval] at h48b); simp only [EV, seval, h45a, h45b, h45c, h47a, h47b, h47c, h48a, h48b]; refine hK _ _ _ (show AW _ _ _ _ _ from ?_); refine AS hN fun K hK => ?_; simp only [EV, seval, h45c]; refine hK _ _ _ (show cutK _ _ _ from cutL ⟨_, _, rfl, h⟩ (Le_can [(32, some 32)] [] hρ (by kernel_rfl) ?_ ?_))
       ·simp only [AL, EV, seval, h45c]
       ·simp only [AL, EV, seval, h45c]
      ·exact AW_exit (AC ⟨_, rfl, h⟩ [(32, some 32)] [] hρ)
    ·rintro S ⟨v14, rfl, h⟩; unfold s_ShortenRun_j5 at h; refine AN hN ?_; injection h with h; subst h; exact AX (b' := 64) [(2, .own 32 v14.length)] [(32, .row 86 4 (encL EIIII v14))] [(32, some 32)] [] hρ (EQ [32])
end Go.Proofs.Ytoleoojcodlciaa
/- Models of functions, and that the functions do what the models say; printed by a program. -/
namespace Go.Proofs.Ytoleoojcodlciaa
open Go.RowKit
set_option maxRecDepth 100000
set_option linter.unusedVariables false
set_option linter.unusedSimpArgs false
set_option linter.defProp false
set_option maxHeartbeats 4000000
/- laws.markGateS -/
def l_markGateS_j1 (v7 : LQ) (v8 : Int) : Option (Int × LQ) :=
  some (v8, v7)
def l_markGateS_l1 : Nat → (LQ) → Int → Int → Option (Int × LQ)
  | 0, _, _, _ => none
  | n1 + 1, v4, v5, v6 =>
  br (decide (v6 < ((v4.length : Int)))) (bO (geti v4 v6) fun q9 => bO (geti (v4.set (Int.toNat v6) ((v5, q9.2.1, q9.2.2.1, q9.2.2.2))) v6) fun q10 => bO (geti ((v4.set (Int.toNat v6) ((v5, q9.2.1, q9.2.2.1, q9.2.2.2))).set (Int.toNat v6) ((q10.1, IntKind.wrap .i64 (v5 + 1), q10.2.2.1, q10.2.2.2))) v6) fun q11 => bO (geti (((v4.set (Int.toNat v6) ((v5, q9.2.1, q9.2.2.1, q9.2.2.2))).set (Int.toNat v6) ((q10.1, IntKind.wrap .i64 (v5 + 1), q10.2.2.1, q10.2.2.2))).set (Int.toNat v6) ((q11.1, q11.2.1, IntKind.wrap .i64 ((IntKind.wrap .i64 (v5 + 1)) + 1), q11.2.2.2))) v6) fun q12 => (l_markGateS_l1 n1) ((((v4.set (Int.toNat v6) ((v5, q9.2.1, q9.2.2.1, q9.2.2.2))).set (Int.toNat v6) ((q10.1, IntKind.wrap .i64 (v5 + 1), q10.2.2.1, q10.2.2.2))).set (Int.toNat v6) ((q11.1, q11.2.1, IntKind.wrap .i64 ((IntKind.wrap .i64 (v5 + 1)) + 1), q11.2.2.2))).set (Int.toNat v6) ((q12.1, q12.2.1, q12.2.2.1, IntKind.wrap .i64 ((IntKind.wrap .i64 ((IntKind.wrap .i64 (v5 + 1)) + 1)) + 1)))) (IntKind.wrap .i64 ((IntKind.wrap .i64 ((IntKind.wrap .i64 ((IntKind.wrap .i64 (v5 + 1)) + 1)) + 1)) + 1)) (IntKind.wrap .i64 (v6 + 1))) (l_markGateS_j1 v4 v5)
def l_markGateS (a1 : LQ) (a2 : Int) : Option (Int × LQ) :=
  l_markGateS_l1 FU a1 a2 0
theorem l_markGateS_ok {a1 : LQ} {a2 : Int} {r : Int × LQ} (h : l_markGateS a1 a2 = some r) :
    Spec Try.prog 26 [.own 0 a1.length, .int .i64 a2] [.row 86 4 (encL EIIII a1)] (.int .i64 r.1) [.row 86 4 (encL EIIII r.2)] := by
 unfold l_markGateS at h; refine SO Try.func26 rfl Try.ntmps26 fun C hN hρ => ?_; simp only [st0, tmps0, Nat.zero_add, Nat.reduceAdd]; refine AN hN ?_; refine AW_cutK (fun S => ∃ (v7 : LQ) (v8 : Int), S = ⟨mkT [(1, .int .i64 v8)], mkR [(0, .row 86 4 (encL EIIII v7))], 64⟩ ∧ l_markGateS_j1 v7 v8 = some r) ?_ ?_
 ·refine AN hN ?_; refine AW_block ?_; refine AW_loopF (fun n S => ∃ (v4 : LQ) (v5 v6 : Int), S = ⟨mkT [(0, .own 0 v4.length), (1, .int .i64 v5), (5, .int .i64 v6)], mkR [(0, .row 86 4 (encL EIIII v4))], 64⟩ ∧ l_markGateS_l1 n v4 v5 v6 = some r) FU ?_ ?_ ?_
  ·exact AC ⟨_, _, _, rfl, h⟩ [(0, some 0)] [] hρ
  ·rintro S ⟨_, _, _, _, h⟩; rw [l_markGateS_l1] at h; cases h
  ·rintro n1 S ⟨v4, v5, v6, rfl, h⟩; rw [l_markGateS_l1] at h; refine AW_seq ?_; refine AN hN ?_; refine AB h (fun hc3 h => ?_) fun hc3 h => ?_
   ·refine AW_skip (AK ?_); refine AW_seq ?_; refine AW_block ?_; refine AR hN fun K hK => ?_; obtain ⟨q9, h25, h⟩ := bO_inv h; obtain ⟨⟨h26a, h26b⟩, h26c⟩ := geti_E EIIIIl h25; (try simp only [EV, seval] at h26c); have h27 := set_E EIIIIl ((v5, q9.2.1, q9.2.2.1, q9.2.2.2)) 0 [.int .i64 v5] h25 (Nat.le_of_ble_eq_true rfl) rfl; obtain ⟨h27a, h27b⟩ := h27; (try simp only [EV, seval] at h27a); (try simp only [EV, seval] at h27b); simp only [EV, seval, h26a, h26b, h26c, h27a, h27b]; refine hK _ _ _ ?_; clear hK K; refine AN hN ?_; refine AR hN fun K hK => ?_; obtain ⟨q10, h28, h⟩ := bO_inv h; obtain ⟨⟨h29a, h29b⟩, h29c⟩ := geti_E EIIIIl h28; (try simp only [EV, seval] at h29c); (try simp only [EV, seval] at h29b); have h30 := set_E EIIIIl ((q10.1, IntKind.wrap .i64 (v5 + 1), q10.2.2.1, q10.2.2.2)) 1 [.int .i64 (IntKind.wrap .i64 (v5 + 1))] h28 (Nat.le_of_ble_eq_true rfl) rfl; obtain ⟨h30a, h30b⟩ := h30; (try simp only [EV, seval] at h30a); (try simp only [EV, seval] at h30b); simp only [EV, seval, h29a, h29b, h29c, h30a, h30b]; refine hK _ _ _ ?_; clear hK K; refine AN hN ?_; refine AR hN fun K hK => ?_; obtain ⟨q11, h31, h⟩ := bO_inv h; obtain ⟨⟨h32a, h32b⟩, h32c⟩ := geti_E EIIIIl h31; (try simp only [EV, seval] at h32c); (try simp only [EV, seval] at h32b); have h33 := set_E EIIIIl ((q11.1, q11.2.1, IntKind.wrap .i64 ((IntKind.wrap .i64 (v5 + 1)) + 1), q11.2.2.2)) 2 [.int .i64 (IntKind.wrap .i64 ((IntKind.wrap .i64 (v5 + 1)) + 1))] h31 (Nat.le_of_ble_eq_true rfl) rfl; obtain ⟨h33a, h33b⟩ := h33; (try simp only [EV, seval] at h33a); (try simp only [EV, seval] at h33b); simp only [EV, seval, h32a, h32b, h32c, h33a, h33b]; refine hK _ _ _ ?_; clear hK K; refine AN hN ?_; refine AR hN fun K hK => ?_; obtain ⟨q12, h34, h⟩ := bO_inv h; obtain ⟨⟨h35a, h35b⟩, h35c⟩ := geti_E EIIIIl h34; (try simp only [EV, seval] at h35c); (try simp only [EV, seval] at h35b); have h36 := set_E EIIIIl ((q12.1, q12.2.1, q12.2.2.1, IntKind.wrap .i64 ((IntKind.wrap .i64 ((IntKind.wrap .i64 (v5 + 1)) + 1)) + 1))) 3 [.int .i64 (IntKind.wrap .i64 ((IntKind.wrap .i64 ((IntKind.wrap .i64 (v5 + 1)) + 1)) + 1))] h34 (Nat.le_of_ble_eq_true rfl) rfl; obtain ⟨h36a, h36b⟩ := h36; (try simp only [EV, seval] at h36a); (try simp only [EV, seval] at h36b); simp only [EV, seval, h35a, h35b, h35c, h36a, h36b]; refine hK _ _ _ ?_; clear hK K; refine AS hN fun K hK => ?_; simp only [EV, seval]; refine hK _ _ _ (show AW _ _ _ _ _ from ?_); refine AS hN fun K hK => ?_; simp only [EV, seval]; exact hK _ _ _ (AC ⟨_, _, _, rfl, h⟩ [(0, some 0)] [] hρ)
   ·exact AW_exit (AC ⟨_, _, rfl, h⟩ [(0, some 0)] [] hρ)
 ·rintro S ⟨v7, v8, rfl, h⟩; unfold l_markGateS_j1 at h; refine AN hN ?_; injection h with h; subst h; exact AX (b' := 64) [(4, .int .i64 v8)] [(0, .row 86 4 (encL EIIII v7))] [(0, some 0)] [] hρ (EQ [0])
/- laws.heldGateS -/
def l_heldGateS_j1 (v5 : Int) : Option Int :=
  some v5
def l_heldGateS_l1 (a1 : LQ) : Nat → Int → Int → Option Int
  | 0, _, _ => none
  | n1 + 1, v3, v4 =>
  br (decide (v4 < ((a1.length : Int)))) (bO (geti a1 v4) fun q3 => br (q3.1 != v3) (some (-1)) (br (q3.2.1 != (IntKind.wrap .i64 (v3 + 1))) (some (-1)) (br (q3.2.2.1 != (IntKind.wrap .i64 ((IntKind.wrap .i64 (v3 + 1)) + 1))) (some (-1)) (br (q3.2.2.2 != (IntKind.wrap .i64 ((IntKind.wrap .i64 ((IntKind.wrap .i64 (v3 + 1)) + 1)) + 1))) (some (-1)) ((l_heldGateS_l1 a1 n1) (IntKind.wrap .i64 ((IntKind.wrap .i64 ((IntKind.wrap .i64 ((IntKind.wrap .i64 (v3 + 1)) + 1)) + 1)) + 1)) (IntKind.wrap .i64 (v4 + 1))))))) (l_heldGateS_j1 v3)
def l_heldGateS (a1 : LQ) (a2 : Int) : Option Int :=
  l_heldGateS_l1 a1 FU a2 0
theorem l_heldGateS_ok {a1 : LQ} {a2 r : Int} (h : l_heldGateS a1 a2 = some r) :
    Spec Try.prog 27 [.sl (encL EIIII a1) a1.length, .int .i64 a2] [] (.int .i64 r) [] := by
 unfold l_heldGateS at h; refine SO Try.func27 rfl Try.ntmps27 fun C hN hρ => ?_; simp only [st0, tmps0, Nat.zero_add, Nat.reduceAdd]; refine AN hN ?_; refine AW_cutK (fun S => ∃ (v5 : Int), S = ⟨mkT [(1, .int .i64 v5)], mkR [], 64⟩ ∧ l_heldGateS_j1 v5 = some r) ?_ ?_
 ·refine AN hN ?_; refine AW_block ?_; refine AW_loopF (fun n S => ∃ (v3 v4 : Int), S = ⟨mkT [(0, .sl (encL EIIII a1) a1.length), (1, .int .i64 v3), (5, .int .i64 v4)], mkR [], 64⟩ ∧ l_heldGateS_l1 a1 n v3 v4 = some r) FU ?_ ?_ ?_
  ·exact AC ⟨_, _, rfl, h⟩ [] [] hρ
  ·rintro S ⟨_, _, _, h⟩; rw [l_heldGateS_l1] at h; cases h
  ·rintro n1 S ⟨v3, v4, rfl, h⟩; rw [l_heldGateS_l1] at h; refine AW_seq ?_; refine AN hN ?_; refine AB h (fun hc11 h => ?_) fun hc11 h => ?_
   ·refine AW_skip (AK ?_); refine AW_seq ?_; refine AW_block ?_; refine AW_seq ?_; refine AR hN fun K hK => ?_; obtain ⟨q3, h5, h⟩ := bO_inv h; obtain ⟨⟨h6a, h6b⟩, h6c⟩ := geti_E EIIIIl h5; (try simp only [EV, seval] at h6c); simp only [EV, seval, h6a, h6b, h6c]; refine hK _ _ _ ?_; clear hK K; refine AW_condK (a := .bool (q3.1 != v3)) (by simp only [EV, seval, h6a, h6b, h6c]) (brK h (fun hc12 h => ?_) (fun hc12 h => ?_))
    ·refine AN hN ?_; injection h with h; subst h; exact AX (b' := 64) [(4, .int .i64 (-1))] [] [] [] hρ (EQ [])
    ·refine AW_skip (AK ?_); refine AN hN ?_; refine AW_seq ?_; refine AR hN fun K hK => ?_; simp only [EV, seval, h6a, h6b, h6c]; refine hK _ _ _ ?_; clear hK K; refine AW_condK (a := .bool (q3.2.1 != (IntKind.wrap .i64 (v3 + 1)))) (by simp only [EV, seval, h6a, h6b, h6c]) (brK h (fun hc13 h => ?_) (fun hc13 h => ?_))
     ·refine AN hN ?_; injection h with h; subst h; exact AX (b' := 64) [(4, .int .i64 (-1))] [] [] [] hρ (EQ [])
     ·refine AW_skip (AK ?_); refine AN hN ?_; refine AW_seq ?_; refine AR hN fun K hK => ?_; simp only [EV, seval, h6a, h6b, h6c]; refine hK _ _ _ ?_; clear hK K; refine AW_condK (a := .bool (q3.2.2.1 != (IntKind.wrap .i64 ((IntKind.wrap .i64 (v3 + 1)) + 1)))) (by simp only [EV, seval, h6a, h6b, h6c]) (brK h (fun hc14 h => ?_) (fun hc14 h => ?_))
      ·refine AN hN ?_; injection h with h; subst h; exact AX (b' := 64) [(4, .int .i64 (-1))] [] [] [] hρ (EQ [])
      ·refine AW_skip (AK ?_); refine AN hN ?_; refine AW_seq ?_; refine AR hN fun K hK => ?_; simp only [EV, seval, h6a, h6b, h6c]; refine hK _ _ _ ?_; clear hK K; refine AW_condK (a := .bool (q3.2.2.2 != (IntKind.wrap .i64 ((IntKind.wrap .i64 ((IntKind.wrap .i64 (v3 + 1)) + 1)) + 1)))) (by simp only [EV, seval, h6a, h6b, h6c]) (brK h (fun hc15 h => ?_) (fun hc15 h => ?_))
       ·refine AN hN ?_; injection h with h; subst h; exact AX (b' := 64) [(4, .int .i64 (-1))] [] [] [] hρ (EQ [])
       ·refine AW_skip (AK ?_); refine AS hN fun K hK => ?_; simp only [EV, seval]; refine hK _ _ _ (show AW _ _ _ _ _ from ?_); refine AS hN fun K hK => ?_; simp only [EV, seval]; exact hK _ _ _ (AC ⟨_, _, rfl, h⟩ [] [] hρ)
   ·exact AW_exit (AC ⟨_, rfl, h⟩ [] [] hρ)
 ·rintro S ⟨v5, rfl, h⟩; unfold l_heldGateS_j1 at h; refine AN hN ?_; injection h with h; subst h; exact AX (b' := 64) [(4, .int .i64 v5)] [] [] [] hρ (EQ [])
end Go.Proofs.Ytoleoojcodlciaa
