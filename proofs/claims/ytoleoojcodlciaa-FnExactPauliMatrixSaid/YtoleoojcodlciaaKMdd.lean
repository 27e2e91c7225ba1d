/- Models of functions, and that the functions do what the models say; printed by a program. -/
import Derived.Test.YtoleoojcodlciaaK1
namespace Go.Proofs.Ytoleoojcodlciaa
open Go.RowKit
set_option maxRecDepth 100000
set_option linter.unusedVariables false
set_option linter.unusedSimpArgs false
set_option linter.defProp false
set_option maxHeartbeats 4000000
/- laws.eqZOmega -/
def l_eqZOmega (a1 a2 a3 a4 a5 a6 a7 a8 : Int) : Option Bool :=
  br (a1 != a5) (some false) (br (a2 != a6) (some false) (br (a3 != a7) (some false) (br (a4 != a8) (some false) (some true))))
theorem l_eqZOmega_ok {a1 a2 a3 a4 a5 a6 a7 a8 : Int} {r : Bool} (h : l_eqZOmega a1 a2 a3 a4 a5 a6 a7 a8 = some r) :
    Spec Try.prog 114 [.agg [.int .i64 a1, .int .i64 a2, .int .i64 a3, .int .i64 a4], .agg [.int .i64 a5, .int .i64 a6, .int .i64 a7, .int .i64 a8]] [] (.bool r) [] := by
 unfold l_eqZOmega at h; refine SO Try.func114 rfl Try.ntmps114 fun C hN hρ => ?_; simp only [st0, tmps0, Nat.zero_add, Nat.reduceAdd]; refine AN hN ?_; refine AW_seq ?_; refine AN hN ?_; refine AB h (fun hc1 h => ?_) fun hc1 h => ?_
 ·refine AN hN ?_; injection h with h; subst h; exact AX (b' := 64) [(4, .bool false)] [] [] [] hρ (EQ [])
 ·refine AW_skip (AK ?_); refine AW_seq ?_; refine AN hN ?_; refine AB h (fun hc2 h => ?_) fun hc2 h => ?_
  ·refine AN hN ?_; injection h with h; subst h; exact AX (b' := 64) [(4, .bool false)] [] [] [] hρ (EQ [])
  ·refine AW_skip (AK ?_); refine AW_seq ?_; refine AN hN ?_; refine AB h (fun hc3 h => ?_) fun hc3 h => ?_
   ·refine AN hN ?_; injection h with h; subst h; exact AX (b' := 64) [(4, .bool false)] [] [] [] hρ (EQ [])
   ·refine AW_skip (AK ?_); refine AW_seq ?_; refine AN hN ?_; refine AB h (fun hc4 h => ?_) fun hc4 h => ?_
    ·refine AN hN ?_; injection h with h; subst h; exact AX (b' := 64) [(4, .bool false)] [] [] [] hρ (EQ [])
    ·refine AW_skip (AK ?_); refine AN hN ?_; injection h with h; subst h; exact AX (b' := 64) [(4, .bool true)] [] [] [] hρ (EQ [])
/- laws.eqDOmega -/
def l_eqDOmega (a1 a2 a3 a4 a5 a6 a7 a8 a9 a10 : Int) : Option Bool :=
  bO (l_eqZOmega a1 a2 a3 a4 a6 a7 a8 a9) fun x1 => br (!x1) (some false) (br (a5 != a10) (some false) (some true))
theorem l_eqDOmega_ok {a1 a2 a3 a4 a5 a6 a7 a8 a9 a10 : Int} {r : Bool} (h : l_eqDOmega a1 a2 a3 a4 a5 a6 a7 a8 a9 a10 = some r) :
    Spec Try.prog 85 [.agg [.int .i64 a1, .int .i64 a2, .int .i64 a3, .int .i64 a4, .int .i64 a5], .agg [.int .i64 a6, .int .i64 a7, .int .i64 a8, .int .i64 a9, .int .i64 a10]] [] (.bool r) [] := by
 unfold l_eqDOmega at h; refine SO Try.func85 rfl Try.ntmps85 fun C hN hρ => ?_; simp only [st0, tmps0, Nat.zero_add, Nat.reduceAdd]; refine AN hN ?_; refine AW_seq ?_; obtain ⟨x1, h1, h⟩ := bO_inv h; refine AP hN (l_eqZOmega_ok h1) ?_; refine AB h (fun hc1 h => ?_) fun hc1 h => ?_
 ·refine AN hN ?_; injection h with h; subst h; exact AX (b' := 64) [(4, .bool false)] [] [] [] hρ (EQ [])
 ·refine AW_skip (AK ?_); refine AW_seq ?_; refine AN hN ?_; refine AB h (fun hc2 h => ?_) fun hc2 h => ?_
  ·refine AN hN ?_; injection h with h; subst h; exact AX (b' := 64) [(4, .bool false)] [] [] [] hρ (EQ [])
  ·refine AW_skip (AK ?_); refine AN hN ?_; injection h with h; subst h; exact AX (b' := 64) [(4, .bool true)] [] [] [] hρ (EQ [])
/- laws.eqDOmegaS -/
def l_eqDOmegaS_j1 : Option Bool :=
  some true
def l_eqDOmegaS_l1 (a1 : LF) (a2 : LF) : Nat → Int → Option Bool
  | 0, _ => none
  | n1 + 1, v2 =>
  br (decide (v2 < ((a1.length : Int)))) (bO (geti a1 v2) fun q5 => bO (geti a2 v2) fun q6 => bO (l_eqDOmega q5.1 q5.2.1 q5.2.2.1 q5.2.2.2.1 q5.2.2.2.2 q6.1 q6.2.1 q6.2.2.1 q6.2.2.2.1 q6.2.2.2.2) fun x3 => br (!x3) (some false) ((l_eqDOmegaS_l1 a1 a2 n1) (IntKind.wrap .i64 (v2 + 1)))) (l_eqDOmegaS_j1)
def l_eqDOmegaS (a1 : LF) (a2 : LF) : Option Bool :=
  br (((a1.length : Int)) != ((a2.length : Int))) (some false) (l_eqDOmegaS_l1 a1 a2 FU 0)
theorem l_eqDOmegaS_ok {a1 : LF} {a2 : LF} {r : Bool} (h : l_eqDOmegaS a1 a2 = some r) :
    Spec Try.prog 46 [.sl (encL EIIIII a1) a1.length, .sl (encL EIIIII a2) a2.length] [] (.bool r) [] := by
 unfold l_eqDOmegaS at h; refine SO Try.func46 rfl Try.ntmps46 fun C hN hρ => ?_; simp only [st0, tmps0, Nat.zero_add, Nat.reduceAdd]; refine AN hN ?_; refine AW_seq ?_; refine AN hN ?_; refine AB h (fun hc1 h => ?_) fun hc1 h => ?_
 ·refine AN hN ?_; injection h with h; subst h; exact AX (b' := 64) [(4, .bool false)] [] [] [] hρ (EQ [])
 ·refine AW_skip (AK ?_); refine AW_cutK (fun S => S = ⟨mkT [], mkR [], 64⟩ ∧ l_eqDOmegaS_j1 = some r) ?_ ?_
  ·refine AN hN ?_; refine AW_block ?_; refine AW_loopF (fun n S => ∃ (v2 : Int), S = ⟨mkT [(0, .sl (encL EIIIII a1) a1.length), (1, .sl (encL EIIIII a2) a2.length), (5, .int .i64 v2)], mkR [], 64⟩ ∧ l_eqDOmegaS_l1 a1 a2 n v2 = some r) FU ?_ ?_ ?_
   ·exact AC ⟨_, rfl, h⟩ [] [] hρ
   ·rintro S ⟨_, _, h⟩; rw [l_eqDOmegaS_l1] at h; cases h
   ·rintro n1 S ⟨v2, rfl, h⟩; rw [l_eqDOmegaS_l1] at h; refine AW_seq ?_; refine AN hN ?_; refine AB h (fun hc6 h => ?_) fun hc6 h => ?_
    ·refine AW_skip (AK ?_); refine AW_seq ?_; refine AW_block ?_; refine AR hN fun K hK => ?_; obtain ⟨q5, h11, h⟩ := bO_inv h; obtain ⟨⟨h12a, h12b⟩, h12c⟩ := geti_E EIIIIIl h11; (try simp only [EV, seval] at h12c); obtain ⟨q6, h13, h⟩ := bO_inv h; obtain ⟨⟨h14a, h14b⟩, h14c⟩ := geti_E EIIIIIl h13; (try simp only [EV, seval] at h14c); obtain ⟨x3, h15, h⟩ := bO_inv h; simp only [EV, seval, h12a, h12b, h12c, h14a, h14b, h14c]; refine rC_p (l_eqDOmega_ok h15) (by simp only [AL, EV, seval, h12a, h12b, h12c, h14a, h14b, h14c]) (le_d rfl) (no_j rfl) ?_; simp only [EV, seval, h12a, h12b, h12c, h14a, h14b, h14c]; refine hK _ _ _ ?_; clear hK K; refine AW_condK (a := .bool (!x3)) (by simp only [EV, seval, h12a, h12b, h12c, h14a, h14b, h14c]) (brK h (fun hc7 h => ?_) (fun hc7 h => ?_))
     ·refine AN hN ?_; injection h with h; subst h; exact AX (b' := 64) [(4, .bool false)] [] [] [] hρ (EQ [])
     ·refine AW_skip (AK ?_); refine AS hN fun K hK => ?_; simp only [EV, seval]; exact hK _ _ _ (AC ⟨_, rfl, h⟩ [] [] hρ)
    ·exact AW_exit (AC ⟨rfl, h⟩ [] [] hρ)
  ·rintro S ⟨rfl, h⟩; unfold l_eqDOmegaS_j1 at h; refine AN hN ?_; injection h with h; subst h; exact AX (b' := 64) [(4, .bool true)] [] [] [] hρ (EQ [])
/- laws.markDOmegaS -/
def l_markDOmegaS_j1 (v7 : LF) (v8 : Int) : Option (Int × LF) :=
  some (v8, v7)
def l_markDOmegaS_l1 : Nat → (LF) → Int → Int → Option (Int × LF)
  | 0, _, _, _ => none
  | n1 + 1, v4, v5, v6 =>
  br (decide (v6 < ((v4.length : Int)))) (bO (geti v4 v6) fun q11 => bO (geti (v4.set (Int.toNat v6) ((v5, q11.2.1, q11.2.2.1, q11.2.2.2.1, q11.2.2.2.2))) v6) fun q12 => bO (geti ((v4.set (Int.toNat v6) ((v5, q11.2.1, q11.2.2.1, q11.2.2.2.1, q11.2.2.2.2))).set (Int.toNat v6) ((q12.1, IntKind.wrap .i64 (v5 + 1), q12.2.2.1, q12.2.2.2.1, q12.2.2.2.2))) v6) fun q13 => bO (geti (((v4.set (Int.toNat v6) ((v5, q11.2.1, q11.2.2.1, q11.2.2.2.1, q11.2.2.2.2))).set (Int.toNat v6) ((q12.1, IntKind.wrap .i64 (v5 + 1), q12.2.2.1, q12.2.2.2.1, q12.2.2.2.2))).set (Int.toNat v6) ((q13.1, q13.2.1, IntKind.wrap .i64 ((IntKind.wrap .i64 (v5 + 1)) + 1), q13.2.2.2.1, q13.2.2.2.2))) v6) fun q14 => bO (geti ((((v4.set (Int.toNat v6) ((v5, q11.2.1, q11.2.2.1, q11.2.2.2.1, q11.2.2.2.2))).set (Int.toNat v6) ((q12.1, IntKind.wrap .i64 (v5 + 1), q12.2.2.1, q12.2.2.2.1, q12.2.2.2.2))).set (Int.toNat v6) ((q13.1, q13.2.1, IntKind.wrap .i64 ((IntKind.wrap .i64 (v5 + 1)) + 1), q13.2.2.2.1, q13.2.2.2.2))).set (Int.toNat v6) ((q14.1, q14.2.1, q14.2.2.1, IntKind.wrap .i64 ((IntKind.wrap .i64 ((IntKind.wrap .i64 (v5 + 1)) + 1)) + 1), q14.2.2.2.2))) v6) fun q15 => (l_markDOmegaS_l1 n1) (((((v4.set (Int.toNat v6) ((v5, q11.2.1, q11.2.2.1, q11.2.2.2.1, q11.2.2.2.2))).set (Int.toNat v6) ((q12.1, IntKind.wrap .i64 (v5 + 1), q12.2.2.1, q12.2.2.2.1, q12.2.2.2.2))).set (Int.toNat v6) ((q13.1, q13.2.1, IntKind.wrap .i64 ((IntKind.wrap .i64 (v5 + 1)) + 1), q13.2.2.2.1, q13.2.2.2.2))).set (Int.toNat v6) ((q14.1, q14.2.1, q14.2.2.1, IntKind.wrap .i64 ((IntKind.wrap .i64 ((IntKind.wrap .i64 (v5 + 1)) + 1)) + 1), q14.2.2.2.2))).set (Int.toNat v6) ((q15.1, q15.2.1, q15.2.2.1, q15.2.2.2.1, IntKind.wrap .i64 ((IntKind.wrap .i64 ((IntKind.wrap .i64 ((IntKind.wrap .i64 (v5 + 1)) + 1)) + 1)) + 1)))) (IntKind.wrap .i64 ((IntKind.wrap .i64 ((IntKind.wrap .i64 ((IntKind.wrap .i64 ((IntKind.wrap .i64 (v5 + 1)) + 1)) + 1)) + 1)) + 1)) (IntKind.wrap .i64 (v6 + 1))) (l_markDOmegaS_j1 v4 v5)
def l_markDOmegaS (a1 : LF) (a2 : Int) : Option (Int × LF) :=
  l_markDOmegaS_l1 FU a1 a2 0
theorem l_markDOmegaS_ok {a1 : LF} {a2 : Int} {r : Int × LF} (h : l_markDOmegaS a1 a2 = some r) :
    Spec Try.prog 47 [.own 0 a1.length, .int .i64 a2] [.row 73 5 (encL EIIIII a1)] (.int .i64 r.1) [.row 73 5 (encL EIIIII r.2)] := by
 unfold l_markDOmegaS at h; refine SO Try.func47 rfl Try.ntmps47 fun C hN hρ => ?_; simp only [st0, tmps0, Nat.zero_add, Nat.reduceAdd]; refine AN hN ?_; refine AW_cutK (fun S => ∃ (v7 : LF) (v8 : Int), S = ⟨mkT [(1, .int .i64 v8)], mkR [(0, .row 73 5 (encL EIIIII v7))], 64⟩ ∧ l_markDOmegaS_j1 v7 v8 = some r) ?_ ?_
 ·refine AN hN ?_; refine AW_block ?_; refine AW_loopF (fun n S => ∃ (v4 : LF) (v5 v6 : Int), S = ⟨mkT [(0, .own 0 v4.length), (1, .int .i64 v5), (5, .int .i64 v6)], mkR [(0, .row 73 5 (encL EIIIII v4))], 64⟩ ∧ l_markDOmegaS_l1 n v4 v5 v6 = some r) FU ?_ ?_ ?_
  ·exact AC ⟨_, _, _, rfl, h⟩ [(0, some 0)] [] hρ
  ·rintro S ⟨_, _, _, _, h⟩; rw [l_markDOmegaS_l1] at h; cases h
  ·rintro n1 S ⟨v4, v5, v6, rfl, h⟩; rw [l_markDOmegaS_l1] at h; refine AW_seq ?_; refine AN hN ?_; refine AB h (fun hc3 h => ?_) fun hc3 h => ?_
   ·refine AW_skip (AK ?_); refine AW_seq ?_; refine AW_block ?_; refine AR hN fun K hK => ?_; obtain ⟨q11, h31, h⟩ := bO_inv h; obtain ⟨⟨h32a, h32b⟩, h32c⟩ := geti_E EIIIIIl h31; (try simp only [EV, seval] at h32c); have h33 := set_E EIIIIIl ((v5, q11.2.1, q11.2.2.1, q11.2.2.2.1, q11.2.2.2.2)) 0 [.int .i64 v5] h31 (Nat.le_of_ble_eq_true rfl) rfl; obtain ⟨h33a, h33b⟩ := h33; (try simp only [EV, seval] at h33a); (try simp only [EV, seval] at h33b); simp only [EV, seval, h32a, h32b, h32c, h33a, h33b]; refine hK _ _ _ ?_; clear hK K; refine AN hN ?_; refine AR hN fun K hK => ?_; obtain ⟨q12, h34, h⟩ := bO_inv h; obtain ⟨⟨h35a, h35b⟩, h35c⟩ := geti_E EIIIIIl h34; (try simp only [EV, seval] at h35c); (try simp only [EV, seval] at h35b); have h36 := set_E EIIIIIl ((q12.1, IntKind.wrap .i64 (v5 + 1), q12.2.2.1, q12.2.2.2.1, q12.2.2.2.2)) 1 [.int .i64 (IntKind.wrap .i64 (v5 + 1))] h34 (Nat.le_of_ble_eq_true rfl) rfl; obtain ⟨h36a, h36b⟩ := h36; (try simp only [EV, seval] at h36a); (try simp only [EV, seval] at h36b); simp only [EV, seval, h35a, h35b, h35c, h36a, h36b]; refine hK _ _ _ ?_; clear hK K; refine AN hN ?_; refine AR hN fun K hK => ?_; obtain ⟨q13, h37, h⟩ := bO_inv h; obtain ⟨⟨h38a, h38b⟩, h38c⟩ := geti_E EIIIIIl h37; (try simp only [EV, seval] at h38c); (try simp only [EV, seval] at h38b); have h39 := set_E EIIIIIl ((q13.1, q13.2.1, IntKind.wrap .i64 ((IntKind.wrap .i64 (v5 + 1)) + 1), q13.2.2.2.1, q13.2.2.2.2)) 2 [.int .i64 (IntKind.wrap .i64 ((IntKind.wrap .i64 (v5 + 1)) + 1))] h37 (Nat.le_of_ble_eq_true rfl) rfl; obtain ⟨h39a, h39b⟩ := h39; (try simp only [EV, seval] at h39a); (try simp only [EV, seval] at h39b); simp only [EV, seval, h38a, h38b, h38c, h39a, h39b]; refine hK _ _ _ ?_; clear hK K; refine AN hN ?_; refine AR hN fun K hK => ?_; obtain ⟨q14, h40, h⟩ := bO_inv h; obtain ⟨⟨h41a, h41b⟩, h41c⟩ := geti_E EIIIIIl h40; (try simp only [EV, seval] at h41c); (try simp only [EV, seval] at h41b); have h42 := set_E EIIIIIl ((q14.1, q14.2.1, q14.2.2.1, IntKind.wrap .i64 ((IntKind.wrap .i64 ((IntKind.wrap .i64 (v5 + 1)) + 1)) + 1), q14.2.2.2.2)) 3 [.int .i64 (IntKind.wrap .i64 ((IntKind.wrap .i64 ((IntKind.wrap .i64 (v5 + 1)) + 1)) + 1))] h40 (Nat.le_of_ble_eq_true rfl) rfl; obtain ⟨h42a, h42b⟩ := h42; (try simp only [EV, seval] at h42a); (try simp only [EV, seval] at h42b); simp only [EV, seval, h41a, h41b, h41c, h42a, h42b]; refine hK _ _ _ ?_; clear hK K; refine AN hN ?_; refine AR hN fun K hK => ?_; obtain ⟨q15, h43, h⟩ := bO_inv h; obtain ⟨⟨h44a, h44b⟩, h44c⟩ := geti_E EIIIIIl h43; (try simp only [EV, seval] at h44c); (try simp only [EV, seval] at h44b); have h45 := set_E EIIIIIl ((q15.1, q15.2.1, q15.2.2.1, q15.2.2.2.1, IntKind.wrap .i64 ((IntKind.wrap .i64 ((IntKind.wrap .i64 ((IntKind.wrap .i64 (v5 + 1)) + 1)) + 1)) + 1))) 4 [.int .i64 (IntKind.wrap .i64 ((IntKind.wrap .i64 ((IntKind.wrap .i64 ((IntKind.wrap .i64 (v5 + 1)) + 1)) + 1)) + 1))] h43 (Nat.le_of_ble_eq_true rfl) rfl; obtain ⟨h45a, h45b⟩ := h45; (try simp only [EV, seval] at h45a); (try simp only [EV, seval] at h45b); simp only [EV, seval, h44a, h44b, h44c, h45a, h45b]; refine hK _ _ _ ?_; clear hK K; refine AS hN fun K hK => ?_; simp only [EV, seval]; refine hK _ _ _ (show AW _ _ _ _ _ from ?_); refine AS hN fun K hK => ?_; simp only [EV, seval]; exact hK _ _ _ (AC ⟨_, _, _, rfl, h⟩ [(0, some 0)] [] hρ)
   ·exact AW_exit (AC ⟨_, _, rfl, h⟩ [(0, some 0)] [] hρ)
 ·rintro S ⟨v7, v8, rfl, h⟩; unfold l_markDOmegaS_j1 at h; refine AN hN ?_; injection h with h; subst h; exact AX (b' := 64) [(4, .int .i64 v8)] [(0, .row 73 5 (encL EIIIII v7))] [(0, some 0)] [] hρ (EQ [0])
/- laws.heldDOmegaS -/
def l_heldDOmegaS_j1 (v5 : Int) : Option Int :=
  some v5
def l_heldDOmegaS_l1 (a1 : LF) : Nat → Int → Int → Option Int
  | 0, _, _ => none
  | n1 + 1, v3, v4 =>
  br (decide (v4 < ((a1.length : Int)))) (bO (geti a1 v4) fun q3 => br (q3.1 != v3) (some (-1)) (br (q3.2.1 != (IntKind.wrap .i64 (v3 + 1))) (some (-1)) (br (q3.2.2.1 != (IntKind.wrap .i64 ((IntKind.wrap .i64 (v3 + 1)) + 1))) (some (-1)) (br (q3.2.2.2.1 != (IntKind.wrap .i64 ((IntKind.wrap .i64 ((IntKind.wrap .i64 (v3 + 1)) + 1)) + 1))) (some (-1)) (br (q3.2.2.2.2 != (IntKind.wrap .i64 ((IntKind.wrap .i64 ((IntKind.wrap .i64 ((IntKind.wrap .i64 (v3 + 1)) + 1)) + 1)) + 1))) (some (-1)) ((l_heldDOmegaS_l1 a1 n1) (IntKind.wrap .i64 ((IntKind.wrap .i64 ((IntKind.wrap .i64 ((IntKind.wrap .i64 ((IntKind.wrap .i64 (v3 + 1)) + 1)) + 1)) + 1)) + 1)) (IntKind.wrap .i64 (v4 + 1)))))))) (l_heldDOmegaS_j1 v3)
def l_heldDOmegaS (a1 : LF) (a2 : Int) : Option Int :=
  l_heldDOmegaS_l1 a1 FU a2 0
theorem l_heldDOmegaS_ok {a1 : LF} {a2 r : Int} (h : l_heldDOmegaS a1 a2 = some r) :
    Spec Try.prog 48 [.sl (encL EIIIII a1) a1.length, .int .i64 a2] [] (.int .i64 r) [] := by
 unfold l_heldDOmegaS at h; refine SO Try.func48 rfl Try.ntmps48 fun C hN hρ => ?_; simp only [st0, tmps0, Nat.zero_add, Nat.reduceAdd]; refine AN hN ?_; refine AW_cutK (fun S => ∃ (v5 : Int), S = ⟨mkT [(1, .int .i64 v5)], mkR [], 64⟩ ∧ l_heldDOmegaS_j1 v5 = some r) ?_ ?_
 ·refine AN hN ?_; refine AW_block ?_; refine AW_loopF (fun n S => ∃ (v3 v4 : Int), S = ⟨mkT [(0, .sl (encL EIIIII a1) a1.length), (1, .int .i64 v3), (5, .int .i64 v4)], mkR [], 64⟩ ∧ l_heldDOmegaS_l1 a1 n v3 v4 = some r) FU ?_ ?_ ?_
  ·exact AC ⟨_, _, rfl, h⟩ [] [] hρ
  ·rintro S ⟨_, _, _, h⟩; rw [l_heldDOmegaS_l1] at h; cases h
  ·rintro n1 S ⟨v3, v4, rfl, h⟩; rw [l_heldDOmegaS_l1] at h; refine AW_seq ?_; refine AN hN ?_; refine AB h (fun hc13 h => ?_) fun hc13 h => ?_
   ·refine AW_skip (AK ?_); refine AW_seq ?_; refine AW_block ?_; refine AW_seq ?_; refine AR hN fun K hK => ?_; obtain ⟨q3, h5, h⟩ := bO_inv h; obtain ⟨⟨h6a, h6b⟩, h6c⟩ := geti_E EIIIIIl h5; (try simp only [EV, seval] at h6c); simp only [EV, seval, h6a, h6b, h6c]; refine hK _ _ _ ?_; clear hK K; refine AW_condK (a := .bool (q3.1 != v3)) (by simp only [EV, seval, h6a, h6b, h6c]) (brK h (fun hc14 h => ?_) (fun hc14 h => ?_))
    ·refine AN hN ?_; injection h with h; subst h; exact AX (b' := 64) [(4, .int .i64 (-1))] [] [] [] hρ (EQ [])
    ·refine AW_skip (AK ?_); refine AN hN ?_; refine AW_seq ?_; refine AR hN fun K hK => ?_; simp only [EV, seval, h6a, h6b, h6c]; refine hK _ _ _ ?_; clear hK K; refine AW_condK (a := .bool (q3.2.1 != (IntKind.wrap .i64 (v3 + 1)))) (by simp only [EV, seval, h6a, h6b, h6c]) (brK h (fun hc15 h => ?_) (fun hc15 h => ?_))
     ·refine AN hN ?_; injection h with h; subst h; exact AX (b' := 64) [(4, .int .i64 (-1))] [] [] [] hρ (EQ [])
     ·refine AW_skip (AK ?_); refine AN hN ?_; refine AW_seq ?_; refine AR hN fun K hK => ?_; simp only [EV, seval, h6a, h6b, h6c]; refine hK _ _ _ ?_; clear hK K; refine AW_condK (a := .bool (q3.2.2.1 != (IntKind.wrap .i64 ((IntKind.wrap .i64 (v3 + 1)) + 1)))) (by simp only [EV, seval, h6a, h6b, h6c]) (brK h (fun hc16 h => ?_) (fun hc16 h => ?_))
      ·refine AN hN ?_; injection h with h; subst h; exact AX (b' := 64) [(4, .int .i64 (-1))] [] [] [] hρ (EQ [])
      ·refine AW_skip (AK ?_); refine AN hN ?_; refine AW_seq ?_; refine AR hN fun K hK => ?_; simp only [EV, seval, h6a, h6b, h6c]; refine hK _ _ _ ?_; clear hK K; refine AW_condK (a := .bool (q3.2.2.2.1 != (IntKind.wrap .i64 ((IntKind.wrap .i64 ((IntKind.wrap .i64 (v3 + 1)) + 1)) + 1)))) (by simp only [EV, seval, h6a, h6b, h6c]) (brK h (fun hc17 h => ?_) (fun hc17 h => ?_))
       ·refine AN hN ?_; injection h with h; subst h; exact AX (b' := 64) [(4, .int .i64 (-1))] [] [] [] hρ (EQ [])
       ·refine AW_skip (AK ?_); refine AN hN ?_; refine AW_seq ?_; refine AR hN fun K hK => ?_; simp only [EV, seval, h6a, h6b, h6c]; refine hK _ _ _ ?_; clear hK K; refine AW_condK (a := .bool (q3.2.2.2.2 != (IntKind.wrap .i64 ((IntKind.wrap .i64 ((IntKind.wrap .i64 ((IntKind.wrap .i64 (v3 + 1)) + 1)) + 1)) + 1)))) (by simp only [EV, seval, h6a, h6b, h6c]) (brK h (fun hc18 h => ?_) (fun hc18 h => ?_))
        ·refine AN hN ?_; injection h with h; subst h; exact AX (b' := 64) [(4, .int .i64 (-1))] [] [] [] hρ (EQ [])
        ·refine AW_skip (AK ?_); refine AS hN fun K hK => ?_; simp only [EV, seval]; refine hK _ _ _ (show AW _ _ _ _ _ from ?_); refine AS hN fun K hK => ?_; simp only [EV, seval]; exact hK _ _ _ (AC ⟨_, _, rfl, h⟩ [] [] hρ)
   ·exact AW_exit (AC ⟨_, rfl, h⟩ [] [] hρ)
 ·rintro S ⟨v5, rfl, h⟩; unfold l_heldDOmegaS_j1 at h; refine AN hN ?_; injection h with h; subst h; exact AX (b' := 64) [(4, .int .i64 v5)] [] [] [] hρ (EQ [])
end Go.Proofs.Ytoleoojcodlciaa
