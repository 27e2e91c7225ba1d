/- Joined texts: Md Mq. -/
import Derived.Test.YtoleoojcodlciaaK1
/- Models of functions, and that the functions do what the models say; printed by a program. -/
namespace Go.Proofs.Ytoleoojcodlciaa
open Go.RowKit
set_option maxRecDepth 100000
set_option linter.unusedVariables false
set_option linter.unusedSimpArgs false
set_option linter.defProp false
set_option maxHeartbeats 4000000
/- laws.toPauli -/
def l_toPauli (a1 a2 a3 a4 : Int) : Option (Int × Int × Int × Int) :=
  some (a1, a2, a3, a4)
theorem l_toPauli_ok {a1 a2 a3 a4 : Int} {r : Int × Int × Int × Int} (h : l_toPauli a1 a2 a3 a4 = some r) :
    Spec Try.prog 9 [.agg [.int .i64 a1, .int .i64 a2, .int .i64 a3, .int .i64 a4]] [] (.agg [.int .i64 r.1, .int .i64 r.2.1, .int .i64 r.2.2.1, .int .i64 r.2.2.2]) [] := by
 unfold l_toPauli at h; refine SO Try.func9 rfl Try.ntmps9 fun C hN hρ => ?_; simp only [st0, tmps0, Nat.zero_add, Nat.reduceAdd]; refine AN hN ?_; refine AN hN ?_; refine AN hN ?_; refine AN hN ?_; refine AN hN ?_; refine AN hN ?_; refine AN hN ?_; injection h with h; subst h; exact AX (b' := 64) [(2, .ptr 32 0)] [(32, .box 26 [.int .i64 a1, .int .i64 a2, .int .i64 a3, .int .i64 a4])] [(32, some 80)] [] hρ (EQ [])
/- laws.eqPauli -/
def l_eqPauli (a1 a2 a3 a4 a5 a6 a7 a8 : Int) : Option Bool :=
  br (a1 != a5) (some false) (br (a2 != a6) (some false) (br (a3 != a7) (some false) (br (a4 != a8) (some false) (some true))))
theorem l_eqPauli_ok {a1 a2 a3 a4 a5 a6 a7 a8 : Int} {r : Bool} (h : l_eqPauli a1 a2 a3 a4 a5 a6 a7 a8 = some r) :
    Spec Try.prog 96 [.agg [.int .i64 a1, .int .i64 a2, .int .i64 a3, .int .i64 a4], .agg [.int .i64 a5, .int .i64 a6, .int .i64 a7, .int .i64 a8]] [] (.bool r) [] := by
 unfold l_eqPauli at h; refine SO Try.func96 rfl Try.ntmps96 fun C hN hρ => ?_; simp only [st0, tmps0, Nat.zero_add, Nat.reduceAdd]; refine AN hN ?_; refine AW_seq ?_; refine AN hN ?_; refine AB h (fun hc1 h => ?_) fun hc1 h => ?_
 ·refine AN hN ?_; injection h with h; subst h; exact AX (b' := 64) [(4, .bool false)] [] [] [] hρ (EQ [])
 ·refine AW_skip (AK ?_); refine AW_seq ?_; refine AN hN ?_; refine AB h (fun hc2 h => ?_) fun hc2 h => ?_
  ·refine AN hN ?_; injection h with h; subst h; exact AX (b' := 64) [(4, .bool false)] [] [] [] hρ (EQ [])
  ·refine AW_skip (AK ?_); refine AW_seq ?_; refine AN hN ?_; refine AB h (fun hc3 h => ?_) fun hc3 h => ?_
   ·refine AN hN ?_; injection h with h; subst h; exact AX (b' := 64) [(4, .bool false)] [] [] [] hρ (EQ [])
   ·refine AW_skip (AK ?_); refine AW_seq ?_; refine AN hN ?_; refine AB h (fun hc4 h => ?_) fun hc4 h => ?_
    ·refine AN hN ?_; injection h with h; subst h; exact AX (b' := 64) [(4, .bool false)] [] [] [] hρ (EQ [])
    ·refine AW_skip (AK ?_); refine AN hN ?_; injection h with h; subst h; exact AX (b' := 64) [(4, .bool true)] [] [] [] hρ (EQ [])
/- laws.toPauliS -/
def l_toPauliS_j1 (v6 : LQ) : Option (LQ) :=
  some v6
def l_toPauliS_l1 (a1 : LQ) : Nat → Int → (LQ) → Option (LQ)
  | 0, _, _ => none
  | n1 + 1, v4, v5 =>
  br (decide (v4 < ((a1.length : Int)))) (bO (geti a1 v4) fun q5 => bO (l_toPauli q5.1 q5.2.1 q5.2.2.1 q5.2.2.2) fun x3 => bO (geti v5 v4) fun q6 => (l_toPauliS_l1 a1 n1) (IntKind.wrap .i64 (v4 + 1)) (v5.set (Int.toNat v4) ((x3.1, x3.2.1, x3.2.2.1, x3.2.2.2)))) (l_toPauliS_j1 v5)
def l_toPauliS (a1 : LQ) : Option (LQ) :=
  gd (decide (0 ≤ (a1.length : Int) ∧ (a1.length : Int) ≤ 1048576)) (l_toPauliS_l1 a1 FU 0 (List.replicate (Int.toNat ((a1.length : Int))) ((0, 0, 0, 0) : Int × Int × Int × Int)))
theorem l_toPauliS_ok {a1 : LQ} {r : LQ} (h : l_toPauliS a1 = some r) :
    Spec Try.prog 58 [.sl (encL EIIII a1) a1.length] [] (.own 0 r.length) [.row 26 4 (encL EIIII r)] := by
 unfold l_toPauliS at h; refine SO Try.func58 rfl Try.ntmps58 fun C hN hρ => ?_; simp only [st0, tmps0, Nat.zero_add, Nat.reduceAdd]; refine AN hN ?_; refine AR hN fun K hK => ?_; obtain ⟨h1, h⟩ := gd_inv h; replace h1 := of_decide_eq_true h1; have h2 := zrow_enc (e := EIIII) ((0, 0, 0, 0)) (Int.toNat ((a1.length : Int))); simp only [EN] at h2; have h3 : (List.replicate (Int.toNat ((a1.length : Int))) ((0, 0, 0, 0) : Int × Int × Int × Int)).length = Int.toNat ((a1.length : Int)) := List.length_replicate; simp only [EV, seval, h1, h2, h3]; refine hK _ _ _ ?_; clear hK K; refine AW_cutK (fun S => ∃ (v6 : LQ), S = ⟨mkT [(3, .own 32 v6.length)], mkR [(32, .row 26 4 (encL EIIII v6))], 64⟩ ∧ l_toPauliS_j1 v6 = some r) ?_ ?_
 ·refine AN hN ?_; refine AW_block ?_; refine AW_loopF (fun n S => ∃ (v4 : Int) (v5 : LQ), S = ⟨mkT [(0, .sl (encL EIIII a1) a1.length), (3, .own 32 v5.length), (4, .int .i64 v4)], mkR [(32, .row 26 4 (encL EIIII v5))], 64⟩ ∧ l_toPauliS_l1 a1 n v4 v5 = some r) FU ?_ ?_ ?_
  ·exact AC ⟨_, _, rfl, h⟩ [(32, some 1120)] [] hρ
  ·rintro S ⟨_, _, _, h⟩; rw [l_toPauliS_l1] at h; cases h
  ·rintro n1 S ⟨v4, v5, rfl, h⟩; rw [l_toPauliS_l1] at h; refine AW_seq ?_; refine AN hN ?_; refine AB h (fun hc3 h => ?_) fun hc3 h => ?_
   ·refine AW_skip (AK ?_); refine AW_seq ?_; refine AW_block ?_; refine AS hN fun K hK => ?_; obtain ⟨q5, h16, h⟩ := bO_inv h; obtain ⟨⟨h17a, h17b⟩, h17c⟩ := geti_E EIIIIl h16; (try simp only [EV, seval] at h17c); obtain ⟨x3, h18, h⟩ := bO_inv h; simp only [EV, seval, h17a, h17b, h17c]; refine rC_p (l_toPauli_ok h18) (by simp only [AL, EV, seval, h17a, h17b, h17c]) (le_d rfl) (no_j rfl) ?_; obtain ⟨q6, h19, h⟩ := bO_inv h; obtain ⟨⟨h20a, h20b⟩, h20c⟩ := geti_E EIIIIl h19; (try simp only [EV, seval] at h20c); have h21 := set_E EIIIIl ((x3.1, x3.2.1, x3.2.2.1, x3.2.2.2)) 0 [.int .i64 x3.1, .int .i64 x3.2.1, .int .i64 x3.2.2.1, .int .i64 x3.2.2.2] h19 (Nat.le_of_ble_eq_true rfl) rfl; obtain ⟨h21a, h21b⟩ := h21; (try simp only [EV, seval] at h21a); (try simp only [EV, seval] at h21b); simp only [EV, seval, h17a, h17b, h17c, h20a, h20b, h20c, h21a, h21b]; refine hK _ _ _ (show AW _ _ _ _ _ from ?_); refine AS hN fun K hK => ?_; simp only [EV, seval]; exact hK _ _ _ (AC ⟨_, _, rfl, h⟩ [(32, some 32)] [] hρ)
   ·exact AW_exit (AC ⟨_, rfl, h⟩ [(32, some 32)] [] hρ)
 ·rintro S ⟨v6, rfl, h⟩; unfold l_toPauliS_j1 at h; refine AN hN ?_; injection h with h; subst h; exact AX (b' := 64) [(2, .own 32 v6.length)] [(32, .row 26 4 (encL EIIII v6))] [(32, some 32)] [] hρ (EQ [32])
/- laws.szPauliS -/
def l_szPauliS (a1 : LQ) (a2 : Int) : Option Int :=
  br (decide ((IntKind.wrap .i64 (a2 - ((a1.length : Int)))) < 0)) (some (-1)) (some (IntKind.wrap .i64 (a2 - ((a1.length : Int)))))
theorem l_szPauliS_ok {a1 : LQ} {a2 r : Int} (h : l_szPauliS a1 a2 = some r) :
    Spec Try.prog 55 [.sl (encL EIIII a1) a1.length, .int .i64 a2] [] (.int .i64 r) [] := by
 unfold l_szPauliS at h; refine SO Try.func55 rfl Try.ntmps55 fun C hN hρ => ?_; simp only [st0, tmps0, Nat.zero_add, Nat.reduceAdd]; refine AN hN ?_; refine AN hN ?_; refine AW_seq ?_; refine AN hN ?_; refine AB h (fun hc1 h => ?_) fun hc1 h => ?_
 ·refine AN hN ?_; injection h with h; subst h; exact AX (b' := 64) [(4, .int .i64 (-1))] [] [] [] hρ (EQ [])
 ·refine AW_skip (AK ?_); refine AN hN ?_; injection h with h; subst h; exact AX (b' := 64) [(4, .int .i64 (IntKind.wrap .i64 (a2 - ((a1.length : Int)))))] [] [] [] hρ (EQ [])
/- laws.eqPauliS -/
def l_eqPauliS_j1 : Option Bool :=
  some true
def l_eqPauliS_l1 (a1 : LQ) (a2 : LQ) : Nat → Int → Option Bool
  | 0, _ => none
  | n1 + 1, v2 =>
  br (decide (v2 < ((a1.length : Int)))) (bO (geti a1 v2) fun q5 => bO (geti a2 v2) fun q6 => bO (l_eqPauli q5.1 q5.2.1 q5.2.2.1 q5.2.2.2 q6.1 q6.2.1 q6.2.2.1 q6.2.2.2) fun x3 => br (!x3) (some false) ((l_eqPauliS_l1 a1 a2 n1) (IntKind.wrap .i64 (v2 + 1)))) (l_eqPauliS_j1)
def l_eqPauliS (a1 : LQ) (a2 : LQ) : Option Bool :=
  br (((a1.length : Int)) != ((a2.length : Int))) (some false) (l_eqPauliS_l1 a1 a2 FU 0)
theorem l_eqPauliS_ok {a1 : LQ} {a2 : LQ} {r : Bool} (h : l_eqPauliS a1 a2 = some r) :
    Spec Try.prog 61 [.sl (encL EIIII a1) a1.length, .sl (encL EIIII a2) a2.length] [] (.bool r) [] := by
 unfold l_eqPauliS at h; refine SO Try.func61 rfl Try.ntmps61 fun C hN hρ => ?_; simp only [st0, tmps0, Nat.zero_add, Nat.reduceAdd]; refine AN hN ?_; refine AW_seq ?_; refine AN hN ?_; refine AB h (fun hc1 h => ?_) fun hc1 h => ?_
 ·refine AN hN ?_; injection h with h; subst h; exact AX (b' := 64) [(4, .bool false)] [] [] [] hρ (EQ [])
 ·refine AW_skip (AK ?_); refine AW_cutK (fun S => S = ⟨mkT [], mkR [], 64⟩ ∧ l_eqPauliS_j1 = some r) ?_ ?_
  ·refine AN hN ?_; refine AW_block ?_; refine AW_loopF (fun n S => ∃ (v2 : Int), S = ⟨mkT [(0, .sl (encL EIIII a1) a1.length), (1, .sl (encL EIIII a2) a2.length), (5, .int .i64 v2)], mkR [], 64⟩ ∧ l_eqPauliS_l1 a1 a2 n v2 = some r) FU ?_ ?_ ?_
   ·exact AC ⟨_, rfl, h⟩ [] [] hρ
   ·rintro S ⟨_, _, h⟩; rw [l_eqPauliS_l1] at h; cases h
   ·rintro n1 S ⟨v2, rfl, h⟩; rw [l_eqPauliS_l1] at h; refine AW_seq ?_; refine AN hN ?_; refine AB h (fun hc6 h => ?_) fun hc6 h => ?_
    ·refine AW_skip (AK ?_); refine AW_seq ?_; refine AW_block ?_; refine AR hN fun K hK => ?_; obtain ⟨q5, h11, h⟩ := bO_inv h; obtain ⟨⟨h12a, h12b⟩, h12c⟩ := geti_E EIIIIl h11; (try simp only [EV, seval] at h12c); obtain ⟨q6, h13, h⟩ := bO_inv h; obtain ⟨⟨h14a, h14b⟩, h14c⟩ := geti_E EIIIIl h13; (try simp only [EV, seval] at h14c); obtain ⟨x3, h15, h⟩ := bO_inv h; simp only [EV, seval, h12a, h12b, h12c, h14a, h14b, h14c]; refine rC_p (l_eqPauli_ok h15) (by simp only [AL, EV, seval, h12a, h12b, h12c, h14a, h14b, h14c]) (le_d rfl) (no_j rfl) ?_; simp only [EV, seval, h12a, h12b, h12c, h14a, h14b, h14c]; refine hK _ _ _ ?_; clear hK K; refine AW_condK (a := .bool (!x3)) (by simp only [EV, seval, h12a, h12b, h12c, h14a, h14b, h14c]) (brK h (fun hc7 h => ?_) (fun hc7 h => ?_))
     ·refine AN hN ?_; injection h with h; subst h; exact AX (b' := 64) [(4, .bool false)] [] [] [] hρ (EQ [])
     ·refine AW_skip (AK ?_); refine AS hN fun K hK => ?_; simp only [EV, seval]; exact hK _ _ _ (AC ⟨_, rfl, h⟩ [] [] hρ)
    ·exact AW_exit (AC ⟨rfl, h⟩ [] [] hρ)
  ·rintro S ⟨rfl, h⟩; unfold l_eqPauliS_j1 at h; refine AN hN ?_; injection h with h; subst h; exact AX (b' := 64) [(4, .bool true)] [] [] [] hρ (EQ [])
/- laws.toTableau -/
def l_toTableau (a1 : Int) (a2 : LQ) : Option (Int × LQ) :=
  bO (l_toPauliS a2) fun x1 => some (a1, x1)
theorem l_toTableau_ok {a1 : Int} {a2 : LQ} {r : Int × LQ} (h : l_toTableau a1 a2 = some r) :
    Spec Try.prog 21 [.agg [.int .i64 a1, .sl (encL EIIII a2) a2.length]] [] (.agg [.int .i64 r.1, .own 0 r.2.length]) [.row 26 4 (encL EIIII r.2)] := by
 unfold l_toTableau at h; refine SO Try.func21 rfl Try.ntmps21 fun C hN hρ => ?_; simp only [st0, tmps0, Nat.zero_add, Nat.reduceAdd]; refine AN hN ?_; refine AN hN ?_; refine AN hN ?_; refine AR hN fun K hK => ?_; obtain ⟨x1, h1, h⟩ := bO_inv h; simp only [EV, seval]; refine rC_p (l_toPauliS_ok h1) (by simp only [AL, EV, seval]) (le_d rfl) (site_1 (by simp only [EV, seval])) ?_; simp only [EV, seval]; refine hK _ _ _ ?_; clear hK K; refine AN hN ?_; injection h with h; subst h; exact AX (b' := 64) [(2, .ptr 32 0)] [(32, .box 45 [.int .i64 a1, .own 33 x1.length]), (33, .row 26 4 (encL EIIII x1))] [(32, some 80), (33, some 3168)] [] hρ (EQ [33])
/- laws.szTableau -/
def l_szTableau (a1 : Int) (a2 : LQ) (a3 : Int) : Option Int :=
  bO (l_szPauliS a2 a3) fun x1 => br (decide (x1 < 0)) (some (-1)) (some x1)
theorem l_szTableau_ok {a1 : Int} {a2 : LQ} {a3 r : Int} (h : l_szTableau a1 a2 a3 = some r) :
    Spec Try.prog 19 [.agg [.int .i64 a1, .sl (encL EIIII a2) a2.length], .int .i64 a3] [] (.int .i64 r) [] := by
 unfold l_szTableau at h; refine SO Try.func19 rfl Try.ntmps19 fun C hN hρ => ?_; simp only [st0, tmps0, Nat.zero_add, Nat.reduceAdd]; refine AN hN ?_; obtain ⟨x1, h1, h⟩ := bO_inv h; refine AP hN (l_szPauliS_ok h1) ?_; refine AW_seq ?_; refine AN hN ?_; refine AB h (fun hc1 h => ?_) fun hc1 h => ?_
 ·refine AN hN ?_; injection h with h; subst h; exact AX (b' := 64) [(4, .int .i64 (-1))] [] [] [] hρ (EQ [])
 ·refine AW_skip (AK ?_); refine AN hN ?_; injection h with h; subst h; exact AX (b' := 64) [(4, .int .i64 x1)] [] [] [] hρ (EQ [])
/- laws.eqTableau -/
def l_eqTableau (a1 : Int) (a2 : LQ) (a3 : Int) (a4 : LQ) : Option Bool :=
  br (a1 != a3) (some false) (bO (l_eqPauliS a2 a4) fun x1 => br (!x1) (some false) (some true))
theorem l_eqTableau_ok {a1 : Int} {a2 : LQ} {a3 : Int} {a4 : LQ} {r : Bool} (h : l_eqTableau a1 a2 a3 a4 = some r) :
    Spec Try.prog 24 [.agg [.int .i64 a1, .sl (encL EIIII a2) a2.length], .agg [.int .i64 a3, .sl (encL EIIII a4) a4.length]] [] (.bool r) [] := by
 unfold l_eqTableau at h; refine SO Try.func24 rfl Try.ntmps24 fun C hN hρ => ?_; simp only [st0, tmps0, Nat.zero_add, Nat.reduceAdd]; refine AN hN ?_; refine AW_seq ?_; refine AN hN ?_; refine AB h (fun hc1 h => ?_) fun hc1 h => ?_
 ·refine AN hN ?_; injection h with h; subst h; exact AX (b' := 64) [(4, .bool false)] [] [] [] hρ (EQ [])
 ·refine AW_skip (AK ?_); refine AW_seq ?_; obtain ⟨x1, h1, h⟩ := bO_inv h; refine AP hN (l_eqPauliS_ok h1) ?_; refine AB h (fun hc2 h => ?_) fun hc2 h => ?_
  ·refine AN hN ?_; injection h with h; subst h; exact AX (b' := 64) [(4, .bool false)] [] [] [] hρ (EQ [])
  ·refine AW_skip (AK ?_); refine AN hN ?_; injection h with h; subst h; exact AX (b' := 64) [(4, .bool true)] [] [] [] hρ (EQ [])
/- laws.eqGate -/
def l_eqGate (a1 a2 a3 a4 a5 a6 a7 a8 : Int) : Option Bool :=
  br (a1 != a5) (some false) (br (a2 != a6) (some false) (br (a3 != a7) (some false) (br (a4 != a8) (some false) (some true))))
theorem l_eqGate_ok {a1 a2 a3 a4 a5 a6 a7 a8 : Int} {r : Bool} (h : l_eqGate a1 a2 a3 a4 a5 a6 a7 a8 = some r) :
    Spec Try.prog 60 [.agg [.int .i64 a1, .int .i64 a2, .int .i64 a3, .int .i64 a4], .agg [.int .i64 a5, .int .i64 a6, .int .i64 a7, .int .i64 a8]] [] (.bool r) [] := by
 unfold l_eqGate at h; refine SO Try.func60 rfl Try.ntmps60 fun C hN hρ => ?_; simp only [st0, tmps0, Nat.zero_add, Nat.reduceAdd]; refine AN hN ?_; refine AW_seq ?_; refine AN hN ?_; refine AB h (fun hc1 h => ?_) fun hc1 h => ?_
 ·refine AN hN ?_; injection h with h; subst h; exact AX (b' := 64) [(4, .bool false)] [] [] [] hρ (EQ [])
 ·refine AW_skip (AK ?_); refine AW_seq ?_; refine AN hN ?_; refine AB h (fun hc2 h => ?_) fun hc2 h => ?_
  ·refine AN hN ?_; injection h with h; subst h; exact AX (b' := 64) [(4, .bool false)] [] [] [] hρ (EQ [])
  ·refine AW_skip (AK ?_); refine AW_seq ?_; refine AN hN ?_; refine AB h (fun hc3 h => ?_) fun hc3 h => ?_
   ·refine AN hN ?_; injection h with h; subst h; exact AX (b' := 64) [(4, .bool false)] [] [] [] hρ (EQ [])
   ·refine AW_skip (AK ?_); refine AW_seq ?_; refine AN hN ?_; refine AB h (fun hc4 h => ?_) fun hc4 h => ?_
    ·refine AN hN ?_; injection h with h; subst h; exact AX (b' := 64) [(4, .bool false)] [] [] [] hρ (EQ [])
    ·refine AW_skip (AK ?_); refine AN hN ?_; injection h with h; subst h; exact AX (b' := 64) [(4, .bool true)] [] [] [] hρ (EQ [])
/- laws.eqGateS -/
def l_eqGateS_j1 : Option Bool :=
  some true
def l_eqGateS_l1 (a1 : LQ) (a2 : LQ) : Nat → Int → Option Bool
  | 0, _ => none
  | n1 + 1, v2 =>
  br (decide (v2 < ((a1.length : Int)))) (bO (geti a1 v2) fun q5 => bO (geti a2 v2) fun q6 => bO (l_eqGate q5.1 q5.2.1 q5.2.2.1 q5.2.2.2 q6.1 q6.2.1 q6.2.2.1 q6.2.2.2) fun x3 => br (!x3) (some false) ((l_eqGateS_l1 a1 a2 n1) (IntKind.wrap .i64 (v2 + 1)))) (l_eqGateS_j1)
def l_eqGateS (a1 : LQ) (a2 : LQ) : Option Bool :=
  br (((a1.length : Int)) != ((a2.length : Int))) (some false) (l_eqGateS_l1 a1 a2 FU 0)
theorem l_eqGateS_ok {a1 : LQ} {a2 : LQ} {r : Bool} (h : l_eqGateS a1 a2 = some r) :
    Spec Try.prog 23 [.sl (encL EIIII a1) a1.length, .sl (encL EIIII a2) a2.length] [] (.bool r) [] := by
 unfold l_eqGateS at h; refine SO Try.func23 rfl Try.ntmps23 fun C hN hρ => ?_; simp only [st0, tmps0, Nat.zero_add, Nat.reduceAdd]; refine AN hN ?_; refine AW_seq ?_; refine AN hN ?_; refine AB h (fun hc1 h => ?_) fun hc1 h => ?_
 ·refine AN hN ?_; injection h with h; subst h; exact AX (b' := 64) [(4, .bool false)] [] [] [] hρ (EQ [])
 ·refine AW_skip (AK ?_); refine AW_cutK (fun S => S = ⟨mkT [], mkR [], 64⟩ ∧ l_eqGateS_j1 = some r) ?_ ?_
  ·refine AN hN ?_; refine AW_block ?_; refine AW_loopF (fun n S => ∃ (v2 : Int), S = ⟨mkT [(0, .sl (encL EIIII a1) a1.length), (1, .sl (encL EIIII a2) a2.length), (5, .int .i64 v2)], mkR [], 64⟩ ∧ l_eqGateS_l1 a1 a2 n v2 = some r) FU ?_ ?_ ?_
   ·exact AC ⟨_, rfl, h⟩ [] [] hρ
   ·rintro S ⟨_, _, h⟩; rw [l_eqGateS_l1] at h; cases h
   ·rintro n1 S ⟨v2, rfl, h⟩; rw [l_eqGateS_l1] at h; refine AW_seq ?_; refine AN hN ?_; refine AB h (fun hc6 h => ?_) fun hc6 h => ?_
    ·refine AW_skip (AK ?_); refine AW_seq ?_; refine AW_block ?_; refine AR hN fun K hK => ?_; obtain ⟨q5, h11, h⟩ := bO_inv h; obtain ⟨⟨h12a, h12b⟩, h12c⟩ := geti_E EIIIIl h11; (try simp only [EV, seval] at h12c); obtain ⟨q6, h13, h⟩ := bO_inv h; obtain ⟨⟨h14a, h14b⟩, h14c⟩ := geti_E EIIIIl h13; (try simp only [EV, seval] at h14c); obtain ⟨x3, h15, h⟩ := bO_inv h; simp only [EV, seval, h12a, h12b, h12c, h14a, h14b, h14c]; refine rC_p (l_eqGate_ok h15) (by simp only [AL, EV, seval, h12a, h12b, h12c, h14a, h14b, h14c]) (le_d rfl) (no_j rfl) ?_; simp only [EV, seval, h12a, h12b, h12c, h14a, h14b, h14c]; refine hK _ _ _ ?_; clear hK K; refine AW_condK (a := .bool (!x3)) (by simp only [EV, seval, h12a, h12b, h12c, h14a, h14b, h14c]) (brK h (fun hc7 h => ?_) (fun hc7 h => ?_))
     ·refine AN hN ?_; injection h with h; subst h; exact AX (b' := 64) [(4, .bool false)] [] [] [] hρ (EQ [])
     ·refine AW_skip (AK ?_); refine AS hN fun K hK => ?_; simp only [EV, seval]; exact hK _ _ _ (AC ⟨_, rfl, h⟩ [] [] hρ)
    ·exact AW_exit (AC ⟨rfl, h⟩ [] [] hρ)
  ·rintro S ⟨rfl, h⟩; unfold l_eqGateS_j1 at h; refine AN hN ?_; injection h with h; subst h; exact AX (b' := 64) [(4, .bool true)] [] [] [] hρ (EQ [])
end Go.Proofs.Ytoleoojcodlciaa
/- Models of functions, and that the functions do what the models say; printed by a program. -/
namespace Go.Proofs.Ytoleoojcodlciaa
open Go.RowKit
set_option maxRecDepth 100000
set_option linter.unusedVariables false
set_option linter.unusedSimpArgs false
set_option linter.defProp false
set_option maxHeartbeats 4000000
/- laws.markPauliS -/
def l_markPauliS_j1 (v7 : LQ) (v8 : Int) : Option (Int × LQ) :=
  some (v8, v7)
def l_markPauliS_l1 : Nat → (LQ) → Int → Int → Option (Int × LQ)
  | 0, _, _, _ => none
  | n1 + 1, v4, v5, v6 =>
  br (decide (v6 < ((v4.length : Int)))) (bO (geti v4 v6) fun q9 => bO (geti (v4.set (Int.toNat v6) ((v5, q9.2.1, q9.2.2.1, q9.2.2.2))) v6) fun q10 => bO (geti ((v4.set (Int.toNat v6) ((v5, q9.2.1, q9.2.2.1, q9.2.2.2))).set (Int.toNat v6) ((q10.1, IntKind.wrap .i64 (v5 + 1), q10.2.2.1, q10.2.2.2))) v6) fun q11 => bO (geti (((v4.set (Int.toNat v6) ((v5, q9.2.1, q9.2.2.1, q9.2.2.2))).set (Int.toNat v6) ((q10.1, IntKind.wrap .i64 (v5 + 1), q10.2.2.1, q10.2.2.2))).set (Int.toNat v6) ((q11.1, q11.2.1, IntKind.wrap .i64 ((IntKind.wrap .i64 (v5 + 1)) + 1), q11.2.2.2))) v6) fun q12 => (l_markPauliS_l1 n1) ((((v4.set (Int.toNat v6) ((v5, q9.2.1, q9.2.2.1, q9.2.2.2))).set (Int.toNat v6) ((q10.1, IntKind.wrap .i64 (v5 + 1), q10.2.2.1, q10.2.2.2))).set (Int.toNat v6) ((q11.1, q11.2.1, IntKind.wrap .i64 ((IntKind.wrap .i64 (v5 + 1)) + 1), q11.2.2.2))).set (Int.toNat v6) ((q12.1, q12.2.1, q12.2.2.1, IntKind.wrap .i64 ((IntKind.wrap .i64 ((IntKind.wrap .i64 (v5 + 1)) + 1)) + 1)))) (IntKind.wrap .i64 ((IntKind.wrap .i64 ((IntKind.wrap .i64 ((IntKind.wrap .i64 (v5 + 1)) + 1)) + 1)) + 1)) (IntKind.wrap .i64 (v6 + 1))) (l_markPauliS_j1 v4 v5)
def l_markPauliS (a1 : LQ) (a2 : Int) : Option (Int × LQ) :=
  l_markPauliS_l1 FU a1 a2 0
theorem l_markPauliS_ok {a1 : LQ} {a2 : Int} {r : Int × LQ} (h : l_markPauliS a1 a2 = some r) :
    Spec Try.prog 62 [.own 0 a1.length, .int .i64 a2] [.row 26 4 (encL EIIII a1)] (.int .i64 r.1) [.row 26 4 (encL EIIII r.2)] := by
 unfold l_markPauliS at h; refine SO Try.func62 rfl Try.ntmps62 fun C hN hρ => ?_; simp only [st0, tmps0, Nat.zero_add, Nat.reduceAdd]; refine AN hN ?_; refine AW_cutK (fun S => ∃ (v7 : LQ) (v8 : Int), S = ⟨mkT [(1, .int .i64 v8)], mkR [(0, .row 26 4 (encL EIIII v7))], 64⟩ ∧ l_markPauliS_j1 v7 v8 = some r) ?_ ?_
 ·refine AN hN ?_; refine AW_block ?_; refine AW_loopF (fun n S => ∃ (v4 : LQ) (v5 v6 : Int), S = ⟨mkT [(0, .own 0 v4.length), (1, .int .i64 v5), (5, .int .i64 v6)], mkR [(0, .row 26 4 (encL EIIII v4))], 64⟩ ∧ l_markPauliS_l1 n v4 v5 v6 = some r) FU ?_ ?_ ?_
  ·exact AC ⟨_, _, _, rfl, h⟩ [(0, some 0)] [] hρ
  ·rintro S ⟨_, _, _, _, h⟩; rw [l_markPauliS_l1] at h; cases h
  ·rintro n1 S ⟨v4, v5, v6, rfl, h⟩; rw [l_markPauliS_l1] at h; refine AW_seq ?_; refine AN hN ?_; refine AB h (fun hc3 h => ?_) fun hc3 h => ?_
   ·refine AW_skip (AK ?_); refine AW_seq ?_; refine AW_block ?_; refine AR hN fun K hK => ?_; obtain ⟨q9, h25, h⟩ := bO_inv h; obtain ⟨⟨h26a, h26b⟩, h26c⟩ := geti_E EIIIIl h25; (try simp only [EV, seval] at h26c); have h27 := set_E EIIIIl ((v5, q9.2.1, q9.2.2.1, q9.2.2.2)) 0 [.int .i64 v5] h25 (Nat.le_of_ble_eq_true rfl) rfl; obtain ⟨h27a, h27b⟩ := h27; (try simp only [EV, seval] at h27a); (try simp only [EV, seval] at h27b); simp only [EV, seval, h26a, h26b, h26c, h27a, h27b]; refine hK _ _ _ ?_; clear hK K; refine AN hN ?_; refine AR hN fun K hK => ?_; obtain ⟨q10, h28, h⟩ := bO_inv h; obtain ⟨⟨h29a, h29b⟩, h29c⟩ := geti_E EIIIIl h28; (try simp only [EV, seval] at h29c); (try simp only [EV, seval] at h29b); have h30 := set_E EIIIIl ((q10.1, IntKind.wrap .i64 (v5 + 1), q10.2.2.1, q10.2.2.2)) 1 [.int .i64 (IntKind.wrap .i64 (v5 + 1))] h28 (Nat.le_of_ble_eq_true rfl) rfl; obtain ⟨h30a, h30b⟩ := h30; (try simp only [EV, seval] at h30a); (try simp only [EV, seval] at h30b); simp only [EV, seval, h29a, h29b, h29c, h30a, h30b]; refine hK _ _ _ ?_; clear hK K; refine AN hN ?_; refine AR hN fun K hK => ?_; obtain ⟨q11, h31, h⟩ := bO_inv h; obtain ⟨⟨h32a, h32b⟩, h32c⟩ := geti_E EIIIIl h31; (try simp only [EV, seval] at h32c); (try simp only [EV, seval] at h32b); have h33 := set_E EIIIIl ((q11.1, q11.2.1, IntKind.wrap .i64 ((IntKind.wrap .i64 (v5 + 1)) + 1), q11.2.2.2)) 2 [.int .i64 (IntKind.wrap .i64 ((IntKind.wrap .i64 (v5 + 1)) + 1))] h31 (Nat.le_of_ble_eq_true rfl) rfl; obtain ⟨h33a, h33b⟩ := h33; (try simp only [EV, seval] at h33a); (try simp only [EV, seval] at h33b); simp only [EV, seval, h32a, h32b, h32c, h33a, h33b]; refine hK _ _ _ ?_; clear hK K; refine AN hN ?_; refine AR hN fun K hK => ?_; obtain ⟨q12, h34, h⟩ := bO_inv h; obtain ⟨⟨h35a, h35b⟩, h35c⟩ := geti_E EIIIIl h34; (try simp only [EV, seval] at h35c); (try simp only [EV, seval] at h35b); have h36 := set_E EIIIIl ((q12.1, q12.2.1, q12.2.2.1, IntKind.wrap .i64 ((IntKind.wrap .i64 ((IntKind.wrap .i64 (v5 + 1)) + 1)) + 1))) 3 [.int .i64 (IntKind.wrap .i64 ((IntKind.wrap .i64 ((IntKind.wrap .i64 (v5 + 1)) + 1)) + 1))] h34 (Nat.le_of_ble_eq_true rfl) rfl; obtain ⟨h36a, h36b⟩ := h36; (try simp only [EV, seval] at h36a); (try simp only [EV, seval] at h36b); simp only [EV, seval, h35a, h35b, h35c, h36a, h36b]; refine hK _ _ _ ?_; clear hK K; refine AS hN fun K hK => ?_; simp only [EV, seval]; refine hK _ _ _ (show AW _ _ _ _ _ from ?_); refine AS hN fun K hK => ?_; simp only [EV, seval]; exact hK _ _ _ (AC ⟨_, _, _, rfl, h⟩ [(0, some 0)] [] hρ)
   ·exact AW_exit (AC ⟨_, _, rfl, h⟩ [(0, some 0)] [] hρ)
 ·rintro S ⟨v7, v8, rfl, h⟩; unfold l_markPauliS_j1 at h; refine AN hN ?_; injection h with h; subst h; exact AX (b' := 64) [(4, .int .i64 v8)] [(0, .row 26 4 (encL EIIII v7))] [(0, some 0)] [] hρ (EQ [0])
/- laws.markTableau -/
def l_markTableau (a1 : Int) (a2 : LQ) (a3 : Int) : Option (Int × LQ) :=
  bO (l_markPauliS a2 a3) fun x1 => gd (decide (x1.2.length = a2.length)) (some (x1.1, x1.2))
theorem l_markTableau_ok {a1 : Int} {a2 : LQ} {a3 : Int} {r : Int × LQ} (h : l_markTableau a1 a2 a3 = some r) :
    Spec Try.prog 25 [.agg [.int .i64 a1, .own 0 a2.length], .int .i64 a3] [.row 26 4 (encL EIIII a2)] (.int .i64 r.1) [.row 26 4 (encL EIIII r.2)] := by
 unfold l_markTableau at h; refine SO Try.func25 rfl Try.ntmps25 fun C hN hρ => ?_; simp only [st0, tmps0, Nat.zero_add, Nat.reduceAdd]; refine AN hN ?_; refine AR hN fun K hK => ?_; obtain ⟨x1, h1, h⟩ := bO_inv h; simp only [EV, seval]; obtain ⟨h2, h⟩ := gd_inv h; replace h2 := of_decide_eq_true h2; refine rR_p [0] (l_markPauliS_ok h1) (by simp only [AL, EV, seval, h2]) (by simp only [AL, EV, seval, h2]) (by kernel_rfl) (by simp only [EV, solidO, List.mem_cons, List.not_mem_nil, or_false, forall_eq_or_imp, forall_eq, seval]) (le_d rfl) (le_d rfl) (no_j rfl) ?_; simp only [EV, seval, h2]; refine hK _ _ _ ?_; clear hK K; refine AR hN fun K hK => ?_; simp only [EV, seval, h2]; refine hK _ _ _ ?_; clear hK K; injection h with h; subst h; refine AW_le (Le_can (lt := [(4, .int .i64 x1.1)]) (lr := [(0, .row 26 4 (encL EIIII x1.2))]) (b' := 64) [(0, some 0)] [] hρ (by kernel_rfl) ?_ ?_) (AW_ret (end_q [0] (.inr rfl) (by kernel_rfl) (by kernel_rfl) ?_))
 ·simp only [AL, EV, seval, h2]
 ·simp only [AL, EV, seval, h2]
 ·simp only [EV, Try.results25, seval]
/- laws.markGateS -/
def l_markGateS_j1 (v7 : LQ) (v8 : Int) : Option (Int × LQ) :=
  some (v8, v7)
def l_markGateS_l1 : Nat → (LQ) → Int → Int → Option (Int × LQ)
  | 0, _, _, _ => none
  | n1 + 1, v4, v5, v6 =>
  br (decide (v6 < ((v4.length : Int)))) (bO (geti v4 v6) fun q9 => bO (geti (v4.set (Int.toNat v6) ((v5, q9.2.1, q9.2.2.1, q9.2.2.2))) v6) fun q10 => bO (geti ((v4.set (Int.toNat v6) ((v5, q9.2.1, q9.2.2.1, q9.2.2.2))).set (Int.toNat v6) ((q10.1, IntKind.wrap .i64 (v5 + 1), q10.2.2.1, q10.2.2.2))) v6) fun q11 => bO (geti (((v4.set (Int.toNat v6) ((v5, q9.2.1, q9.2.2.1, q9.2.2.2))).set (Int.toNat v6) ((q10.1, IntKind.wrap .i64 (v5 + 1), q10.2.2.1, q10.2.2.2))).set (Int.toNat v6) ((q11.1, q11.2.1, IntKind.wrap .i64 ((IntKind.wrap .i64 (v5 + 1)) + 1), q11.2.2.2))) v6) fun q12 => (l_markGateS_l1 n1) ((((v4.set (Int.toNat v6) ((v5, q9.2.1, q9.2.2.1, q9.2.2.2))).set (Int.toNat v6) ((q10.1, IntKind.wrap .i64 (v5 + 1), q10.2.2.1, q10.2.2.2))).set (Int.toNat v6) ((q11.1, q11.2.1, IntKind.wrap .i64 ((IntKind.wrap .i64 (v5 + 1)) + 1), q11.2.2.2))).set (Int.toNat v6) ((q12.1, q12.2.1, q12.2.2.1, IntKind.wrap .i64 ((IntKind.wrap .i64 ((IntKind.wrap .i64 (v5 + 1)) + 1)) + 1)))) (IntKind.wrap .i64 ((IntKind.wrap .i64 ((IntKind.wrap .i64 ((IntKind.wrap .i64 (v5 + 1)) + 1)) + 1)) + 1)) (IntKind.wrap .i64 (v6 + 1))) (l_markGateS_j1 v4 v5)
def l_markGateS (a1 : LQ) (a2 : Int) : Option (Int × LQ) :=
  l_markGateS_l1 FU a1 a2 0
theorem l_markGateS_ok {a1 : LQ} {a2 : Int} {r : Int × LQ} (h : l_markGateS a1 a2 = some r) :
    Spec Try.prog 26 [.own 0 a1.length, .int .i64 a2] [.row 86 4 (encL EIIII a1)] (.int .i64 r.1) [.row 86 4 (encL EIIII r.2)] := by
 unfold l_markGateS at h; refine SO Try.func26 rfl Try.ntmps26 fun C hN hρ => ?_; simp only [st0, tmps0, Nat.zero_add, Nat.reduceAdd]; refine AN hN ?_; refine AW_cutK (fun S => ∃ (v7 : LQ) (v8 : Int), S = ⟨mkT [(1, .int .i64 v8)], mkR [(0, .row 86 4 (encL EIIII v7))], 64⟩ ∧ l_markGateS_j1 v7 v8 = some r) ?_ ?_
 ·refine AN hN ?_; refine AW_block ?_; refine AW_loopF (fun n S => ∃ (v4 : LQ) (v5 v6 : Int), S = ⟨mkT [(0, .own 0 v4.length), (1, .int .i64 v5), (5, .int .i64 v6)], mkR [(0, .row 86 4 (encL EIIII v4))], 64⟩ ∧ l_markGateS_l1 n v4 v5 v6 = some r) FU ?_ ?_ ?_
  ·exact AC ⟨_, _, _, rfl, h⟩ [(0, some 0)] [] hρ
  ·rintro S ⟨_, _, _, _, h⟩; rw [l_markGateS_l1] at h; cases h
  ·rintro n1 S ⟨v4, v5, v6, rfl, h⟩; rw [l_markGateS_l1] at h; refine AW_seq ?_; refine AN hN ?_; refine AB h (fun hc3 h => ?_) fun hc3 h => ?_
   ·refine AW_skip (AK ?_); refine AW_seq ?_; refine AW_block ?_; refine AR hN fun K hK => ?_; obtain ⟨q9, h25, h⟩ := bO_inv h; obtain ⟨⟨h26a, h26b⟩, h26c⟩ := geti_E EIIIIl h25; (try simp only [EV, seval] at h26c); have h27 := set_E EIIIIl ((v5, q9.2.1, q9.2.2.1, q9.2.2.2)) 0 [.int .i64 v5] h25 (Nat.le_of_ble_eq_true rfl) rfl; obtain ⟨h27a, h27b⟩ := h27; (try simp only [EV, seval] at h27a); (try simp only [EV, seval] at h27b); simp only [EV, seval, h26a, h26b, h26c, h27a, h27b]; refine hK _ _ _ ?_; clear hK K; refine AN hN ?_; refine AR hN fun K hK => ?_; obtain ⟨q10, h28, h⟩ := bO_inv h; obtain ⟨⟨h29a, h29b⟩, h29c⟩ := geti_E EIIIIl h28; (try simp only [EV, seval] at h29c); (try simp only [EV, seval] at h29b); have h30 := set_E EIIIIl ((q10.1, IntKind.wrap .i64 (v5 + 1), q10.2.2.1, q10.2.2.2)) 1 [.int .i64 (IntKind.wrap .i64 (v5 + 1))] h28 (Nat.le_of_ble_eq_true rfl) rfl; obtain ⟨h30a, h30b⟩ := h30; (try simp only [EV, seval] at h30a); (try simp only [EV, seval] at h30b); simp only [EV, seval, h29a, h29b, h29c, h30a, h30b]; refine hK _ _ _ ?_; clear hK K; refine AN hN ?_; refine AR hN fun K hK => ?_; obtain ⟨q11, h31, h⟩ := bO_inv h; obtain ⟨⟨h32a, h32b⟩, h32c⟩ := geti_E EIIIIl h31; (try simp only [EV, seval] at h32c); (try simp only [EV, seval] at h32b); have h33 := set_E EIIIIl ((q11.1, q11.2.1, IntKind.wrap .i64 ((IntKind.wrap .i64 (v5 + 1)) + 1), q11.2.2.2)) 2 [.int .i64 (IntKind.wrap .i64 ((IntKind.wrap .i64 (v5 + 1)) + 1))] h31 (Nat.le_of_ble_eq_true rfl) rfl; obtain ⟨h33a, h33b⟩ := h33; (try simp only [EV, seval] at h33a); (try simp only [EV, seval] at h33b); simp only [EV, seval, h32a, h32b, h32c, h33a, h33b]; refine hK _ _ _ ?_; clear hK K; refine AN hN ?_; refine AR hN fun K hK => ?_; obtain ⟨q12, h34, h⟩ := bO_inv h; obtain ⟨⟨h35a, h35b⟩, h35c⟩ := geti_E EIIIIl h34; (try simp only [EV, seval] at h35c); (try simp only [EV, seval] at h35b); have h36 := set_E EIIIIl ((q12.1, q12.2.1, q12.2.2.1, IntKind.wrap .i64 ((IntKind.wrap .i64 ((IntKind.wrap .i64 (v5 + 1)) + 1)) + 1))) 3 [.int .i64 (IntKind.wrap .i64 ((IntKind.wrap .i64 ((IntKind.wrap .i64 (v5 + 1)) + 1)) + 1))] h34 (Nat.le_of_ble_eq_true rfl) rfl; obtain ⟨h36a, h36b⟩ := h36; (try simp only [EV, seval] at h36a); (try simp only [EV, seval] at h36b); simp only [EV, seval, h35a, h35b, h35c, h36a, h36b]; refine hK _ _ _ ?_; clear hK K; refine AS hN fun K hK => ?_; simp only [EV, seval]; refine hK _ _ _ (show AW _ _ _ _ _ from ?_); refine AS hN fun K hK => ?_; simp only [EV, seval]; exact hK _ _ _ (AC ⟨_, _, _, rfl, h⟩ [(0, some 0)] [] hρ)
   ·exact AW_exit (AC ⟨_, _, rfl, h⟩ [(0, some 0)] [] hρ)
 ·rintro S ⟨v7, v8, rfl, h⟩; unfold l_markGateS_j1 at h; refine AN hN ?_; injection h with h; subst h; exact AX (b' := 64) [(4, .int .i64 v8)] [(0, .row 86 4 (encL EIIII v7))] [(0, some 0)] [] hρ (EQ [0])
/- laws.heldGateS -/
def l_heldGateS_j1 (v5 : Int) : Option Int :=
  some v5
def l_heldGateS_l1 (a1 : LQ) : Nat → Int → Int → Option Int
  | 0, _, _ => none
  | n1 + 1, v3, v4 =>
  br (decide (v4 < ((a1.length : Int)))) (bO (geti a1 v4) fun q3 => br (q3.1 != v3) (some (-1)) (br (q3.2.1 != (IntKind.wrap .i64 (v3 + 1))) (some (-1)) (br (q3.2.2.1 != (IntKind.wrap .i64 ((IntKind.wrap .i64 (v3 + 1)) + 1))) (some (-1)) (br (q3.2.2.2 != (IntKind.wrap .i64 ((IntKind.wrap .i64 ((IntKind.wrap .i64 (v3 + 1)) + 1)) + 1))) (some (-1)) ((l_heldGateS_l1 a1 n1) (IntKind.wrap .i64 ((IntKind.wrap .i64 ((IntKind.wrap .i64 ((IntKind.wrap .i64 (v3 + 1)) + 1)) + 1)) + 1)) (IntKind.wrap .i64 (v4 + 1))))))) (l_heldGateS_j1 v3)
def l_heldGateS (a1 : LQ) (a2 : Int) : Option Int :=
  l_heldGateS_l1 a1 FU a2 0
theorem l_heldGateS_ok {a1 : LQ} {a2 r : Int} (h : l_heldGateS a1 a2 = some r) :
    Spec Try.prog 27 [.sl (encL EIIII a1) a1.length, .int .i64 a2] [] (.int .i64 r) [] := by
 unfold l_heldGateS at h; refine SO Try.func27 rfl Try.ntmps27 fun C hN hρ => ?_; simp only [st0, tmps0, Nat.zero_add, Nat.reduceAdd]; refine AN hN ?_; refine AW_cutK (fun S => ∃ (v5 : Int), S = ⟨mkT [(1, .int .i64 v5)], mkR [], 64⟩ ∧ l_heldGateS_j1 v5 = some r) ?_ ?_
 ·refine AN hN ?_; refine AW_block ?_; refine AW_loopF (fun n S => ∃ (v3 v4 : Int), S = ⟨mkT [(0, .sl (encL EIIII a1) a1.length), (1, .int .i64 v3), (5, .int .i64 v4)], mkR [], 64⟩ ∧ l_heldGateS_l1 a1 n v3 v4 = some r) FU ?_ ?_ ?_
  ·exact AC ⟨_, _, rfl, h⟩ [] [] hρ
  ·rintro S ⟨_, _, _, h⟩; rw [l_heldGateS_l1] at h; cases h
  ·rintro n1 S ⟨v3, v4, rfl, h⟩; rw [l_heldGateS_l1] at h; refine AW_seq ?_; refine AN hN ?_; refine AB h (fun hc11 h => ?_) fun hc11 h => ?_
   ·refine AW_skip (AK ?_); refine AW_seq ?_; refine AW_block ?_; refine AW_seq ?_; refine AR hN fun K hK => ?_; obtain ⟨q3, h5, h⟩ := bO_inv h; obtain ⟨⟨h6a, h6b⟩, h6c⟩ := geti_E EIIIIl h5; (try simp only [EV, seval] at h6c); simp only [EV, seval, h6a, h6b, h6c]; refine hK _ _ _ ?_; clear hK K; refine AW_condK (a := .bool (q3.1 != v3)) (by simp only [EV, seval, h6a, h6b, h6c]) (brK h (fun hc12 h => ?_) (fun hc12 h => ?_))
    ·refine AN hN ?_; injection h with h; subst h; exact AX (b' := 64) [(4, .int .i64 (-1))] [] [] [] hρ (EQ [])
    ·refine AW_skip (AK ?_); refine AN hN ?_; refine AW_seq ?_; refine AR hN fun K hK => ?_; simp only [EV, seval, h6a, h6b, h6c]; refine hK _ _ _ ?_; clear hK K; refine AW_condK (a := .bool (q3.2.1 != (IntKind.wrap .i64 (v3 + 1)))) (by simp only [EV, seval, h6a, h6b, h6c]) (brK h (fun hc13 h => ?_) (fun hc13 h => ?_))
     ·refine AN hN ?_; injection h with h; subst h; exact AX (b' := 64) [(4, .int .i64 (-1))] [] [] [] hρ (EQ [])
     ·refine AW_skip (AK ?_); refine AN hN ?_; refine AW_seq ?_; refine AR hN fun K hK => ?_; simp only [EV, seval, h6a, h6b, h6c]; refine hK _ _ _ ?_; clear hK K; refine AW_condK (a := .bool (q3.2.2.1 != (IntKind.wrap .i64 ((IntKind.wrap .i64 (v3 + 1)) + 1)))) (by simp only [EV, seval, h6a, h6b, h6c]) (brK h (fun hc14 h => ?_) (fun hc14 h => ?_))
      ·refine AN hN ?_; injection h with h; subst h; exact AX (b' := 64) [(4, .int .i64 (-1))] [] [] [] hρ (EQ [])
      ·refine AW_skip (AK ?_); refine AN hN ?_; refine AW_seq ?_; refine AR hN fun K hK => ?_; simp only [EV, seval, h6a, h6b, h6c]; refine hK _ _ _ ?_; clear hK K; refine AW_condK (a := .bool (q3.2.2.2 != (IntKind.wrap .i64 ((IntKind.wrap .i64 ((IntKind.wrap .i64 (v3 + 1)) + 1)) + 1)))) (by simp only [EV, seval, h6a, h6b, h6c]) (brK h (fun hc15 h => ?_) (fun hc15 h => ?_))
       ·refine AN hN ?_; injection h with h; subst h; exact AX (b' := 64) [(4, .int .i64 (-1))] [] [] [] hρ (EQ [])
       ·refine AW_skip (AK ?_); refine AS hN fun K hK => ?_; simp only [EV, seval]; refine hK _ _ _ (show AW _ _ _ _ _ from ?_); refine AS hN fun K hK => ?_; simp only [EV, seval]; exact hK _ _ _ (AC ⟨_, _, rfl, h⟩ [] [] hρ)
   ·exact AW_exit (AC ⟨_, rfl, h⟩ [] [] hρ)
 ·rintro S ⟨v5, rfl, h⟩; unfold l_heldGateS_j1 at h; refine AN hN ?_; injection h with h; subst h; exact AX (b' := 64) [(4, .int .i64 v5)] [] [] [] hρ (EQ [])
end Go.Proofs.Ytoleoojcodlciaa
