/- Models of functions, and that the functions do what the models say; printed by a program. -/
import Derived.Test.YtfjopjalhllplaaGreatK1
import Derived.Test.YtfjopjalhllplaaGreatK2
namespace Go.Proofs.YtfjopjalhllplaaGreat
open Go.RowKit
set_option maxRecDepth 100000
set_option linter.unusedVariables false
set_option linter.unusedSimpArgs false
set_option linter.defProp false
set_option maxHeartbeats 4000000
/- spec.Arity -/
def s_Arity (a1 : Int) : Option Int :=
  bO (s_l1In a1 1 8) fun x1 => br x1 (some 1) (bO (s_l1In a1 9 11) fun x2 => br x2 (some 2) (br (a1 == 12) (some 3) (some 0)))
theorem s_Arity_ok {a1 r : Int} (h : s_Arity a1 = some r) :
    Spec Tryz.prog 41 [.int .i64 a1] [] (.int .i64 r) [] := by
 unfold s_Arity at h; refine SO Tryz.func41 rfl Tryz.ntmps41 fun C hN hρ => ?_; simp only [st0, tmps0, Nat.zero_add, Nat.reduceAdd]; refine AN hN ?_; refine AW_seq ?_; refine AW_block ?_; obtain ⟨x1, h1, h⟩ := bO_inv h; refine AP hN (s_l1In_ok h1) ?_; refine AB h (fun hc1 h => ?_) fun hc1 h => ?_
 ·refine AN hN ?_; injection h with h; subst h; exact AX (b' := 64) [(2, .int .i64 1)] [] [] [] hρ (EQ [])
 ·obtain ⟨x2, h2, h⟩ := bO_inv h; refine AP hN (s_l1In_ok h2) ?_; refine AB h (fun hc2 h => ?_) fun hc2 h => ?_
  ·refine AN hN ?_; injection h with h; subst h; exact AX (b' := 64) [(2, .int .i64 2)] [] [] [] hρ (EQ [])
  ·refine AN hN ?_; refine AB h (fun hc3 h => ?_) fun hc3 h => ?_
   ·refine AN hN ?_; injection h with h; subst h; exact AX (b' := 64) [(2, .int .i64 3)] [] [] [] hρ (EQ [])
   ·refine AW_skip (AK ?_); refine AN hN ?_; injection h with h; subst h; exact AX (b' := 64) [(2, .int .i64 0)] [] [] [] hρ (EQ [])
/- spec.GateQubits -/
def s_GateQubits (a1 a2 a3 a4 : Int) : Option (List Int) :=
  bO (s_Arity a1) fun x1 => bO (slc ([a2, a3, a4]) 0 x1) fun l1 => gd (decide (([] : List Int).length + l1.length ≤ 16777216)) (some l1)
theorem s_GateQubits_ok {a1 a2 a3 a4 : Int} {r : List Int} (h : s_GateQubits a1 a2 a3 a4 = some r) :
    Spec Tryz.prog 42 [.agg [.int .i64 a1, .int .i64 a2, .int .i64 a3, .int .i64 a4]] [] (.own 0 r.length) [.row 3 1 (encL EI r)] := by
 unfold s_GateQubits at h; refine SO Tryz.func42 rfl Tryz.ntmps42 fun C hN hρ => ?_; simp only [st0, tmps0, Nat.zero_add, Nat.reduceAdd]; refine AN hN ?_; refine AN hN ?_; refine AR hN fun K hK => ?_; obtain ⟨x1, h1, h⟩ := bO_inv h; simp only [EV, seval]; refine CP (s_Arity_ok h1) ?_; obtain ⟨l1, h2, h⟩ := bO_inv h; obtain ⟨⟨h3a, h3b, h3c⟩, h3d, h3e⟩ := slc_E EIl h2; (try simp only [EV, seval] at h3d); (try simp only [EV, seval] at h3e); (try simp only [EV, seval] at h3a); (try simp only [EV, seval] at h3b); (try simp only [EV, seval] at h3c); obtain ⟨h4, h⟩ := gd_inv h; replace h4 := of_decide_eq_true h4; (try simp only [EV, seval] at h4); have h5 := encL_len EIl l1; simp only [EV, seval, h3a, h3b, h3c, h3d, h3e, h4, h5]; refine hK _ _ _ ?_; clear hK K; injection h with h; subst h; refine AW_le (Le_can (lt := [(2, .own 32 l1.length)]) (lr := [(32, .row 3 1 (encL EI l1))]) (b' := 64) [(32, some 2208)] [] hρ (by kernel_rfl) ?_ ?_) (AW_ret (end_q [32] (.inr rfl) (by kernel_rfl) (by kernel_rfl) ?_))
 ·simp only [AL, EV, seval, h3a, h3b, h3c, h3d, h3e, h4, h5]
 ·simp only [AL, EV, seval, h3a, h3b, h3c, h3d, h3e, h4, h5]
 ·simp only [EV, Tryz.results42, seval]
/- spec.l1HasInt -/
def s_l1HasInt_j1 : Option Bool :=
  some false
def s_l1HasInt_l1 (a1 : List Int) (a2 : Int) : Nat → Int → Option Bool
  | 0, _ => none
  | n1 + 1, v2 =>
  br (decide (v2 < ((a1.length : Int)))) (bO (geti a1 v2) fun q3 => br (q3 == a2) (some true) ((s_l1HasInt_l1 a1 a2 n1) (IntKind.wrap .i64 (v2 + 1)))) (s_l1HasInt_j1)
def s_l1HasInt (a1 : List Int) (a2 : Int) : Option Bool :=
  s_l1HasInt_l1 a1 a2 FU 0
theorem s_l1HasInt_ok {a1 : List Int} {a2 : Int} {r : Bool} (h : s_l1HasInt a1 a2 = some r) :
    Spec Tryz.prog 45 [.sl (encL EI a1) a1.length, .int .i64 a2] [] (.bool r) [] := by
 unfold s_l1HasInt at h; refine SO Tryz.func45 rfl Tryz.ntmps45 fun C hN hρ => ?_; simp only [st0, tmps0, Nat.zero_add, Nat.reduceAdd]; refine AN hN ?_; refine AW_cutK (fun S => S = ⟨mkT [], mkR [], 64⟩ ∧ s_l1HasInt_j1 = some r) ?_ ?_
 ·refine AN hN ?_; refine AW_block ?_; refine AW_loopF (fun n S => ∃ (v2 : Int), S = ⟨mkT [(0, .sl (encL EI a1) a1.length), (1, .int .i64 a2), (5, .int .i64 v2)], mkR [], 64⟩ ∧ s_l1HasInt_l1 a1 a2 n v2 = some r) FU ?_ ?_ ?_
  ·exact AC ⟨_, rfl, h⟩ [] [] hρ
  ·rintro S ⟨_, _, h⟩; rw [s_l1HasInt_l1] at h; cases h
  ·rintro n1 S ⟨v2, rfl, h⟩; rw [s_l1HasInt_l1] at h; refine AW_seq ?_; refine AN hN ?_; refine AB h (fun hc5 h => ?_) fun hc5 h => ?_
   ·refine AW_skip (AK ?_); refine AW_seq ?_; refine AW_block ?_; refine AR hN fun K hK => ?_; obtain ⟨q3, h5, h⟩ := bO_inv h; obtain ⟨⟨h6a, h6b⟩, h6c⟩ := geti_E EIl h5; (try simp only [EV, seval] at h6c); simp only [EV, seval, h6a, h6b, h6c]; refine hK _ _ _ ?_; clear hK K; refine AW_condK (a := .bool (q3 == a2)) (by simp only [EV, seval, h6a, h6b, h6c]) (brK h (fun hc6 h => ?_) (fun hc6 h => ?_))
    ·refine AN hN ?_; injection h with h; subst h; exact AX (b' := 64) [(4, .bool true)] [] [] [] hρ (EQ [])
    ·refine AW_skip (AK ?_); refine AS hN fun K hK => ?_; simp only [EV, seval]; exact hK _ _ _ (AC ⟨_, rfl, h⟩ [] [] hρ)
   ·exact AW_exit (AC ⟨rfl, h⟩ [] [] hρ)
 ·rintro S ⟨rfl, h⟩; unfold s_l1HasInt_j1 at h; refine AN hN ?_; injection h with h; subst h; exact AX (b' := 64) [(4, .bool false)] [] [] [] hρ (EQ [])
/- spec.IsValidGate -/
def s_IsValidGate_j4 (v6 : List Int) (v7 : Int) (kl1 : (List Int) → Int → Option Bool) (v8 : Bool) : Option Bool :=
  br v8 (some false) (kl1 v6 (IntKind.wrap .i64 (v7 + 1)))
def s_IsValidGate_j5 (v9 : Bool) : Option Bool :=
  some v9
def s_IsValidGate_j1 (a5 : Int) (x1 : List Int) : Option Bool :=
  bO (br (decide (0 < ((x1.length : Int)))) (bO (s_l1In a5 1 4) fun x42 => some x42) (some false)) fun x43 => s_IsValidGate_j5 x43
def s_IsValidGate_l1 (a5 : Int) (x1 : List Int) : Nat → (List Int) → Int → Option Bool
  | 0, _, _ => none
  | n1 + 1, v6, v7 =>
  br (decide (v7 < 3)) (bO (br (decide (((x1.length : Int)) ≤ v7)) (bO (geti v6 v7) fun q5 => some (q5 != 0)) (some false)) fun x14 => bO (br x14 (some true) (bO (br (decide (v7 < ((x1.length : Int)))) (bO (geti v6 v7) fun q6 => bO (s_l1In q6 0 (IntKind.wrap .i64 (a5 - 1))) fun x15 => bO (br (!x15) (some true) (bO (slc x1 0 v7) fun l4 => bO (s_l1HasInt l4 q6) fun x16 => some x16)) fun x17 => some x17) (some false)) fun x18 => some x18)) fun x19 => s_IsValidGate_j4 v6 v7 (s_IsValidGate_l1 a5 x1 n1) x19) (s_IsValidGate_j1 a5 x1)
def s_IsValidGate (a1 a2 a3 a4 a5 : Int) : Option Bool :=
  bO (s_GateQubits a1 a2 a3 a4) fun x1 => s_IsValidGate_l1 a5 x1 FU ([a2, a3, a4]) 0
theorem s_IsValidGate_ok {a1 a2 a3 a4 a5 : Int} {r : Bool} (h : s_IsValidGate a1 a2 a3 a4 a5 = some r) :
    Spec Tryz.prog 20 [.agg [.int .i64 a1, .int .i64 a2, .int .i64 a3, .int .i64 a4], .int .i64 a5] [] (.bool r) [] := by
 unfold s_IsValidGate at h; refine SO Tryz.func20 rfl Tryz.ntmps20 fun C hN hρ => ?_; simp only [st0, tmps0, Nat.zero_add, Nat.reduceAdd]; refine AN hN ?_; refine AR hN fun K hK => ?_; obtain ⟨x1, h1, h⟩ := bO_inv h; simp only [EV, seval]; refine rC_p (s_GateQubits_ok h1) (by simp only [AL, EV, seval]) (le_d rfl) (site_1 (by simp only [EV, seval])) ?_; simp only [EV, seval]; refine hK _ _ _ ?_; clear hK K; refine AN hN ?_; refine AW_cutK (fun S => S = ⟨mkT [(1, .int .i64 a5), (5, .sl (encL EI x1) x1.length)], mkR [], 64⟩ ∧ s_IsValidGate_j1 a5 x1 = some r) ?_ ?_
 ·refine AN hN ?_; refine AW_block ?_; refine AW_loopF (fun n S => ∃ (v6 : List Int) (v7 : Int), S = ⟨mkT [(1, .int .i64 a5), (5, .sl (encL EI x1) x1.length), (6, .sl (encL EI v6) v6.length), (7, .int .i64 v7)], mkR [], 64⟩ ∧ s_IsValidGate_l1 a5 x1 n v6 v7 = some r) FU ?_ ?_ ?_
  ·exact AC ⟨_, _, rfl, h⟩ [] [1104] hρ
  ·rintro S ⟨_, _, _, h⟩; rw [s_IsValidGate_l1] at h; cases h
  ·rintro n1 S ⟨v6, v7, rfl, h⟩; rw [s_IsValidGate_l1] at h; refine AW_seq ?_; refine AN hN ?_; refine AB h (fun hc13 h => ?_) fun hc13 h => ?_
   ·refine AW_skip (AK ?_); refine AW_seq ?_; refine AW_block ?_; refine AJ (fun S => ∃ (v8 : Bool), S = ⟨mkT [(1, .int .i64 a5), (5, .sl (encL EI x1) x1.length), (6, .sl (encL EI v6) v6.length), (7, .int .i64 v7), (57, .bool v8)], mkR [], 64⟩ ∧ s_IsValidGate_j4 v6 v7 (s_IsValidGate_l1 a5 x1 n1) v8 = some r) hN ?_ ?_
    ·intro K hK; obtain ⟨x14, hv9, h⟩ := bO_inv h; rcases br_inv hv9 with ⟨hc14, hv9⟩ | ⟨hc14, hv9⟩
     ·obtain ⟨q7, h26, hv9⟩ := bO_inv hv9; obtain ⟨⟨h27a, h27b⟩, h27c⟩ := geti_E EIl h26; (try simp only [EV, seval] at h27c); cases hv9; obtain ⟨x24, hv13, h⟩ := bO_inv h; rcases br_inv hv13 with ⟨hc18, hv13⟩ | ⟨hc18, hv13⟩
      ·cases hv13; simp only [EV, seval, hc14, h27a, h27b, h27c, hc18]; refine hK _ _ _ (show cutK _ _ _ from cutL ⟨_, rfl, h⟩ (Le_can [] [] hρ (by kernel_rfl) ?_ ?_))
       ·simp only [AL, EV, seval, hc14, h27a, h27b, h27c, hc18]
       ·simp only [AL, EV, seval, hc14, h27a, h27b, h27c, hc18]
      ·obtain ⟨x28, hv16, hv13⟩ := bO_inv hv13; rcases br_inv hv16 with ⟨hc21, hv16⟩ | ⟨hc21, hv16⟩
       ·obtain ⟨q10, h40, hv16⟩ := bO_inv hv16; obtain rfl : q7 = q10 := Option.some.inj (h26.symm.trans h40); obtain ⟨x29, h41, hv16⟩ := bO_inv hv16; simp only [EV, seval, hc14, h27a, h27b, h27c, hc18, hc21]; refine rC_p (s_l1In_ok h41) (by simp only [AL, EV, seval, hc14, h27a, h27b, h27c, hc18, hc21]) (le_d rfl) (no_j rfl) ?_; obtain ⟨x31, hv18, hv16⟩ := bO_inv hv16; rcases br_inv hv18 with ⟨hc23, hv18⟩ | ⟨hc23, hv18⟩
        ·cases hv18; cases hv16; cases hv13; simp only [EV, seval, hc14, h27a, h27b, h27c, hc18, hc21, hc23]; refine hK _ _ _ (show cutK _ _ _ from cutL ⟨_, rfl, h⟩ (Le_can [] [] hρ (by kernel_rfl) ?_ ?_))
         ·simp only [AL, EV, seval, hc14, h27a, h27b, h27c, hc18, hc21, hc23]
         ·simp only [AL, EV, seval, hc14, h27a, h27b, h27c, hc18, hc21, hc23]
        ·obtain ⟨l8, h45, hv18⟩ := bO_inv hv18; obtain ⟨⟨h46a, h46b, h46c⟩, h46d, h46e⟩ := slc_E EIl h45; (try simp only [EV, seval] at h46d); (try simp only [EV, seval] at h46e); (try simp only [EV, seval] at h46a); (try simp only [EV, seval] at h46b); (try simp only [EV, seval] at h46c); obtain ⟨x32, h47, hv18⟩ := bO_inv hv18; simp only [EV, seval, hc14, h27a, h27b, h27c, hc18, hc21, hc23, h46a, h46b, h46c, h46d, h46e]; refine rC_p (s_l1HasInt_ok h47) (by simp only [AL, EV, seval, hc14, h27a, h27b, h27c, hc18, hc21, hc23, h46a, h46b, h46c, h46d, h46e]) (le_d rfl) (no_j rfl) ?_; cases hv18; cases hv16; cases hv13; simp only [EV, seval, hc14, h27a, h27b, h27c, hc18, hc21, hc23, h46a, h46b, h46c, h46d, h46e]; refine hK _ _ _ (show cutK _ _ _ from cutL ⟨_, rfl, h⟩ (Le_can [] [] hρ (by kernel_rfl) ?_ ?_))
         ·simp only [AL, EV, seval, hc14, h27a, h27b, h27c, hc18, hc21, hc23, h46a, h46b, h46c, h46d, h46e]
         ·simp only [AL, EV, seval, hc14, h27a, h27b, h27c, hc18, hc21, hc23, h46a, h46b, h46c, h46d, h46e]
       ·cases hv16; cases hv13; simp only [EV, seval, hc14, h27a, h27b, h27c, hc18, hc21]; refine hK _ _ _ (show cutK _ _ _ from cutL ⟨_, rfl, h⟩ (Le_can [] [] hρ (by kernel_rfl) ?_ ?_))
        ·simp only [AL, EV, seval, hc14, h27a, h27b, h27c, hc18, hc21]
        ·simp only [AL, EV, seval, hc14, h27a, h27b, h27c, hc18, hc21]
     ·cases hv9; obtain ⟨x33, hv19, h⟩ := bO_inv h; replace hv19 := br_f hv19; obtain ⟨x37, hv20, hv19⟩ := bO_inv hv19; rcases br_inv hv20 with ⟨hc24, hv20⟩ | ⟨hc24, hv20⟩
      ·obtain ⟨q12, h54, hv20⟩ := bO_inv hv20; obtain ⟨⟨h55a, h55b⟩, h55c⟩ := geti_E EIl h54; (try simp only [EV, seval] at h55c); obtain ⟨x38, h56, hv20⟩ := bO_inv hv20; simp only [EV, seval, hc14, hc24, h55a, h55b, h55c]; refine rC_p (s_l1In_ok h56) (by simp only [AL, EV, seval, hc14, hc24, h55a, h55b, h55c]) (le_d rfl) (no_j rfl) ?_; obtain ⟨x40, hv22, hv20⟩ := bO_inv hv20; rcases br_inv hv22 with ⟨hc26, hv22⟩ | ⟨hc26, hv22⟩
       ·cases hv22; cases hv20; cases hv19; (try dsimp only at h); simp only [EV, seval, hc14, hc24, h55a, h55b, h55c, hc26]; refine hK _ _ _ (show cutK _ _ _ from cutL ⟨_, rfl, h⟩ (Le_can [] [] hρ (by kernel_rfl) ?_ ?_))
        ·simp only [AL, EV, seval, hc14, hc24, h55a, h55b, h55c, hc26]
        ·simp only [AL, EV, seval, hc14, hc24, h55a, h55b, h55c, hc26]
       ·obtain ⟨l11, h60, hv22⟩ := bO_inv hv22; obtain ⟨⟨h61a, h61b, h61c⟩, h61d, h61e⟩ := slc_E EIl h60; (try simp only [EV, seval] at h61d); (try simp only [EV, seval] at h61e); (try simp only [EV, seval] at h61a); (try simp only [EV, seval] at h61b); (try simp only [EV, seval] at h61c); obtain ⟨x41, h62, hv22⟩ := bO_inv hv22; simp only [EV, seval, hc14, hc24, h55a, h55b, h55c, hc26, h61a, h61b, h61c, h61d, h61e]; refine rC_p (s_l1HasInt_ok h62) (by simp only [AL, EV, seval, hc14, hc24, h55a, h55b, h55c, hc26, h61a, h61b, h61c, h61d, h61e]) (le_d rfl) (no_j rfl) ?_; cases hv22; cases hv20; cases hv19; (try dsimp only at h); simp only [EV, seval, hc14, hc24, h55a, h55b, h55c, hc26, h61a, h61b, h61c, h61d, h61e]; refine hK _ _ _ (show cutK _ _ _ from cutL ⟨_, rfl, h⟩ (Le_can [] [] hρ (by kernel_rfl) ?_ ?_))
        ·simp only [AL, EV, seval, hc14, hc24, h55a, h55b, h55c, hc26, h61a, h61b, h61c, h61d, h61e]
        ·simp only [AL, EV, seval, hc14, hc24, h55a, h55b, h55c, hc26, h61a, h61b, h61c, h61d, h61e]
      ·cases hv20; cases hv19; (try dsimp only at h); simp only [EV, seval, hc14, hc24]; refine hK _ _ _ (show cutK _ _ _ from cutL ⟨_, rfl, h⟩ (Le_can [] [] hρ (by kernel_rfl) ?_ ?_))
       ·simp only [AL, EV, seval, hc14, hc24]
       ·simp only [AL, EV, seval, hc14, hc24]
    ·rintro S ⟨v8, rfl, h⟩; unfold s_IsValidGate_j4 at h; refine AB h (fun hc27 h => ?_) fun hc27 h => ?_
     ·refine AN hN ?_; injection h with h; subst h; exact AX (b' := 64) [(4, .bool false)] [] [] [] hρ (EQ [])
     ·refine AW_skip (AK ?_); refine AS hN fun K hK => ?_; simp only [EV, seval]; exact hK _ _ _ (AC ⟨_, _, rfl, h⟩ [] [] hρ)
   ·exact AW_exit (AC ⟨rfl, h⟩ [] [] hρ)
 ·rintro S ⟨rfl, h⟩; unfold s_IsValidGate_j1 at h; refine AJ (fun S => ∃ (v9 : Bool), S = ⟨mkT [(4, .bool v9)], mkR [], 64⟩ ∧ s_IsValidGate_j5 v9 = some r) hN ?_ ?_
  ·intro K hK; obtain ⟨x43, hv23, h⟩ := bO_inv h; rcases br_inv hv23 with ⟨hc28, hv23⟩ | ⟨hc28, hv23⟩
   ·obtain ⟨x44, h64, hv23⟩ := bO_inv hv23; simp only [EV, seval, hc28]; refine rC_p (s_l1In_ok h64) (by simp only [AL, EV, seval, hc28]) (le_d rfl) (no_j rfl) ?_; cases hv23; simp only [EV, seval, hc28]; refine hK _ _ _ (show cutK _ _ _ from cutL ⟨_, rfl, h⟩ (Le_can [] [] hρ (by kernel_rfl) ?_ ?_))
    ·simp only [AL, EV, seval, hc28]
    ·simp only [AL, EV, seval, hc28]
   ·cases hv23; simp only [EV, seval, hc28]; refine hK _ _ _ (show cutK _ _ _ from cutL ⟨_, rfl, h⟩ (Le_can [] [] hρ (by kernel_rfl) ?_ ?_))
    ·simp only [AL, EV, seval, hc28]
    ·simp only [AL, EV, seval, hc28]
  ·rintro S ⟨v9, rfl, h⟩; unfold s_IsValidGate_j5 at h; injection h with h; subst h; exact AX (b' := 64) [(4, .bool v9)] [] [] [] hρ (EQ [])
/- spec.IsClifford -/
def s_IsClifford_j1 (v1 : Bool) : Option Bool :=
  some v1
def s_IsClifford (a1 a2 a3 a4 : Int) : Option Bool :=
  bO (s_Arity a1) fun x1 => bO (br (decide (0 < x1)) (some (a1 != 7)) (some false)) fun x2 => bO (br x2 (some (a1 != 8)) (some false)) fun x3 => bO (br x3 (some (a1 != 12)) (some false)) fun x4 => s_IsClifford_j1 x4
theorem s_IsClifford_ok {a1 a2 a3 a4 : Int} {r : Bool} (h : s_IsClifford a1 a2 a3 a4 = some r) :
    Spec Tryz.prog 231 [.agg [.int .i64 a1, .int .i64 a2, .int .i64 a3, .int .i64 a4]] [] (.bool r) [] := by
 unfold s_IsClifford at h; refine SO Tryz.func231 rfl Tryz.ntmps231 fun C hN hρ => ?_; simp only [st0, tmps0, Nat.zero_add, Nat.reduceAdd]; refine AN hN ?_; refine AJ (fun S => ∃ (v1 : Bool), S = ⟨mkT [(2, .bool v1)], mkR [], 64⟩ ∧ s_IsClifford_j1 v1 = some r) hN ?_ ?_
 ·intro K hK; obtain ⟨x1, h1, h⟩ := bO_inv h; simp only [EV, seval]; refine CP (s_Arity_ok h1) ?_; obtain ⟨x2, hv1, h⟩ := bO_inv h; rcases br_inv hv1 with ⟨hc1, hv1⟩ | ⟨hc1, hv1⟩
  ·cases hv1; obtain ⟨x5, hv4, h⟩ := bO_inv h; rcases br_inv hv4 with ⟨hc4, hv4⟩ | ⟨hc4, hv4⟩
   ·cases hv4; obtain ⟨x7, hv6, h⟩ := bO_inv h; rcases br_inv hv6 with ⟨hc6, hv6⟩ | ⟨hc6, hv6⟩
    ·cases hv6; simp only [EV, seval, hc1, hc4, hc6]; refine hK _ _ _ (show cutK _ _ _ from cutL ⟨_, rfl, h⟩ (Le_can [] [] hρ (by kernel_rfl) ?_ ?_))
     ·simp only [AL, EV, seval, hc1, hc4, hc6]
     ·simp only [AL, EV, seval, hc1, hc4, hc6]
    ·cases hv6; simp only [EV, seval, hc1, hc4, hc6]; refine hK _ _ _ (show cutK _ _ _ from cutL ⟨_, rfl, h⟩ (Le_can [] [] hρ (by kernel_rfl) ?_ ?_))
     ·simp only [AL, EV, seval, hc1, hc4, hc6]
     ·simp only [AL, EV, seval, hc1, hc4, hc6]
   ·cases hv4; obtain ⟨x8, hv7, h⟩ := bO_inv h; replace hv7 := br_f hv7; cases hv7; (try dsimp only at h); simp only [EV, seval, hc1, hc4]; refine hK _ _ _ (show cutK _ _ _ from cutL ⟨_, rfl, h⟩ (Le_can [] [] hρ (by kernel_rfl) ?_ ?_))
    ·simp only [AL, EV, seval, hc1, hc4]
    ·simp only [AL, EV, seval, hc1, hc4]
  ·cases hv1; obtain ⟨x9, hv8, h⟩ := bO_inv h; replace hv8 := br_f hv8; cases hv8; (try dsimp only at h); obtain ⟨x10, hv9, h⟩ := bO_inv h; replace hv9 := br_f hv9; cases hv9; (try dsimp only at h); simp only [EV, seval, hc1]; refine hK _ _ _ (show cutK _ _ _ from cutL ⟨_, rfl, h⟩ (Le_can [] [] hρ (by kernel_rfl) ?_ ?_))
   ·simp only [AL, EV, seval, hc1]
   ·simp only [AL, EV, seval, hc1]
 ·rintro S ⟨v1, rfl, h⟩; unfold s_IsClifford_j1 at h; injection h with h; subst h; exact AX (b' := 64) [(2, .bool v1)] [] [] [] hρ (EQ [])
/- spec.ActsOn -/
def s_ActsOn (a1 a2 a3 a4 a5 : Int) : Option Bool :=
  bO (s_GateQubits a1 a2 a3 a4) fun x1 => bO (s_l1HasInt x1 a5) fun x2 => some x2
theorem s_ActsOn_ok {a1 a2 a3 a4 a5 : Int} {r : Bool} (h : s_ActsOn a1 a2 a3 a4 a5 = some r) :
    Spec Tryz.prog 236 [.agg [.int .i64 a1, .int .i64 a2, .int .i64 a3, .int .i64 a4], .int .i64 a5] [] (.bool r) [] := by
 unfold s_ActsOn at h; refine SO Tryz.func236 rfl Tryz.ntmps236 fun C hN hρ => ?_; simp only [st0, tmps0, Nat.zero_add, Nat.reduceAdd]; refine AN hN ?_; refine AR hN fun K hK => ?_; obtain ⟨x1, h1, h⟩ := bO_inv h; simp only [EV, seval]; refine rC_p (s_GateQubits_ok h1) (by simp only [AL, EV, seval]) (le_d rfl) (site_1 (by simp only [EV, seval])) ?_; obtain ⟨x2, h2, h⟩ := bO_inv h; simp only [EV, seval]; refine rC_l (s_l1HasInt_ok h2) (by simp only [AL, EV, seval]) (by simp only [AL, EF, and_self]) (le_d rfl) (no_j rfl) ?_; simp only [EV, seval]; refine hK _ _ _ ?_; clear hK K; injection h with h; subst h; exact AX (b' := 64) [(4, .bool x2)] [] [] [] hρ (EQ [])
/- spec.l25Image -/
def s_l25Image_j1 (x1 : Int × Int × Int × Int) (v4 v5 v6 : Int) : Option (Int × Int × Int × Int) :=
  some (x1.1, v4, v5, v6)
def s_l25Image_j4 (a3 : Int) (x1 : Int × Int × Int × Int) (v2 : Int) (v3 : Bool) : Option (Int × Int × Int × Int) :=
  br v3 (gd (decide (¬ (IntKind.wrap .u64 a3) < 0)) (s_l25Image_j1 x1 v2 (bits .or .i64 x1.2.2.1 (IntKind.wrap .i64 (1 * 2 ^ min (Int.toNat (IntKind.wrap .u64 a3)) (IntKind.bits .i64)))) x1.2.2.2)) (s_l25Image_j1 x1 v2 x1.2.2.1 x1.2.2.2)
def s_l25Image_j2 (a3 a4 a6 : Int) (a7 : Bool) (x1 : Int × Int × Int × Int) (v2 : Int) : Option (Int × Int × Int × Int) :=
  bO (br a7 (some (a6 == a4)) (some false)) fun x5 => s_l25Image_j4 a3 x1 v2 x5
def s_l25Image_j3 (a3 a4 a6 : Int) (a7 : Bool) (x1 : Int × Int × Int × Int) (v1 : Bool) : Option (Int × Int × Int × Int) :=
  br v1 (gd (decide (¬ (IntKind.wrap .u64 a4) < 0)) (s_l25Image_j2 a3 a4 a6 a7 x1 (bits .or .i64 x1.2.1 (IntKind.wrap .i64 (1 * 2 ^ min (Int.toNat (IntKind.wrap .u64 a4)) (IntKind.bits .i64)))))) (s_l25Image_j2 a3 a4 a6 a7 x1 x1.2.1)
def s_l25Image (a1 a2 a3 a4 a5 a6 : Int) (a7 : Bool) : Option (Int × Int × Int × Int) :=
  bO (s_l25Single a1 a6 a7) fun x1 => bO (s_l25Single a1 a6 (!a7)) fun x2 => bO (s_ActsOn a2 a3 a4 a5 a6) fun x3 => br (!x3) (some (x1.1, x1.2.1, x1.2.2.1, x1.2.2.2)) (br (a2 == 1) (br a7 (s_l25Image_j1 x1 x1.2.1 x1.2.2.1 2) (s_l25Image_j1 x1 x1.2.1 x1.2.2.1 x1.2.2.2)) (br (a2 == 2) (s_l25Image_j1 x1 x1.2.1 x1.2.2.1 2) (br (a2 == 3) (br (!a7) (s_l25Image_j1 x1 x1.2.1 x1.2.2.1 2) (s_l25Image_j1 x1 x1.2.1 x1.2.2.1 x1.2.2.2)) (br (a2 == 4) (some (x2.1, x2.2.1, x2.2.2.1, x2.2.2.2)) (br (a2 == 5) (br (!a7) (some (a1, bits .or .i64 x1.2.1 x2.2.1, bits .or .i64 x1.2.2.1 x2.2.2.1, 1)) (s_l25Image_j1 x1 x1.2.1 x1.2.2.1 x1.2.2.2)) (br (a2 == 6) (br (!a7) (some (a1, bits .or .i64 x1.2.1 x2.2.1, bits .or .i64 x1.2.2.1 x2.2.2.1, 3)) (s_l25Image_j1 x1 x1.2.1 x1.2.2.1 x1.2.2.2)) (br (a2 == 9) (bO (br (!a7) (some (a6 == a3)) (some false)) fun x4 => s_l25Image_j3 a3 a4 a6 a7 x1 x4) (br (a2 == 10) (br (!a7) (gd (decide (¬ (IntKind.wrap .u64 (IntKind.wrap .i64 ((IntKind.wrap .i64 (a3 + a4)) - a6))) < 0)) (s_l25Image_j1 x1 x1.2.1 (IntKind.wrap .i64 (1 * 2 ^ min (Int.toNat (IntKind.wrap .u64 (IntKind.wrap .i64 ((IntKind.wrap .i64 (a3 + a4)) - a6)))) (IntKind.bits .i64))) x1.2.2.2)) (s_l25Image_j1 x1 x1.2.1 x1.2.2.1 x1.2.2.2)) (br (a2 == 11) (bO (s_l25Single a1 (IntKind.wrap .i64 ((IntKind.wrap .i64 (a3 + a4)) - a6)) a7) fun x6 => some (x6.1, x6.2.1, x6.2.2.1, x6.2.2.2)) (s_l25Image_j1 x1 x1.2.1 x1.2.2.1 x1.2.2.2))))))))))
theorem s_l25Image_ok {a1 a2 a3 a4 a5 a6 : Int} {a7 : Bool} {r : Int × Int × Int × Int} (h : s_l25Image a1 a2 a3 a4 a5 a6 a7 = some r) :
    Spec Tryz.prog 233 [.int .i64 a1, .agg [.int .i64 a2, .int .i64 a3, .int .i64 a4, .int .i64 a5], .int .i64 a6, .bool a7] [] (.agg [.int .i64 r.1, .int .i64 r.2.1, .int .i64 r.2.2.1, .int .i64 r.2.2.2]) [] := by
 unfold s_l25Image at h; refine SO Tryz.func233 rfl Tryz.ntmps233 fun C hN hρ => ?_; simp only [st0, tmps0, Nat.zero_add, Nat.reduceAdd]; refine AN hN ?_; obtain ⟨x1, h1, h⟩ := bO_inv h; refine AP hN (s_l25Single_ok h1) ?_; obtain ⟨x2, h2, h⟩ := bO_inv h; refine AP hN (s_l25Single_ok h2) ?_; refine AN hN ?_; refine AW_seq ?_; obtain ⟨x3, h3, h⟩ := bO_inv h; refine AP hN (s_ActsOn_ok h3) ?_; refine AB h (fun hc1 h => ?_) fun hc1 h => ?_
 ·refine AN hN ?_; injection h with h; subst h; exact AX (b' := 64) [(8, .ptr 32 0)] [(32, .box 213 [.int .i64 x1.1, .int .i64 x1.2.1, .int .i64 x1.2.2.1, .int .i64 x1.2.2.2])] [(32, some 80)] [] hρ (EQ [])
 ·refine AW_skip (AK ?_); refine AW_cutK (fun S => ∃ (v4 v5 v6 : Int), S = ⟨mkT [(8, .ptr 32 0), (9, .ptr 33 0)], mkR [(32, .box 213 [.int .i64 0, .int .i64 0, .int .i64 0, .int .i64 0]), (33, .box 213 [.int .i64 x1.1, .int .i64 v4, .int .i64 v5, .int .i64 v6])], 64⟩ ∧ s_l25Image_j1 x1 v4 v5 v6 = some r) ?_ ?_
  ·refine AN hN ?_; refine AW_block ?_; refine AN hN ?_; refine AB h (fun hc2 h => ?_) fun hc2 h => ?_
   ·refine AN hN ?_; refine AB h (fun hc3 h => ?_) fun hc3 h => ?_
    ·refine AS hN fun K hK => ?_; simp only [EV, seval]; exact hK _ _ _ (AC ⟨_, _, _, rfl, h⟩ [(32, some 80), (33, some 1152)] [] hρ)
    ·refine AW_skip (show cutK _ _ _ from cutL ⟨_, _, _, rfl, h⟩ (Le_can [(32, some 80), (33, some 1152)] [] hρ (by kernel_rfl) ?_ ?_))
     ·simp only [AL, EV, seval]
     ·simp only [AL, EV, seval]
   ·refine AN hN ?_; refine AB h (fun hc4 h => ?_) fun hc4 h => ?_
    ·refine AS hN fun K hK => ?_; simp only [EV, seval]; exact hK _ _ _ (AC ⟨_, _, _, rfl, h⟩ [(32, some 80), (33, some 1152)] [] hρ)
    ·refine AN hN ?_; refine AB h (fun hc5 h => ?_) fun hc5 h => ?_
     ·refine AN hN ?_; refine AB h (fun hc6 h => ?_) fun hc6 h => ?_
      ·refine AS hN fun K hK => ?_; simp only [EV, seval]; exact hK _ _ _ (AC ⟨_, _, _, rfl, h⟩ [(32, some 80), (33, some 1152)] [] hρ)
      ·refine AW_skip (show cutK _ _ _ from cutL ⟨_, _, _, rfl, h⟩ (Le_can [(32, some 80), (33, some 1152)] [] hρ (by kernel_rfl) ?_ ?_))
       ·simp only [AL, EV, seval]
       ·simp only [AL, EV, seval]
     ·refine AN hN ?_; refine AB h (fun hc7 h => ?_) fun hc7 h => ?_
      ·refine AN hN ?_; injection h with h; subst h; exact AX (b' := 64) [(8, .ptr 32 0)] [(32, .box 213 [.int .i64 x2.1, .int .i64 x2.2.1, .int .i64 x2.2.2.1, .int .i64 x2.2.2.2])] [(32, some 80)] [] hρ (EQ [])
      ·refine AN hN ?_; refine AB h (fun hc8 h => ?_) fun hc8 h => ?_
       ·refine AN hN ?_; refine AB h (fun hc9 h => ?_) fun hc9 h => ?_
        ·refine AN hN ?_; refine AN hN ?_; injection h with h; subst h; exact AX (b' := 64) [(8, .ptr 32 0)] [(32, .box 213 [.int .i64 a1, .int .i64 (bits .or .i64 x1.2.1 x2.2.1), .int .i64 (bits .or .i64 x1.2.2.1 x2.2.2.1), .int .i64 1])] [(32, some 80)] [] hρ (EQ [])
        ·refine AW_skip (show cutK _ _ _ from cutL ⟨_, _, _, rfl, h⟩ (Le_can [(32, some 80), (33, some 1152)] [] hρ (by kernel_rfl) ?_ ?_))
         ·simp only [AL, EV, seval]
         ·simp only [AL, EV, seval]
       ·refine AN hN ?_; refine AB h (fun hc10 h => ?_) fun hc10 h => ?_
        ·refine AN hN ?_; refine AB h (fun hc11 h => ?_) fun hc11 h => ?_
         ·refine AN hN ?_; refine AN hN ?_; injection h with h; subst h; exact AX (b' := 64) [(8, .ptr 32 0)] [(32, .box 213 [.int .i64 a1, .int .i64 (bits .or .i64 x1.2.1 x2.2.1), .int .i64 (bits .or .i64 x1.2.2.1 x2.2.2.1), .int .i64 3])] [(32, some 80)] [] hρ (EQ [])
         ·refine AW_skip (show cutK _ _ _ from cutL ⟨_, _, _, rfl, h⟩ (Le_can [(32, some 80), (33, some 1152)] [] hρ (by kernel_rfl) ?_ ?_))
          ·simp only [AL, EV, seval]
          ·simp only [AL, EV, seval]
        ·refine AN hN ?_; refine AB h (fun hc12 h => ?_) fun hc12 h => ?_
         ·refine AW_cutK (fun S => ∃ (v2 : Int), S = ⟨mkT [(2, .int .i64 a6), (3, .bool a7), (5, .ptr 32 0), (8, .ptr 33 0), (9, .ptr 34 0)], mkR [(32, .box 48 [.int .i64 a2, .int .i64 a3, .int .i64 a4, .int .i64 a5]), (33, .box 213 [.int .i64 0, .int .i64 0, .int .i64 0, .int .i64 0]), (34, .box 213 [.int .i64 x1.1, .int .i64 v2, .int .i64 x1.2.2.1, .int .i64 x1.2.2.2])], 64⟩ ∧ s_l25Image_j2 a3 a4 a6 a7 x1 v2 = some r) ?_ ?_
          ·refine AJ (fun S => ∃ (v1 : Bool), S = ⟨mkT [(2, .int .i64 a6), (3, .bool a7), (5, .ptr 32 0), (8, .ptr 33 0), (9, .ptr 34 0), (76, .bool v1)], mkR [(32, .box 48 [.int .i64 a2, .int .i64 a3, .int .i64 a4, .int .i64 a5]), (33, .box 213 [.int .i64 0, .int .i64 0, .int .i64 0, .int .i64 0]), (34, .box 213 [.int .i64 x1.1, .int .i64 x1.2.1, .int .i64 x1.2.2.1, .int .i64 x1.2.2.2])], 64⟩ ∧ s_l25Image_j3 a3 a4 a6 a7 x1 v1 = some r) hN ?_ ?_
           ·intro K hK; obtain ⟨x4, hv1, h⟩ := bO_inv h; rcases br_inv hv1 with ⟨hc13, hv1⟩ | ⟨hc13, hv1⟩
            ·cases hv1; simp only [EV, seval, hc13]; refine hK _ _ _ (show cutK _ _ _ from cutL ⟨_, rfl, h⟩ (Le_can [(32, some 64), (33, some 80), (34, some 1152)] [] hρ (by kernel_rfl) ?_ ?_))
             ·simp only [AL, EV, seval, hc13]
             ·simp only [AL, EV, seval, hc13]
            ·cases hv1; simp only [EV, seval, hc13]; refine hK _ _ _ (show cutK _ _ _ from cutL ⟨_, rfl, h⟩ (Le_can [(32, some 64), (33, some 80), (34, some 1152)] [] hρ (by kernel_rfl) ?_ ?_))
             ·simp only [AL, EV, seval, hc13]
             ·simp only [AL, EV, seval, hc13]
           ·rintro S ⟨v1, rfl, h⟩; unfold s_l25Image_j3 at h; refine AB h (fun hc14 h => ?_) fun hc14 h => ?_
            ·refine AS hN fun K hK => ?_; obtain ⟨h4, h⟩ := gd_inv h; replace h4 := of_decide_eq_true h4; simp only [EV, seval, h4]; refine hK _ _ _ (show cutK _ _ _ from cutL ⟨_, rfl, h⟩ (Le_can [(32, some 32), (33, some 33), (34, some 34)] [] hρ (by kernel_rfl) ?_ ?_))
             ·simp only [AL, EV, seval, h4]
             ·simp only [AL, EV, seval, h4]
            ·refine AW_skip (show cutK _ _ _ from cutL ⟨_, rfl, h⟩ (Le_can [(32, some 32), (33, some 33), (34, some 34)] [] hρ (by kernel_rfl) ?_ ?_))
             ·simp only [AL, EV, seval]
             ·simp only [AL, EV, seval]
          ·rintro S ⟨v2, rfl, h⟩; unfold s_l25Image_j2 at h; refine AJ (fun S => ∃ (v3 : Bool), S = ⟨mkT [(5, .ptr 32 0), (8, .ptr 33 0), (9, .ptr 34 0), (91, .bool v3)], mkR [(32, .box 48 [.int .i64 a2, .int .i64 a3, .int .i64 a4, .int .i64 a5]), (33, .box 213 [.int .i64 0, .int .i64 0, .int .i64 0, .int .i64 0]), (34, .box 213 [.int .i64 x1.1, .int .i64 v2, .int .i64 x1.2.2.1, .int .i64 x1.2.2.2])], 64⟩ ∧ s_l25Image_j4 a3 x1 v2 v3 = some r) hN ?_ ?_
           ·intro K hK; obtain ⟨x5, hv2, h⟩ := bO_inv h; rcases br_inv hv2 with ⟨hc15, hv2⟩ | ⟨hc15, hv2⟩
            ·cases hv2; simp only [EV, seval, hc15]; refine hK _ _ _ (show cutK _ _ _ from cutL ⟨_, rfl, h⟩ (Le_can [(32, some 32), (33, some 33), (34, some 34)] [] hρ (by kernel_rfl) ?_ ?_))
             ·simp only [AL, EV, seval, hc15]
             ·simp only [AL, EV, seval, hc15]
            ·cases hv2; simp only [EV, seval, hc15]; refine hK _ _ _ (show cutK _ _ _ from cutL ⟨_, rfl, h⟩ (Le_can [(32, some 32), (33, some 33), (34, some 34)] [] hρ (by kernel_rfl) ?_ ?_))
             ·simp only [AL, EV, seval, hc15]
             ·simp only [AL, EV, seval, hc15]
           ·rintro S ⟨v3, rfl, h⟩; unfold s_l25Image_j4 at h; refine AB h (fun hc16 h => ?_) fun hc16 h => ?_
            ·refine AS hN fun K hK => ?_; obtain ⟨h5, h⟩ := gd_inv h; replace h5 := of_decide_eq_true h5; simp only [EV, seval, h5]; refine hK _ _ _ (show cutK _ _ _ from cutL ⟨_, _, _, rfl, h⟩ (Le_can [(32, some 33), (33, some 34)] [] hρ (by kernel_rfl) ?_ ?_))
             ·simp only [AL, EV, seval, h5]
             ·simp only [AL, EV, seval, h5]
            ·refine AW_skip (show cutK _ _ _ from cutL ⟨_, _, _, rfl, h⟩ (Le_can [(32, some 33), (33, some 34)] [] hρ (by kernel_rfl) ?_ ?_))
             ·simp only [AL, EV, seval]
             ·simp only [AL, EV, seval]
         ·refine AN hN ?_; refine AB h (fun hc17 h => ?_) fun hc17 h => ?_
          ·refine AN hN ?_; refine AB h (fun hc18 h => ?_) fun hc18 h => ?_
           ·refine AS hN fun K hK => ?_; obtain ⟨h6, h⟩ := gd_inv h; replace h6 := of_decide_eq_true h6; simp only [EV, seval, h6]; refine hK _ _ _ (show cutK _ _ _ from cutL ⟨_, _, _, rfl, h⟩ (Le_can [(32, some 80), (33, some 1152)] [] hρ (by kernel_rfl) ?_ ?_))
            ·simp only [AL, EV, seval, h6]
            ·simp only [AL, EV, seval, h6]
           ·refine AW_skip (show cutK _ _ _ from cutL ⟨_, _, _, rfl, h⟩ (Le_can [(32, some 80), (33, some 1152)] [] hρ (by kernel_rfl) ?_ ?_))
            ·simp only [AL, EV, seval]
            ·simp only [AL, EV, seval]
          ·refine AN hN ?_; refine AB h (fun hc19 h => ?_) fun hc19 h => ?_
           ·obtain ⟨x6, h7, h⟩ := bO_inv h; refine AP hN (s_l25Single_ok h7) ?_; injection h with h; subst h; exact AX (b' := 64) [(8, .ptr 32 0)] [(32, .box 213 [.int .i64 x6.1, .int .i64 x6.2.1, .int .i64 x6.2.2.1, .int .i64 x6.2.2.2])] [(32, some 80)] [] hρ (EQ [])
           ·refine AW_skip (show cutK _ _ _ from cutL ⟨_, _, _, rfl, h⟩ (Le_can [(32, some 80), (33, some 1152)] [] hρ (by kernel_rfl) ?_ ?_))
            ·simp only [AL, EV, seval]
            ·simp only [AL, EV, seval]
  ·rintro S ⟨v4, v5, v6, rfl, h⟩; unfold s_l25Image_j1 at h; refine AN hN ?_; injection h with h; subst h; exact AX (b' := 64) [(8, .ptr 32 0)] [(32, .box 213 [.int .i64 x1.1, .int .i64 v4, .int .i64 v5, .int .i64 v6])] [(32, some 32)] [] hρ (EQ [])
/- spec.ConjugatePauli -/
def s_ConjugatePauli_j7 (v23 : Int) (kl1 : Int → Int → Int → Int → Int → Option (Int × Int × Int × Int × Bool)) (v32 v33 v34 v35 : Int) : Option (Int × Int × Int × Int × Bool) :=
  kl1 (IntKind.wrap .i64 (v23 + 1)) v32 v33 v34 v35
def s_ConjugatePauli_j8 (a1 a3 a5 a6 a7 a8 v23 : Int) (kl1 : Int → Int → Int → Int → Int → Option (Int × Int × Int × Int × Bool)) (v28 v29 v30 v31 : Int) : Option (Int × Int × Int × Int × Bool) :=
  gd (decide (¬ (IntKind.wrap .u64 v23) < 0)) (br ((bits .and .i64 (Int.fdiv a3 (2 ^ min (Int.toNat (IntKind.wrap .u64 v23)) (IntKind.bits .i64))) 1) == 1) (bO (s_l25Image a1 a5 a6 a7 a8 v23 true) fun x21 => bO (s_MulPauli v28 v29 v30 v31 x21.1 x21.2.1 x21.2.2.1 x21.2.2.2) fun x22 => s_ConjugatePauli_j7 v23 kl1 x22.1 x22.2.1 x22.2.2.1 x22.2.2.2.1) (s_ConjugatePauli_j7 v23 kl1 v28 v29 v30 v31))
def s_ConjugatePauli_j2 (v36 v37 v38 v39 : Int) : Option (Int × Int × Int × Int × Bool) :=
  some (v36, v37, v38, v39, true)
def s_ConjugatePauli_l1 (a1 a2 a3 a5 a6 a7 a8 : Int) : Nat → Int → Int → Int → Int → Int → Option (Int × Int × Int × Int × Bool)
  | 0, _, _, _, _, _ => none
  | n1 + 1, v23, v24, v25, v26, v27 =>
  br (decide (v23 < a1)) (gd (decide (¬ (IntKind.wrap .u64 v23) < 0)) (br ((bits .and .i64 (Int.fdiv a2 (2 ^ min (Int.toNat (IntKind.wrap .u64 v23)) (IntKind.bits .i64))) 1) == 1) (bO (s_l25Image a1 a5 a6 a7 a8 v23 false) fun x19 => bO (s_MulPauli v24 v25 v26 v27 x19.1 x19.2.1 x19.2.2.1 x19.2.2.2) fun x20 => s_ConjugatePauli_j8 a1 a3 a5 a6 a7 a8 v23 (s_ConjugatePauli_l1 a1 a2 a3 a5 a6 a7 a8 n1) x20.1 x20.2.1 x20.2.2.1 x20.2.2.2.1) (s_ConjugatePauli_j8 a1 a3 a5 a6 a7 a8 v23 (s_ConjugatePauli_l1 a1 a2 a3 a5 a6 a7 a8 n1) v24 v25 v26 v27))) (s_ConjugatePauli_j2 v24 v25 v26 v27)
def s_ConjugatePauli_j1 (a1 a2 a3 a4 a5 a6 a7 a8 : Int) (v1 : Bool) : Option (Int × Int × Int × Int × Bool) :=
  br v1 (some (0, 0, 0, 0, false)) (s_ConjugatePauli_l1 a1 a2 a3 a5 a6 a7 a8 FU 0 a1 0 0 a4)
def s_ConjugatePauli (a1 a2 a3 a4 a5 a6 a7 a8 : Int) : Option (Int × Int × Int × Int × Bool) :=
  bO (s_IsValidPauli a1 a2 a3 a4) fun x1 => bO (br (!x1) (some true) (bO (s_IsValidGate a5 a6 a7 a8 a1) fun x2 => some (!x2))) fun x3 => bO (br x3 (some true) (bO (s_IsClifford a5 a6 a7 a8) fun x4 => some (!x4))) fun x5 => s_ConjugatePauli_j1 a1 a2 a3 a4 a5 a6 a7 a8 x5
theorem s_ConjugatePauli_ok {a1 a2 a3 a4 a5 a6 a7 a8 : Int} {r : Int × Int × Int × Int × Bool} (h : s_ConjugatePauli a1 a2 a3 a4 a5 a6 a7 a8 = some r) :
    Spec Tryz.prog 204 [.agg [.int .i64 a1, .int .i64 a2, .int .i64 a3, .int .i64 a4], .agg [.int .i64 a5, .int .i64 a6, .int .i64 a7, .int .i64 a8]] [] (.tup [.agg [.int .i64 r.1, .int .i64 r.2.1, .int .i64 r.2.2.1, .int .i64 r.2.2.2.1], .bool r.2.2.2.2]) [] := by
 unfold s_ConjugatePauli at h; refine SO Tryz.func204 rfl Tryz.ntmps204 fun C hN hρ => ?_; simp only [st0, tmps0, Nat.zero_add, Nat.reduceAdd]; refine AN hN ?_; refine AW_seq ?_; refine AJ (fun S => ∃ (v1 : Bool), S = ⟨mkT [(2, .ptr 32 0), (3, .ptr 33 0), (4, .ptr 34 0), (22, .bool v1)], mkR [(32, .box 213 [.int .i64 a1, .int .i64 a2, .int .i64 a3, .int .i64 a4]), (33, .box 48 [.int .i64 a5, .int .i64 a6, .int .i64 a7, .int .i64 a8]), (34, .box 213 [.int .i64 0, .int .i64 0, .int .i64 0, .int .i64 0])], 64⟩ ∧ s_ConjugatePauli_j1 a1 a2 a3 a4 a5 a6 a7 a8 v1 = some r) hN ?_ ?_
 ·intro K hK; obtain ⟨x1, h1, h⟩ := bO_inv h; simp only [EV, seval]; refine CP (s_IsValidPauli_ok h1) ?_; obtain ⟨x3, hv1, h⟩ := bO_inv h; rcases br_inv hv1 with ⟨hc1, hv1⟩ | ⟨hc1, hv1⟩
  ·cases hv1; obtain ⟨x6, hv3, h⟩ := bO_inv h; replace hv3 := br_t hv3; cases hv3; (try dsimp only at h); simp only [EV, seval, hc1]; refine hK _ _ _ (show cutK _ _ _ from cutL ⟨_, rfl, h⟩ (Le_can [(32, some 64), (33, some 80), (34, some 96)] [] hρ (by kernel_rfl) ?_ ?_))
   ·simp only [AL, EV, seval, hc1]
   ·simp only [AL, EV, seval, hc1]
  ·obtain ⟨x7, h4, hv1⟩ := bO_inv hv1; simp only [EV, seval, hc1]; refine rC_p (s_IsValidGate_ok h4) (by simp only [AL, EV, seval, hc1]) (le_d rfl) (no_j rfl) ?_; cases hv1; obtain ⟨x9, hv4, h⟩ := bO_inv h; rcases br_inv hv4 with ⟨hc3, hv4⟩ | ⟨hc3, hv4⟩
   ·cases hv4; simp only [EV, seval, hc1, hc3]; refine hK _ _ _ (show cutK _ _ _ from cutL ⟨_, rfl, h⟩ (Le_can [(32, some 64), (33, some 80), (34, some 96)] [] hρ (by kernel_rfl) ?_ ?_))
    ·simp only [AL, EV, seval, hc1, hc3]
    ·simp only [AL, EV, seval, hc1, hc3]
   ·obtain ⟨x10, h6, hv4⟩ := bO_inv hv4; simp only [EV, seval, hc1, hc3]; refine rC_p (s_IsClifford_ok h6) (by simp only [AL, EV, seval, hc1, hc3]) (le_d rfl) (no_j rfl) ?_; cases hv4; simp only [EV, seval, hc1, hc3]; refine hK _ _ _ (show cutK _ _ _ from cutL ⟨_, rfl, h⟩ (Le_can [(32, some 64), (33, some 80), (34, some 96)] [] hρ (by kernel_rfl) ?_ ?_))
    ·simp only [AL, EV, seval, hc1, hc3]
    ·simp only [AL, EV, seval, hc1, hc3]
 ·rintro S ⟨v1, rfl, h⟩; unfold s_ConjugatePauli_j1 at h; refine AB h (fun hc4 h => ?_) fun hc4 h => ?_
  ·refine AN hN ?_; injection h with h; subst h; exact AX (b' := 64) [(4, .ptr 32 0), (5, .bool false)] [(32, .box 213 [.int .i64 0, .int .i64 0, .int .i64 0, .int .i64 0])] [(32, some 34)] [] hρ (EQ [])
  ·refine AW_skip (AK ?_); refine AN hN ?_; refine AW_cutK (fun S => ∃ (v36 v37 v38 v39 : Int), S = ⟨mkT [(4, .ptr 32 0), (6, .ptr 33 0)], mkR [(32, .box 213 [.int .i64 0, .int .i64 0, .int .i64 0, .int .i64 0]), (33, .box 213 [.int .i64 v36, .int .i64 v37, .int .i64 v38, .int .i64 v39])], 64⟩ ∧ s_ConjugatePauli_j2 v36 v37 v38 v39 = some r) ?_ ?_
   ·refine AN hN ?_; refine AW_block ?_; refine AW_loopF (fun n S => ∃ (v23 v24 v25 v26 v27 : Int), S = ⟨mkT [(2, .ptr 32 0), (3, .ptr 33 0), (4, .ptr 34 0), (6, .ptr 35 0), (7, .int .i64 v23)], mkR [(32, .box 213 [.int .i64 a1, .int .i64 a2, .int .i64 a3, .int .i64 a4]), (33, .box 48 [.int .i64 a5, .int .i64 a6, .int .i64 a7, .int .i64 a8]), (34, .box 213 [.int .i64 0, .int .i64 0, .int .i64 0, .int .i64 0]), (35, .box 213 [.int .i64 v24, .int .i64 v25, .int .i64 v26, .int .i64 v27])], 64⟩ ∧ s_ConjugatePauli_l1 a1 a2 a3 a5 a6 a7 a8 n v23 v24 v25 v26 v27 = some r) FU ?_ ?_ ?_
    ·exact AC ⟨_, _, _, _, _, rfl, h⟩ [(32, some 32), (33, some 33), (34, some 34), (35, some 144)] [] hρ
    ·rintro S ⟨_, _, _, _, _, _, h⟩; rw [s_ConjugatePauli_l1] at h; cases h
    ·rintro n1 S ⟨v23, v24, v25, v26, v27, rfl, h⟩; rw [s_ConjugatePauli_l1] at h; refine AW_seq ?_; refine AN hN ?_; refine AB h (fun hc11 h => ?_) fun hc11 h => ?_
     ·refine AW_skip (AK ?_); refine AW_cutK (fun S => ∃ (v32 v33 v34 v35 : Int), S = ⟨mkT [(2, .ptr 32 0), (3, .ptr 33 0), (4, .ptr 34 0), (6, .ptr 35 0), (7, .int .i64 v23)], mkR [(32, .box 213 [.int .i64 a1, .int .i64 a2, .int .i64 a3, .int .i64 a4]), (33, .box 48 [.int .i64 a5, .int .i64 a6, .int .i64 a7, .int .i64 a8]), (34, .box 213 [.int .i64 0, .int .i64 0, .int .i64 0, .int .i64 0]), (35, .box 213 [.int .i64 v32, .int .i64 v33, .int .i64 v34, .int .i64 v35])], 64⟩ ∧ s_ConjugatePauli_j7 v23 (s_ConjugatePauli_l1 a1 a2 a3 a5 a6 a7 a8 n1) v32 v33 v34 v35 = some r) ?_ ?_
      ·refine AW_block ?_; refine AW_cutK (fun S => ∃ (v28 v29 v30 v31 : Int), S = ⟨mkT [(2, .ptr 32 0), (3, .ptr 33 0), (4, .ptr 34 0), (6, .ptr 35 0), (7, .int .i64 v23)], mkR [(32, .box 213 [.int .i64 a1, .int .i64 a2, .int .i64 a3, .int .i64 a4]), (33, .box 48 [.int .i64 a5, .int .i64 a6, .int .i64 a7, .int .i64 a8]), (34, .box 213 [.int .i64 0, .int .i64 0, .int .i64 0, .int .i64 0]), (35, .box 213 [.int .i64 v28, .int .i64 v29, .int .i64 v30, .int .i64 v31])], 64⟩ ∧ s_ConjugatePauli_j8 a1 a3 a5 a6 a7 a8 v23 (s_ConjugatePauli_l1 a1 a2 a3 a5 a6 a7 a8 n1) v28 v29 v30 v31 = some r) ?_ ?_
       ·refine AR hN fun K hK => ?_; obtain ⟨h19, h⟩ := gd_inv h; replace h19 := of_decide_eq_true h19; simp only [EV, seval, h19]; refine hK _ _ _ ?_; clear hK K; refine AW_condK (a := .bool ((bits .and .i64 (Int.fdiv a2 (2 ^ min (Int.toNat (IntKind.wrap .u64 v23)) (IntKind.bits .i64))) 1) == 1)) (by simp only [EV, seval, h19]) (brK h (fun hc12 h => ?_) (fun hc12 h => ?_))
        ·refine AS hN fun K hK => ?_; obtain ⟨x19, h20, h⟩ := bO_inv h; simp only [EV, seval]; refine CP (s_l25Image_ok h20) ?_; obtain ⟨x20, h21, h⟩ := bO_inv h; simp only [EV, seval]; refine CP (s_MulPauli_ok h21) ?_; simp only [EV, seval]; exact hK _ _ _ (AC ⟨_, _, _, _, rfl, h⟩ [(32, some 32), (33, some 33), (34, some 34), (35, some 35)] [] hρ)
        ·refine AW_skip (show cutK _ _ _ from cutL ⟨_, _, _, _, rfl, h⟩ (Le_can [(32, some 32), (33, some 33), (34, some 34), (35, some 35)] [] hρ (by kernel_rfl) ?_ ?_))
         ·simp only [AL, EV, seval, h19]
         ·simp only [AL, EV, seval, h19]
       ·rintro S ⟨v28, v29, v30, v31, rfl, h⟩; unfold s_ConjugatePauli_j8 at h; refine AR hN fun K hK => ?_; obtain ⟨h22, h⟩ := gd_inv h; replace h22 := of_decide_eq_true h22; simp only [EV, seval, h22]; refine hK _ _ _ ?_; clear hK K; refine AW_condK (a := .bool ((bits .and .i64 (Int.fdiv a3 (2 ^ min (Int.toNat (IntKind.wrap .u64 v23)) (IntKind.bits .i64))) 1) == 1)) (by simp only [EV, seval, h22]) (brK h (fun hc13 h => ?_) (fun hc13 h => ?_))
        ·refine AS hN fun K hK => ?_; obtain ⟨x21, h23, h⟩ := bO_inv h; simp only [EV, seval]; refine CP (s_l25Image_ok h23) ?_; obtain ⟨x22, h24, h⟩ := bO_inv h; simp only [EV, seval]; refine CP (s_MulPauli_ok h24) ?_; simp only [EV, seval]; exact hK _ _ _ (AC ⟨_, _, _, _, rfl, h⟩ [(32, some 32), (33, some 33), (34, some 34), (35, some 35)] [] hρ)
        ·refine AW_skip (show cutK _ _ _ from cutL ⟨_, _, _, _, rfl, h⟩ (Le_can [(32, some 32), (33, some 33), (34, some 34), (35, some 35)] [] hρ (by kernel_rfl) ?_ ?_))
         ·simp only [AL, EV, seval, h22]
         ·simp only [AL, EV, seval, h22]
      ·rintro S ⟨v32, v33, v34, v35, rfl, h⟩; unfold s_ConjugatePauli_j7 at h; refine AS hN fun K hK => ?_; simp only [EV, seval]; exact hK _ _ _ (AC ⟨_, _, _, _, _, rfl, h⟩ [(32, some 32), (33, some 33), (34, some 34), (35, some 35)] [] hρ)
     ·exact AW_exit (AC ⟨_, _, _, _, rfl, h⟩ [(32, some 34), (33, some 35)] [] hρ)
   ·rintro S ⟨v36, v37, v38, v39, rfl, h⟩; unfold s_ConjugatePauli_j2 at h; refine AN hN ?_; injection h with h; subst h; exact AX (b' := 64) [(4, .ptr 32 0), (5, .bool true)] [(32, .box 213 [.int .i64 v36, .int .i64 v37, .int .i64 v38, .int .i64 v39])] [(32, some 32)] [] hρ (EQ [])
/- impl.Arity -/
def i_Arity (a1 : Int) : Option Int :=
  bO (i_in a1 1 8) fun x1 => br x1 (some 1) (bO (i_in a1 9 11) fun x2 => br x2 (some 2) (br (a1 == 12) (some 3) (some 0)))
theorem i_Arity_ok {a1 r : Int} (h : i_Arity a1 = some r) :
    Spec Tryz.prog 39 [.int .i64 a1] [] (.int .i64 r) [] := by
 unfold i_Arity at h; refine SO Tryz.func39 rfl Tryz.ntmps39 fun C hN hρ => ?_; simp only [st0, tmps0, Nat.zero_add, Nat.reduceAdd]; refine AN hN ?_; refine AW_seq ?_; refine AW_block ?_; obtain ⟨x1, h1, h⟩ := bO_inv h; refine AP hN (i_in_ok h1) ?_; refine AB h (fun hc1 h => ?_) fun hc1 h => ?_
 ·refine AN hN ?_; injection h with h; subst h; exact AX (b' := 64) [(2, .int .i64 1)] [] [] [] hρ (EQ [])
 ·obtain ⟨x2, h2, h⟩ := bO_inv h; refine AP hN (i_in_ok h2) ?_; refine AB h (fun hc2 h => ?_) fun hc2 h => ?_
  ·refine AN hN ?_; injection h with h; subst h; exact AX (b' := 64) [(2, .int .i64 2)] [] [] [] hρ (EQ [])
  ·refine AN hN ?_; refine AB h (fun hc3 h => ?_) fun hc3 h => ?_
   ·refine AN hN ?_; injection h with h; subst h; exact AX (b' := 64) [(2, .int .i64 3)] [] [] [] hρ (EQ [])
   ·refine AW_skip (AK ?_); refine AN hN ?_; injection h with h; subst h; exact AX (b' := 64) [(2, .int .i64 0)] [] [] [] hρ (EQ [])
/- impl.IsClifford -/
def i_IsClifford_j1 (v1 : Bool) : Option Bool :=
  some v1
def i_IsClifford (a1 a2 a3 a4 : Int) : Option Bool :=
  bO (i_Arity a1) fun x1 => bO (br (x1 != 0) (some (a1 != 7)) (some false)) fun x2 => bO (br x2 (some (a1 != 8)) (some false)) fun x3 => bO (br x3 (some (a1 != 12)) (some false)) fun x4 => i_IsClifford_j1 x4
theorem i_IsClifford_ok {a1 a2 a3 a4 : Int} {r : Bool} (h : i_IsClifford a1 a2 a3 a4 = some r) :
    Spec Tryz.prog 223 [.agg [.int .i64 a1, .int .i64 a2, .int .i64 a3, .int .i64 a4]] [] (.bool r) [] := by
 unfold i_IsClifford at h; refine SO Tryz.func223 rfl Tryz.ntmps223 fun C hN hρ => ?_; simp only [st0, tmps0, Nat.zero_add, Nat.reduceAdd]; refine AN hN ?_; refine AJ (fun S => ∃ (v1 : Bool), S = ⟨mkT [(2, .bool v1)], mkR [], 64⟩ ∧ i_IsClifford_j1 v1 = some r) hN ?_ ?_
 ·intro K hK; obtain ⟨x1, h1, h⟩ := bO_inv h; simp only [EV, seval]; refine CP (i_Arity_ok h1) ?_; obtain ⟨x2, hv1, h⟩ := bO_inv h; rcases br_inv hv1 with ⟨hc1, hv1⟩ | ⟨hc1, hv1⟩
  ·cases hv1; obtain ⟨x5, hv4, h⟩ := bO_inv h; rcases br_inv hv4 with ⟨hc4, hv4⟩ | ⟨hc4, hv4⟩
   ·cases hv4; obtain ⟨x7, hv6, h⟩ := bO_inv h; rcases br_inv hv6 with ⟨hc6, hv6⟩ | ⟨hc6, hv6⟩
    ·cases hv6; simp only [EV, seval, hc1, hc4, hc6]; refine hK _ _ _ (show cutK _ _ _ from cutL ⟨_, rfl, h⟩ (Le_can [] [] hρ (by kernel_rfl) ?_ ?_))
     ·simp only [AL, EV, seval, hc1, hc4, hc6]
     ·simp only [AL, EV, seval, hc1, hc4, hc6]
    ·cases hv6; simp only [EV, seval, hc1, hc4, hc6]; refine hK _ _ _ (show cutK _ _ _ from cutL ⟨_, rfl, h⟩ (Le_can [] [] hρ (by kernel_rfl) ?_ ?_))
     ·simp only [AL, EV, seval, hc1, hc4, hc6]
     ·simp only [AL, EV, seval, hc1, hc4, hc6]
   ·cases hv4; obtain ⟨x8, hv7, h⟩ := bO_inv h; replace hv7 := br_f hv7; cases hv7; (try dsimp only at h); simp only [EV, seval, hc1, hc4]; refine hK _ _ _ (show cutK _ _ _ from cutL ⟨_, rfl, h⟩ (Le_can [] [] hρ (by kernel_rfl) ?_ ?_))
    ·simp only [AL, EV, seval, hc1, hc4]
    ·simp only [AL, EV, seval, hc1, hc4]
  ·cases hv1; obtain ⟨x9, hv8, h⟩ := bO_inv h; replace hv8 := br_f hv8; cases hv8; (try dsimp only at h); obtain ⟨x10, hv9, h⟩ := bO_inv h; replace hv9 := br_f hv9; cases hv9; (try dsimp only at h); simp only [EV, seval, hc1]; refine hK _ _ _ (show cutK _ _ _ from cutL ⟨_, rfl, h⟩ (Le_can [] [] hρ (by kernel_rfl) ?_ ?_))
   ·simp only [AL, EV, seval, hc1]
   ·simp only [AL, EV, seval, hc1]
 ·rintro S ⟨v1, rfl, h⟩; unfold i_IsClifford_j1 at h; injection h with h; subst h; exact AX (b' := 64) [(2, .bool v1)] [] [] [] hρ (EQ [])
/- impl.images -/
def i_images_j2 (a5 v8 v9 v10 v11 v12 : Int) : Option (Int × Int × Int × Int × Int × Int × Int × Int) :=
  some (a5, v8, v9, v10, a5, 0, v11, v12)
def i_images_j5 (a1 a2 a3 a5 : Int) (v1 : Bool) (v3 v4 : Int) (v7 : Bool) : Option (Int × Int × Int × Int × Int × Int × Int × Int) :=
  br v7 (gd (decide (¬ a3 < 0)) (i_images_j2 a5 v3 (IntKind.wrap .i64 (1 * 2 ^ min (Int.toNat a3) (IntKind.bits .i64))) 0 v4 0)) (br (a1 == 10) (gd (decide (¬ a2 < 0)) (i_images_j2 a5 v3 (IntKind.wrap .i64 (1 * 2 ^ min (Int.toNat a2) (IntKind.bits .i64))) 0 v4 0)) (br v1 (gd (decide (¬ a3 < 0)) (gd (decide (¬ a3 < 0)) (some (a5, IntKind.wrap .i64 (1 * 2 ^ min (Int.toNat a3) (IntKind.bits .i64)), 0, 0, a5, 0, IntKind.wrap .i64 (1 * 2 ^ min (Int.toNat a3) (IntKind.bits .i64)), 0)))) (gd (decide (¬ a2 < 0)) (gd (decide (¬ a2 < 0)) (some (a5, IntKind.wrap .i64 (1 * 2 ^ min (Int.toNat a2) (IntKind.bits .i64)), 0, 0, a5, 0, IntKind.wrap .i64 (1 * 2 ^ min (Int.toNat a2) (IntKind.bits .i64)), 0))))))
def i_images_j4 (a1 a2 a3 a5 : Int) (v1 : Bool) (v3 v4 : Int) (v6 : Bool) : Option (Int × Int × Int × Int × Int × Int × Int × Int) :=
  br v6 (gd (decide (¬ a3 < 0)) (i_images_j2 a5 (bits .or .i64 v3 (IntKind.wrap .i64 (1 * 2 ^ min (Int.toNat a3) (IntKind.bits .i64)))) 0 0 v4 0)) (br (a1 == 9) (gd (decide (¬ a2 < 0)) (i_images_j2 a5 v3 0 0 (bits .or .i64 v4 (IntKind.wrap .i64 (1 * 2 ^ min (Int.toNat a2) (IntKind.bits .i64)))) 0)) (bO (br (a1 == 10) (some v1) (some false)) fun x5 => i_images_j5 a1 a2 a3 a5 v1 v3 v4 x5))
def i_images_j3 (a1 a2 a3 a5 a6 : Int) (v1 : Bool) (v3 v4 : Int) (v5 : Bool) : Option (Int × Int × Int × Int × Int × Int × Int × Int) :=
  br v5 (i_images_j2 a5 v3 0 0 v4 0) (br (a1 == 1) (i_images_j2 a5 v3 0 0 v4 2) (br (a1 == 2) (i_images_j2 a5 v3 0 2 v4 2) (br (a1 == 3) (i_images_j2 a5 v3 0 2 v4 0) (br (a1 == 4) (some (a5, 0, v4, 0, a5, v3, 0, 0)) (br (a1 == 5) (gd (decide (¬ a6 < 0)) (i_images_j2 a5 v3 (IntKind.wrap .i64 (1 * 2 ^ min (Int.toNat a6) (IntKind.bits .i64))) 1 v4 0)) (br (a1 == 6) (gd (decide (¬ a6 < 0)) (i_images_j2 a5 v3 (IntKind.wrap .i64 (1 * 2 ^ min (Int.toNat a6) (IntKind.bits .i64))) 3 v4 0)) (bO (br (a1 == 9) (some v1) (some false)) fun x4 => i_images_j4 a1 a2 a3 a5 v1 v3 v4 x4)))))))
def i_images_j1 (a1 a2 a3 a5 a6 : Int) (v1 : Bool) (v2 : Bool) (v3 v4 : Int) : Option (Int × Int × Int × Int × Int × Int × Int × Int) :=
  bO (br (!v1) (some (!v2)) (some false)) fun x3 => i_images_j3 a1 a2 a3 a5 a6 v1 v3 v4 x3
def i_images (a1 a2 a3 a4 a5 a6 : Int) : Option (Int × Int × Int × Int × Int × Int × Int × Int) :=
  gd (decide (¬ a6 < 0)) (gd (decide (¬ a6 < 0)) (bO (i_Arity a1) fun x1 => bO (br (x1 == 2) (some (a6 == a3)) (some false)) fun x2 => i_images_j1 a1 a2 a3 a5 a6 (a6 == a2) x2 (IntKind.wrap .i64 (1 * 2 ^ min (Int.toNat a6) (IntKind.bits .i64))) (IntKind.wrap .i64 (1 * 2 ^ min (Int.toNat a6) (IntKind.bits .i64)))))
theorem i_images_ok {a1 a2 a3 a4 a5 a6 : Int} {r : Int × Int × Int × Int × Int × Int × Int × Int} (h : i_images a1 a2 a3 a4 a5 a6 = some r) :
    Spec Tryz.prog 224 [.agg [.int .i64 a1, .int .i64 a2, .int .i64 a3, .int .i64 a4], .int .i64 a5, .int .i64 a6] [] (.tup [.agg [.int .i64 r.1, .int .i64 r.2.1, .int .i64 r.2.2.1, .int .i64 r.2.2.2.1], .agg [.int .i64 r.2.2.2.2.1, .int .i64 r.2.2.2.2.2.1, .int .i64 r.2.2.2.2.2.2.1, .int .i64 r.2.2.2.2.2.2.2]]) [] := by
 unfold i_images at h; refine SO Tryz.func224 rfl Tryz.ntmps224 fun C hN hρ => ?_; simp only [st0, tmps0, Nat.zero_add, Nat.reduceAdd]; refine AN hN ?_; refine AR hN fun K hK => ?_; obtain ⟨h1, h⟩ := gd_inv h; replace h1 := of_decide_eq_true h1; simp only [EV, seval, h1]; refine hK _ _ _ ?_; clear hK K; refine AR hN fun K hK => ?_; obtain ⟨h2, h⟩ := gd_inv h; replace h2 := of_decide_eq_true h2; simp only [EV, seval, h2]; refine hK _ _ _ ?_; clear hK K; refine AN hN ?_; refine AJ (fun S => ∃ (v1 : Bool) (v2 : Bool) (v3 v4 : Int), S = ⟨mkT [(1, .int .i64 a5), (2, .int .i64 a6), (3, .ptr 32 0), (6, .ptr 33 0), (7, .ptr 34 0), (8, .ptr 35 0), (9, .ptr 36 0), (10, .bool v1), (11, .bool v2)], mkR [(32, .box 48 [.int .i64 a1, .int .i64 a2, .int .i64 a3, .int .i64 a4]), (33, .box 213 [.int .i64 0, .int .i64 0, .int .i64 0, .int .i64 0]), (34, .box 213 [.int .i64 0, .int .i64 0, .int .i64 0, .int .i64 0]), (35, .box 213 [.int .i64 a5, .int .i64 v3, .int .i64 0, .int .i64 0]), (36, .box 213 [.int .i64 a5, .int .i64 0, .int .i64 v4, .int .i64 0])], 64⟩ ∧ i_images_j1 a1 a2 a3 a5 a6 v1 v2 v3 v4 = some r) hN ?_ ?_
 ·intro K hK; obtain ⟨x1, h3, h⟩ := bO_inv h; simp only [EV, seval]; refine CP (i_Arity_ok h3) ?_; obtain ⟨x2, hv1, h⟩ := bO_inv h; rcases br_inv hv1 with ⟨hc1, hv1⟩ | ⟨hc1, hv1⟩
  ·cases hv1; simp only [EV, seval, hc1]; refine hK _ _ _ (show cutK _ _ _ from cutL ⟨_, _, _, _, rfl, h⟩ (Le_can [(32, some 64), (33, some 80), (34, some 96), (35, some 1152), (36, some 2176)] [] hρ (by kernel_rfl) ?_ ?_))
   ·simp only [AL, EV, seval, hc1]
   ·simp only [AL, EV, seval, hc1]
  ·cases hv1; simp only [EV, seval, hc1]; refine hK _ _ _ (show cutK _ _ _ from cutL ⟨_, _, _, _, rfl, h⟩ (Le_can [(32, some 64), (33, some 80), (34, some 96), (35, some 1152), (36, some 2176)] [] hρ (by kernel_rfl) ?_ ?_))
   ·simp only [AL, EV, seval, hc1]
   ·simp only [AL, EV, seval, hc1]
 ·rintro S ⟨v1, v2, v3, v4, rfl, h⟩; unfold i_images_j1 at h; refine AW_cutK (fun S => ∃ (v8 v9 v10 v11 v12 : Int), S = ⟨mkT [(6, .ptr 32 0), (7, .ptr 33 0), (8, .ptr 34 0), (9, .ptr 35 0)], mkR [(32, .box 213 [.int .i64 0, .int .i64 0, .int .i64 0, .int .i64 0]), (33, .box 213 [.int .i64 0, .int .i64 0, .int .i64 0, .int .i64 0]), (34, .box 213 [.int .i64 a5, .int .i64 v8, .int .i64 v9, .int .i64 v10]), (35, .box 213 [.int .i64 a5, .int .i64 0, .int .i64 v11, .int .i64 v12])], 64⟩ ∧ i_images_j2 a5 v8 v9 v10 v11 v12 = some r) ?_ ?_
  ·refine AW_block ?_; refine AJ (fun S => ∃ (v5 : Bool), S = ⟨mkT [(1, .int .i64 a5), (2, .int .i64 a6), (3, .ptr 32 0), (6, .ptr 33 0), (7, .ptr 34 0), (8, .ptr 35 0), (9, .ptr 36 0), (10, .bool v1), (44, .bool v5)], mkR [(32, .box 48 [.int .i64 a1, .int .i64 a2, .int .i64 a3, .int .i64 a4]), (33, .box 213 [.int .i64 0, .int .i64 0, .int .i64 0, .int .i64 0]), (34, .box 213 [.int .i64 0, .int .i64 0, .int .i64 0, .int .i64 0]), (35, .box 213 [.int .i64 a5, .int .i64 v3, .int .i64 0, .int .i64 0]), (36, .box 213 [.int .i64 a5, .int .i64 0, .int .i64 v4, .int .i64 0])], 64⟩ ∧ i_images_j3 a1 a2 a3 a5 a6 v1 v3 v4 v5 = some r) hN ?_ ?_
   ·intro K hK; obtain ⟨x3, hv2, h⟩ := bO_inv h; rcases br_inv hv2 with ⟨hc2, hv2⟩ | ⟨hc2, hv2⟩
    ·cases hv2; simp only [EV, seval, hc2]; refine hK _ _ _ (show cutK _ _ _ from cutL ⟨_, rfl, h⟩ (Le_can [(32, some 32), (33, some 33), (34, some 34), (35, some 35), (36, some 36)] [] hρ (by kernel_rfl) ?_ ?_))
     ·simp only [AL, EV, seval, hc2]
     ·simp only [AL, EV, seval, hc2]
    ·cases hv2; simp only [EV, seval, hc2]; refine hK _ _ _ (show cutK _ _ _ from cutL ⟨_, rfl, h⟩ (Le_can [(32, some 32), (33, some 33), (34, some 34), (35, some 35), (36, some 36)] [] hρ (by kernel_rfl) ?_ ?_))
     ·simp only [AL, EV, seval, hc2]
     ·simp only [AL, EV, seval, hc2]
   ·rintro S ⟨v5, rfl, h⟩; unfold i_images_j3 at h; refine AB h (fun hc3 h => ?_) fun hc3 h => ?_
    ·refine AW_skip (show cutK _ _ _ from cutL ⟨_, _, _, _, _, rfl, h⟩ (Le_can [(32, some 33), (33, some 34), (34, some 35), (35, some 36)] [] hρ (by kernel_rfl) ?_ ?_))
     ·simp only [AL, EV, seval]
     ·simp only [AL, EV, seval]
    ·refine AN hN ?_; refine AB h (fun hc4 h => ?_) fun hc4 h => ?_
     ·refine AS hN fun K hK => ?_; simp only [EV, seval]; exact hK _ _ _ (AC ⟨_, _, _, _, _, rfl, h⟩ [(32, some 33), (33, some 34), (34, some 35), (35, some 36)] [] hρ)
     ·refine AN hN ?_; refine AB h (fun hc5 h => ?_) fun hc5 h => ?_
      ·refine AN hN ?_; refine AS hN fun K hK => ?_; simp only [EV, seval]; exact hK _ _ _ (AC ⟨_, _, _, _, _, rfl, h⟩ [(32, some 33), (33, some 34), (34, some 35), (35, some 36)] [] hρ)
      ·refine AN hN ?_; refine AB h (fun hc6 h => ?_) fun hc6 h => ?_
       ·refine AS hN fun K hK => ?_; simp only [EV, seval]; exact hK _ _ _ (AC ⟨_, _, _, _, _, rfl, h⟩ [(32, some 33), (33, some 34), (34, some 35), (35, some 36)] [] hρ)
       ·refine AN hN ?_; refine AB h (fun hc7 h => ?_) fun hc7 h => ?_
        ·refine AW_rsT (BR := BR) [(1, [35]), (2, [33])] (by kernel_rfl) FM (by rw [hN]; kernel_rfl) (by kernel_rfl) ?_; intro K hK; simp only [AE, AT, TY, EN, seval]; refine hK _ _ _ ?_; clear hK K; injection h with h; subst h; exact AX (b' := 64) [(6, .ptr 32 0), (7, .ptr 33 0)] [(32, .box 213 [.int .i64 a5, .int .i64 0, .int .i64 v4, .int .i64 0]), (33, .box 213 [.int .i64 a5, .int .i64 v3, .int .i64 0, .int .i64 0])] [(32, some 33), (33, some 34)] [] hρ (EQ [])
        ·refine AN hN ?_; refine AB h (fun hc8 h => ?_) fun hc8 h => ?_
         ·refine AR hN fun K hK => ?_; obtain ⟨h4, h⟩ := gd_inv h; replace h4 := of_decide_eq_true h4; simp only [EV, seval, h4]; refine hK _ _ _ ?_; clear hK K; refine AS hN fun K hK => ?_; simp only [EV, seval]; exact hK _ _ _ (AC ⟨_, _, _, _, _, rfl, h⟩ [(32, some 33), (33, some 34), (34, some 35), (35, some 36)] [] hρ)
         ·refine AN hN ?_; refine AB h (fun hc9 h => ?_) fun hc9 h => ?_
          ·refine AR hN fun K hK => ?_; obtain ⟨h5, h⟩ := gd_inv h; replace h5 := of_decide_eq_true h5; simp only [EV, seval, h5]; refine hK _ _ _ ?_; clear hK K; refine AS hN fun K hK => ?_; simp only [EV, seval]; exact hK _ _ _ (AC ⟨_, _, _, _, _, rfl, h⟩ [(32, some 33), (33, some 34), (34, some 35), (35, some 36)] [] hρ)
          ·refine AJ (fun S => ∃ (v6 : Bool), S = ⟨mkT [(1, .int .i64 a5), (3, .ptr 32 0), (6, .ptr 33 0), (7, .ptr 34 0), (8, .ptr 35 0), (9, .ptr 36 0), (10, .bool v1), (89, .bool v6)], mkR [(32, .box 48 [.int .i64 a1, .int .i64 a2, .int .i64 a3, .int .i64 a4]), (33, .box 213 [.int .i64 0, .int .i64 0, .int .i64 0, .int .i64 0]), (34, .box 213 [.int .i64 0, .int .i64 0, .int .i64 0, .int .i64 0]), (35, .box 213 [.int .i64 a5, .int .i64 v3, .int .i64 0, .int .i64 0]), (36, .box 213 [.int .i64 a5, .int .i64 0, .int .i64 v4, .int .i64 0])], 64⟩ ∧ i_images_j4 a1 a2 a3 a5 v1 v3 v4 v6 = some r) hN ?_ ?_
           ·intro K hK; obtain ⟨x4, hv3, h⟩ := bO_inv h; rcases br_inv hv3 with ⟨hc10, hv3⟩ | ⟨hc10, hv3⟩
            ·cases hv3; simp only [EV, seval, hc10]; refine hK _ _ _ (show cutK _ _ _ from cutL ⟨_, rfl, h⟩ (Le_can [(32, some 32), (33, some 33), (34, some 34), (35, some 35), (36, some 36)] [] hρ (by kernel_rfl) ?_ ?_))
             ·simp only [AL, EV, seval, hc10]
             ·simp only [AL, EV, seval, hc10]
            ·cases hv3; simp only [EV, seval, hc10]; refine hK _ _ _ (show cutK _ _ _ from cutL ⟨_, rfl, h⟩ (Le_can [(32, some 32), (33, some 33), (34, some 34), (35, some 35), (36, some 36)] [] hρ (by kernel_rfl) ?_ ?_))
             ·simp only [AL, EV, seval, hc10]
             ·simp only [AL, EV, seval, hc10]
           ·rintro S ⟨v6, rfl, h⟩; unfold i_images_j4 at h; refine AB h (fun hc11 h => ?_) fun hc11 h => ?_
            ·refine AS hN fun K hK => ?_; obtain ⟨h6, h⟩ := gd_inv h; replace h6 := of_decide_eq_true h6; simp only [EV, seval, h6]; refine hK _ _ _ (show cutK _ _ _ from cutL ⟨_, _, _, _, _, rfl, h⟩ (Le_can [(32, some 33), (33, some 34), (34, some 35), (35, some 36)] [] hρ (by kernel_rfl) ?_ ?_))
             ·simp only [AL, EV, seval, h6]
             ·simp only [AL, EV, seval, h6]
            ·refine AN hN ?_; refine AB h (fun hc12 h => ?_) fun hc12 h => ?_
             ·refine AS hN fun K hK => ?_; obtain ⟨h7, h⟩ := gd_inv h; replace h7 := of_decide_eq_true h7; simp only [EV, seval, h7]; refine hK _ _ _ (show cutK _ _ _ from cutL ⟨_, _, _, _, _, rfl, h⟩ (Le_can [(32, some 33), (33, some 34), (34, some 35), (35, some 36)] [] hρ (by kernel_rfl) ?_ ?_))
              ·simp only [AL, EV, seval, h7]
              ·simp only [AL, EV, seval, h7]
             ·refine AJ (fun S => ∃ (v7 : Bool), S = ⟨mkT [(1, .int .i64 a5), (3, .ptr 32 0), (6, .ptr 33 0), (7, .ptr 34 0), (8, .ptr 35 0), (9, .ptr 36 0), (10, .bool v1), (114, .bool v7)], mkR [(32, .box 48 [.int .i64 a1, .int .i64 a2, .int .i64 a3, .int .i64 a4]), (33, .box 213 [.int .i64 0, .int .i64 0, .int .i64 0, .int .i64 0]), (34, .box 213 [.int .i64 0, .int .i64 0, .int .i64 0, .int .i64 0]), (35, .box 213 [.int .i64 a5, .int .i64 v3, .int .i64 0, .int .i64 0]), (36, .box 213 [.int .i64 a5, .int .i64 0, .int .i64 v4, .int .i64 0])], 64⟩ ∧ i_images_j5 a1 a2 a3 a5 v1 v3 v4 v7 = some r) hN ?_ ?_
              ·intro K hK; obtain ⟨x5, hv4, h⟩ := bO_inv h; rcases br_inv hv4 with ⟨hc13, hv4⟩ | ⟨hc13, hv4⟩
               ·cases hv4; simp only [EV, seval, hc13]; refine hK _ _ _ (show cutK _ _ _ from cutL ⟨_, rfl, h⟩ (Le_can [(32, some 32), (33, some 33), (34, some 34), (35, some 35), (36, some 36)] [] hρ (by kernel_rfl) ?_ ?_))
                ·simp only [AL, EV, seval, hc13]
                ·simp only [AL, EV, seval, hc13]
               ·cases hv4; simp only [EV, seval, hc13]; refine hK _ _ _ (show cutK _ _ _ from cutL ⟨_, rfl, h⟩ (Le_can [(32, some 32), (33, some 33), (34, some 34), (35, some 35), (36, some 36)] [] hρ (by kernel_rfl) ?_ ?_))
                ·simp only [AL, EV, seval, hc13]
                ·simp only [AL, EV, seval, hc13]
              ·rintro S ⟨v7, rfl, h⟩; unfold i_images_j5 at h; refine AB h (fun hc14 h => ?_) fun hc14 h => ?_
               ·refine AS hN fun K hK => ?_; obtain ⟨h8, h⟩ := gd_inv h; replace h8 := of_decide_eq_true h8; simp only [EV, seval, h8]; refine hK _ _ _ (show cutK _ _ _ from cutL ⟨_, _, _, _, _, rfl, h⟩ (Le_can [(32, some 33), (33, some 34), (34, some 35), (35, some 36)] [] hρ (by kernel_rfl) ?_ ?_))
                ·simp only [AL, EV, seval, h8]
                ·simp only [AL, EV, seval, h8]
               ·refine AN hN ?_; refine AB h (fun hc15 h => ?_) fun hc15 h => ?_
                ·refine AS hN fun K hK => ?_; obtain ⟨h9, h⟩ := gd_inv h; replace h9 := of_decide_eq_true h9; simp only [EV, seval, h9]; refine hK _ _ _ (show cutK _ _ _ from cutL ⟨_, _, _, _, _, rfl, h⟩ (Le_can [(32, some 33), (33, some 34), (34, some 35), (35, some 36)] [] hρ (by kernel_rfl) ?_ ?_))
                 ·simp only [AL, EV, seval, h9]
                 ·simp only [AL, EV, seval, h9]
                ·refine AN hN ?_; refine AB h (fun hc16 h => ?_) fun hc16 h => ?_
                 ·refine AW_rsT (BR := BR) [(7, [32]), (10, [33])] (by kernel_rfl) FM (by rw [hN]; kernel_rfl) (by kernel_rfl) ?_; intro K hK; obtain ⟨h10, h⟩ := gd_inv h; replace h10 := of_decide_eq_true h10; obtain ⟨h11, h⟩ := gd_inv h; replace h11 := of_decide_eq_true h11; simp only [AE, AT, TY, EN, seval, h10, h11]; refine hK _ _ _ ?_; clear hK K; injection h with h; subst h; refine AW_le (Le_can (lt := [(6, .ptr 32 0), (7, .ptr 33 0)]) (lr := [(32, .box 213 [.int .i64 a5, .int .i64 (IntKind.wrap .i64 (1 * 2 ^ min (Int.toNat a3) (IntKind.bits .i64))), .int .i64 0, .int .i64 0]), (33, .box 213 [.int .i64 a5, .int .i64 0, .int .i64 (IntKind.wrap .i64 (1 * 2 ^ min (Int.toNat a3) (IntKind.bits .i64))), .int .i64 0])]) (b' := 64) [(32, some 33), (33, some 34)] [] hρ (by kernel_rfl) ?_ ?_) (AW_ret (end_q [] (.inr rfl) (by kernel_rfl) (by kernel_rfl) ?_))
                  ·simp only [AL, EV, seval, h10, h11]
                  ·simp only [AL, EV, seval, h10, h11]
                  ·simp only [EV, Tryz.results224, seval]
                 ·refine AW_rsT (BR := BR) [(7, [32]), (10, [33])] (by kernel_rfl) FM (by rw [hN]; kernel_rfl) (by kernel_rfl) ?_; intro K hK; obtain ⟨h12, h⟩ := gd_inv h; replace h12 := of_decide_eq_true h12; obtain ⟨h13, h⟩ := gd_inv h; replace h13 := of_decide_eq_true h13; simp only [AE, AT, TY, EN, seval, h12, h13]; refine hK _ _ _ ?_; clear hK K; injection h with h; subst h; refine AW_le (Le_can (lt := [(6, .ptr 32 0), (7, .ptr 33 0)]) (lr := [(32, .box 213 [.int .i64 a5, .int .i64 (IntKind.wrap .i64 (1 * 2 ^ min (Int.toNat a2) (IntKind.bits .i64))), .int .i64 0, .int .i64 0]), (33, .box 213 [.int .i64 a5, .int .i64 0, .int .i64 (IntKind.wrap .i64 (1 * 2 ^ min (Int.toNat a2) (IntKind.bits .i64))), .int .i64 0])]) (b' := 64) [(32, some 33), (33, some 34)] [] hρ (by kernel_rfl) ?_ ?_) (AW_ret (end_q [] (.inr rfl) (by kernel_rfl) (by kernel_rfl) ?_))
                  ·simp only [AL, EV, seval, h12, h13]
                  ·simp only [AL, EV, seval, h12, h13]
                  ·simp only [EV, Tryz.results224, seval]
  ·rintro S ⟨v8, v9, v10, v11, v12, rfl, h⟩; unfold i_images_j2 at h; refine AW_rsT (BR := BR) [(1, [35]), (2, [32])] (by kernel_rfl) FM (by rw [hN]; kernel_rfl) (by kernel_rfl) ?_; intro K hK; simp only [AE, AT, TY, EN, seval]; refine hK _ _ _ ?_; clear hK K; injection h with h; subst h; exact AX (b' := 64) [(6, .ptr 32 0), (7, .ptr 33 0)] [(32, .box 213 [.int .i64 a5, .int .i64 v8, .int .i64 v9, .int .i64 v10]), (33, .box 213 [.int .i64 a5, .int .i64 0, .int .i64 v11, .int .i64 v12])] [(32, some 32), (33, some 33)] [] hρ (EQ [])
/- impl.ConjugatePauli -/
def i_ConjugatePauli_j7 (v23 : Int) (kl1 : Int → Int → Int → Int → Int → Option (Int × Int × Int × Int × Bool)) (v32 v33 v34 v35 : Int) : Option (Int × Int × Int × Int × Bool) :=
  kl1 (IntKind.wrap .i64 (v23 + 1)) v32 v33 v34 v35
def i_ConjugatePauli_j8 (a3 v23 : Int) (kl1 : Int → Int → Int → Int → Int → Option (Int × Int × Int × Int × Bool)) (x17 : Int × Int × Int × Int × Int × Int × Int × Int) (v28 v29 v30 v31 : Int) : Option (Int × Int × Int × Int × Bool) :=
  gd (decide (¬ v23 < 0)) (br ((bits .and .i64 (Int.fdiv a3 (2 ^ min (Int.toNat v23) (IntKind.bits .i64))) 1) == 1) (bO (i_MulPauli v28 v29 v30 v31 x17.2.2.2.2.1 x17.2.2.2.2.2.1 x17.2.2.2.2.2.2.1 x17.2.2.2.2.2.2.2) fun x19 => i_ConjugatePauli_j7 v23 kl1 x19.1 x19.2.1 x19.2.2.1 x19.2.2.2.1) (i_ConjugatePauli_j7 v23 kl1 v28 v29 v30 v31))
def i_ConjugatePauli_j2 (v36 v37 v38 v39 : Int) : Option (Int × Int × Int × Int × Bool) :=
  some (v36, v37, v38, v39, true)
def i_ConjugatePauli_l1 (a1 a2 a3 a5 a6 a7 a8 : Int) : Nat → Int → Int → Int → Int → Int → Option (Int × Int × Int × Int × Bool)
  | 0, _, _, _, _, _ => none
  | n1 + 1, v23, v24, v25, v26, v27 =>
  br (decide (v23 < a1)) (bO (i_images a5 a6 a7 a8 a1 v23) fun x17 => gd (decide (¬ v23 < 0)) (br ((bits .and .i64 (Int.fdiv a2 (2 ^ min (Int.toNat v23) (IntKind.bits .i64))) 1) == 1) (bO (i_MulPauli v24 v25 v26 v27 x17.1 x17.2.1 x17.2.2.1 x17.2.2.2.1) fun x18 => i_ConjugatePauli_j8 a3 v23 (i_ConjugatePauli_l1 a1 a2 a3 a5 a6 a7 a8 n1) x17 x18.1 x18.2.1 x18.2.2.1 x18.2.2.2.1) (i_ConjugatePauli_j8 a3 v23 (i_ConjugatePauli_l1 a1 a2 a3 a5 a6 a7 a8 n1) x17 v24 v25 v26 v27))) (i_ConjugatePauli_j2 v24 v25 v26 v27)
def i_ConjugatePauli_j1 (a1 a2 a3 a4 a5 a6 a7 a8 : Int) (v1 : Bool) : Option (Int × Int × Int × Int × Bool) :=
  br v1 (some (0, 0, 0, 0, false)) (i_ConjugatePauli_l1 a1 a2 a3 a5 a6 a7 a8 FU 0 a1 0 0 a4)
def i_ConjugatePauli (a1 a2 a3 a4 a5 a6 a7 a8 : Int) : Option (Int × Int × Int × Int × Bool) :=
  bO (i_IsValidPauli a1 a2 a3 a4) fun x1 => bO (br (!x1) (some true) (bO (i_IsValidGate a5 a6 a7 a8 a1) fun x2 => some (!x2))) fun x3 => bO (br x3 (some true) (bO (i_IsClifford a5 a6 a7 a8) fun x4 => some (!x4))) fun x5 => i_ConjugatePauli_j1 a1 a2 a3 a4 a5 a6 a7 a8 x5
theorem i_ConjugatePauli_ok {a1 a2 a3 a4 a5 a6 a7 a8 : Int} {r : Int × Int × Int × Int × Bool} (h : i_ConjugatePauli a1 a2 a3 a4 a5 a6 a7 a8 = some r) :
    Spec Tryz.prog 193 [.agg [.int .i64 a1, .int .i64 a2, .int .i64 a3, .int .i64 a4], .agg [.int .i64 a5, .int .i64 a6, .int .i64 a7, .int .i64 a8]] [] (.tup [.agg [.int .i64 r.1, .int .i64 r.2.1, .int .i64 r.2.2.1, .int .i64 r.2.2.2.1], .bool r.2.2.2.2]) [] := by
 unfold i_ConjugatePauli at h; refine SO Tryz.func193 rfl Tryz.ntmps193 fun C hN hρ => ?_; simp only [st0, tmps0, Nat.zero_add, Nat.reduceAdd]; refine AN hN ?_; refine AW_seq ?_; refine AJ (fun S => ∃ (v1 : Bool), S = ⟨mkT [(2, .ptr 32 0), (3, .ptr 33 0), (4, .ptr 34 0), (24, .bool v1)], mkR [(32, .box 213 [.int .i64 a1, .int .i64 a2, .int .i64 a3, .int .i64 a4]), (33, .box 48 [.int .i64 a5, .int .i64 a6, .int .i64 a7, .int .i64 a8]), (34, .box 213 [.int .i64 0, .int .i64 0, .int .i64 0, .int .i64 0])], 64⟩ ∧ i_ConjugatePauli_j1 a1 a2 a3 a4 a5 a6 a7 a8 v1 = some r) hN ?_ ?_
 ·intro K hK; obtain ⟨x1, h1, h⟩ := bO_inv h; simp only [EV, seval]; refine CP (i_IsValidPauli_ok h1) ?_; obtain ⟨x3, hv1, h⟩ := bO_inv h; rcases br_inv hv1 with ⟨hc1, hv1⟩ | ⟨hc1, hv1⟩
  ·cases hv1; obtain ⟨x6, hv3, h⟩ := bO_inv h; replace hv3 := br_t hv3; cases hv3; (try dsimp only at h); simp only [EV, seval, hc1]; refine hK _ _ _ (show cutK _ _ _ from cutL ⟨_, rfl, h⟩ (Le_can [(32, some 64), (33, some 80), (34, some 96)] [] hρ (by kernel_rfl) ?_ ?_))
   ·simp only [AL, EV, seval, hc1]
   ·simp only [AL, EV, seval, hc1]
  ·obtain ⟨x7, h4, hv1⟩ := bO_inv hv1; simp only [EV, seval, hc1]; refine rC_p (i_IsValidGate_ok h4) (by simp only [AL, EV, seval, hc1]) (le_d rfl) (no_j rfl) ?_; cases hv1; obtain ⟨x9, hv4, h⟩ := bO_inv h; rcases br_inv hv4 with ⟨hc3, hv4⟩ | ⟨hc3, hv4⟩
   ·cases hv4; simp only [EV, seval, hc1, hc3]; refine hK _ _ _ (show cutK _ _ _ from cutL ⟨_, rfl, h⟩ (Le_can [(32, some 64), (33, some 80), (34, some 96)] [] hρ (by kernel_rfl) ?_ ?_))
    ·simp only [AL, EV, seval, hc1, hc3]
    ·simp only [AL, EV, seval, hc1, hc3]
   ·obtain ⟨x10, h6, hv4⟩ := bO_inv hv4; simp only [EV, seval, hc1, hc3]; refine rC_p (i_IsClifford_ok h6) (by simp only [AL, EV, seval, hc1, hc3]) (le_d rfl) (no_j rfl) ?_; cases hv4; simp only [EV, seval, hc1, hc3]; refine hK _ _ _ (show cutK _ _ _ from cutL ⟨_, rfl, h⟩ (Le_can [(32, some 64), (33, some 80), (34, some 96)] [] hρ (by kernel_rfl) ?_ ?_))
    ·simp only [AL, EV, seval, hc1, hc3]
    ·simp only [AL, EV, seval, hc1, hc3]
 ·rintro S ⟨v1, rfl, h⟩; unfold i_ConjugatePauli_j1 at h; refine AB h (fun hc4 h => ?_) fun hc4 h => ?_
  ·refine AN hN ?_; injection h with h; subst h; exact AX (b' := 64) [(4, .ptr 32 0), (5, .bool false)] [(32, .box 213 [.int .i64 0, .int .i64 0, .int .i64 0, .int .i64 0])] [(32, some 34)] [] hρ (EQ [])
  ·refine AW_skip (AK ?_); refine AN hN ?_; refine AW_cutK (fun S => ∃ (v36 v37 v38 v39 : Int), S = ⟨mkT [(4, .ptr 32 0), (6, .ptr 33 0)], mkR [(32, .box 213 [.int .i64 0, .int .i64 0, .int .i64 0, .int .i64 0]), (33, .box 213 [.int .i64 v36, .int .i64 v37, .int .i64 v38, .int .i64 v39])], 64⟩ ∧ i_ConjugatePauli_j2 v36 v37 v38 v39 = some r) ?_ ?_
   ·refine AN hN ?_; refine AW_block ?_; refine AW_loopF (fun n S => ∃ (v23 v24 v25 v26 v27 : Int), S = ⟨mkT [(2, .ptr 32 0), (3, .ptr 33 0), (4, .ptr 34 0), (6, .ptr 35 0), (7, .int .i64 v23)], mkR [(32, .box 213 [.int .i64 a1, .int .i64 a2, .int .i64 a3, .int .i64 a4]), (33, .box 48 [.int .i64 a5, .int .i64 a6, .int .i64 a7, .int .i64 a8]), (34, .box 213 [.int .i64 0, .int .i64 0, .int .i64 0, .int .i64 0]), (35, .box 213 [.int .i64 v24, .int .i64 v25, .int .i64 v26, .int .i64 v27])], 64⟩ ∧ i_ConjugatePauli_l1 a1 a2 a3 a5 a6 a7 a8 n v23 v24 v25 v26 v27 = some r) FU ?_ ?_ ?_
    ·exact AC ⟨_, _, _, _, _, rfl, h⟩ [(32, some 32), (33, some 33), (34, some 34), (35, some 144)] [] hρ
    ·rintro S ⟨_, _, _, _, _, _, h⟩; rw [i_ConjugatePauli_l1] at h; cases h
    ·rintro n1 S ⟨v23, v24, v25, v26, v27, rfl, h⟩; rw [i_ConjugatePauli_l1] at h; refine AW_seq ?_; refine AN hN ?_; refine AB h (fun hc11 h => ?_) fun hc11 h => ?_
     ·refine AW_skip (AK ?_); refine AW_cutK (fun S => ∃ (v32 v33 v34 v35 : Int), S = ⟨mkT [(2, .ptr 32 0), (3, .ptr 33 0), (4, .ptr 34 0), (6, .ptr 35 0), (7, .int .i64 v23)], mkR [(32, .box 213 [.int .i64 a1, .int .i64 a2, .int .i64 a3, .int .i64 a4]), (33, .box 48 [.int .i64 a5, .int .i64 a6, .int .i64 a7, .int .i64 a8]), (34, .box 213 [.int .i64 0, .int .i64 0, .int .i64 0, .int .i64 0]), (35, .box 213 [.int .i64 v32, .int .i64 v33, .int .i64 v34, .int .i64 v35])], 64⟩ ∧ i_ConjugatePauli_j7 v23 (i_ConjugatePauli_l1 a1 a2 a3 a5 a6 a7 a8 n1) v32 v33 v34 v35 = some r) ?_ ?_
      ·refine AW_block ?_; obtain ⟨x17, h15, h⟩ := bO_inv h; refine AP hN (i_images_ok h15) ?_; refine AW_cutK (fun S => ∃ (v28 v29 v30 v31 : Int), S = ⟨mkT [(2, .ptr 32 0), (3, .ptr 33 0), (4, .ptr 34 0), (6, .ptr 35 0), (7, .int .i64 v23), (9, .ptr 36 0)], mkR [(32, .box 213 [.int .i64 a1, .int .i64 a2, .int .i64 a3, .int .i64 a4]), (33, .box 48 [.int .i64 a5, .int .i64 a6, .int .i64 a7, .int .i64 a8]), (34, .box 213 [.int .i64 0, .int .i64 0, .int .i64 0, .int .i64 0]), (35, .box 213 [.int .i64 v28, .int .i64 v29, .int .i64 v30, .int .i64 v31]), (36, .box 213 [.int .i64 x17.2.2.2.2.1, .int .i64 x17.2.2.2.2.2.1, .int .i64 x17.2.2.2.2.2.2.1, .int .i64 x17.2.2.2.2.2.2.2])], 64⟩ ∧ i_ConjugatePauli_j8 a3 v23 (i_ConjugatePauli_l1 a1 a2 a3 a5 a6 a7 a8 n1) x17 v28 v29 v30 v31 = some r) ?_ ?_
       ·refine AR hN fun K hK => ?_; obtain ⟨h16, h⟩ := gd_inv h; replace h16 := of_decide_eq_true h16; simp only [EV, seval, h16]; refine hK _ _ _ ?_; clear hK K; refine AW_condK (a := .bool ((bits .and .i64 (Int.fdiv a2 (2 ^ min (Int.toNat v23) (IntKind.bits .i64))) 1) == 1)) (by simp only [EV, seval, h16]) (brK h (fun hc12 h => ?_) (fun hc12 h => ?_))
        ·refine AS hN fun K hK => ?_; obtain ⟨x18, h17, h⟩ := bO_inv h; simp only [EV, seval]; refine CP (i_MulPauli_ok h17) ?_; simp only [EV, seval]; exact hK _ _ _ (AC ⟨_, _, _, _, rfl, h⟩ [(32, some 32), (33, some 33), (34, some 34), (35, some 35), (36, some 1232)] [] hρ)
        ·refine AW_skip (show cutK _ _ _ from cutL ⟨_, _, _, _, rfl, h⟩ (Le_can [(32, some 32), (33, some 33), (34, some 34), (35, some 35), (36, some 1232)] [] hρ (by kernel_rfl) ?_ ?_))
         ·simp only [AL, EV, seval, h16]
         ·simp only [AL, EV, seval, h16]
       ·rintro S ⟨v28, v29, v30, v31, rfl, h⟩; unfold i_ConjugatePauli_j8 at h; refine AR hN fun K hK => ?_; obtain ⟨h18, h⟩ := gd_inv h; replace h18 := of_decide_eq_true h18; simp only [EV, seval, h18]; refine hK _ _ _ ?_; clear hK K; refine AW_condK (a := .bool ((bits .and .i64 (Int.fdiv a3 (2 ^ min (Int.toNat v23) (IntKind.bits .i64))) 1) == 1)) (by simp only [EV, seval, h18]) (brK h (fun hc13 h => ?_) (fun hc13 h => ?_))
        ·refine AS hN fun K hK => ?_; obtain ⟨x19, h19, h⟩ := bO_inv h; simp only [EV, seval]; refine CP (i_MulPauli_ok h19) ?_; simp only [EV, seval]; exact hK _ _ _ (AC ⟨_, _, _, _, rfl, h⟩ [(32, some 32), (33, some 33), (34, some 34), (35, some 35)] [] hρ)
        ·refine AW_skip (show cutK _ _ _ from cutL ⟨_, _, _, _, rfl, h⟩ (Le_can [(32, some 32), (33, some 33), (34, some 34), (35, some 35)] [] hρ (by kernel_rfl) ?_ ?_))
         ·simp only [AL, EV, seval, h18]
         ·simp only [AL, EV, seval, h18]
      ·rintro S ⟨v32, v33, v34, v35, rfl, h⟩; unfold i_ConjugatePauli_j7 at h; refine AS hN fun K hK => ?_; simp only [EV, seval]; exact hK _ _ _ (AC ⟨_, _, _, _, _, rfl, h⟩ [(32, some 32), (33, some 33), (34, some 34), (35, some 35)] [] hρ)
     ·exact AW_exit (AC ⟨_, _, _, _, rfl, h⟩ [(32, some 34), (33, some 35)] [] hρ)
   ·rintro S ⟨v36, v37, v38, v39, rfl, h⟩; unfold i_ConjugatePauli_j2 at h; refine AN hN ?_; injection h with h; subst h; exact AX (b' := 64) [(4, .ptr 32 0), (5, .bool true)] [(32, .box 213 [.int .i64 v36, .int .i64 v37, .int .i64 v38, .int .i64 v39])] [(32, some 32)] [] hρ (EQ [])
end Go.Proofs.YtfjopjalhllplaaGreat
