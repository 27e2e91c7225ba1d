/- Models of functions, and that the functions do what the models say; printed by a program. -/
import Derived.Test.YtfjopjalhllplaaK1
import Derived.Test.YtfjopjalhllplaaKMa
namespace Go.Proofs.Ytfjopjalhllplaa
open Go.RowKit
set_option maxRecDepth 100000
set_option linter.unusedVariables false
set_option linter.unusedSimpArgs false
set_option linter.defProp false
set_option maxHeartbeats 4000000
/- spec.Arity -/
def s_Arity (a1 : Int) : Option Int :=
  bO (s_l1In a1 1 8) fun x1 => br x1 (some 1) (bO (s_l1In a1 9 11) fun x2 => br x2 (some 2) (br (a1 == 12) (some 3) (some 0)))
theorem s_Arity_ok {a1 r : Int} (h : s_Arity a1 = some r) :
    Spec Try.prog 42 [.int .i64 a1] [] (.int .i64 r) [] := by
 unfold s_Arity at h; refine SO Try.func42 rfl Try.ntmps42 fun C hN hρ => ?_; simp only [st0, tmps0, Nat.zero_add, Nat.reduceAdd]; refine AN hN ?_; refine AW_seq ?_; refine AW_block ?_; obtain ⟨x1, h1, h⟩ := bO_inv h; refine AP hN (s_l1In_ok h1) ?_; refine AB h (fun hc1 h => ?_) fun hc1 h => ?_
 ·refine AN hN ?_; injection h with h; subst h; exact AX (b' := 64) [(2, .int .i64 1)] [] [] [] hρ (EQ [])
 ·obtain ⟨x2, h2, h⟩ := bO_inv h; refine AP hN (s_l1In_ok h2) ?_; refine AB h (fun hc2 h => ?_) fun hc2 h => ?_
  ·refine AN hN ?_; injection h with h; subst h; exact AX (b' := 64) [(2, .int .i64 2)] [] [] [] hρ (EQ [])
  ·refine AN hN ?_; refine AB h (fun hc3 h => ?_) fun hc3 h => ?_
   ·refine AN hN ?_; injection h with h; subst h; exact AX (b' := 64) [(2, .int .i64 3)] [] [] [] hρ (EQ [])
   ·refine AW_skip (AK ?_); refine AN hN ?_; injection h with h; subst h; exact AX (b' := 64) [(2, .int .i64 0)] [] [] [] hρ (EQ [])
/- spec.GateQubits -/
def s_GateQubits (a1 a2 a3 a4 : Int) : Option (List Int) :=
  bO (s_Arity a1) fun x1 => bO (slc ([a2, a3, a4]) 0 x1) fun l1 => gd (decide (([] : List Int).length + l1.length ≤ 16777216)) (some l1)
theorem s_GateQubits_ok {a1 a2 a3 a4 : Int} {r : List Int} (h : s_GateQubits a1 a2 a3 a4 = some r) :
    Spec Try.prog 63 [.agg [.int .i64 a1, .int .i64 a2, .int .i64 a3, .int .i64 a4]] [] (.own 0 r.length) [.row 3 1 (encL EI r)] := by
 unfold s_GateQubits at h; refine SO Try.func63 rfl Try.ntmps63 fun C hN hρ => ?_; simp only [st0, tmps0, Nat.zero_add, Nat.reduceAdd]; refine AN hN ?_; refine AN hN ?_; refine AR hN fun K hK => ?_; obtain ⟨x1, h1, h⟩ := bO_inv h; simp only [EV, seval]; refine CP (s_Arity_ok h1) ?_; obtain ⟨l1, h2, h⟩ := bO_inv h; obtain ⟨⟨h3a, h3b, h3c⟩, h3d, h3e⟩ := slc_E EIl h2; (try simp only [EV, seval] at h3d); (try simp only [EV, seval] at h3e); (try simp only [EV, seval] at h3a); (try simp only [EV, seval] at h3b); (try simp only [EV, seval] at h3c); obtain ⟨h4, h⟩ := gd_inv h; replace h4 := of_decide_eq_true h4; (try simp only [EV, seval] at h4); have h5 := encL_len EIl l1; simp only [EV, seval, h3a, h3b, h3c, h3d, h3e, h4, h5]; refine hK _ _ _ ?_; clear hK K; injection h with h; subst h; refine AW_le (Le_can (lt := [(2, .own 32 l1.length)]) (lr := [(32, .row 3 1 (encL EI l1))]) (b' := 64) [(32, some 2208)] [] hρ (by kernel_rfl) ?_ ?_) (AW_ret (end_q [32] (.inr rfl) (by kernel_rfl) (by kernel_rfl) ?_))
 ·simp only [AL, EV, seval, h3a, h3b, h3c, h3d, h3e, h4, h5]
 ·simp only [AL, EV, seval, h3a, h3b, h3c, h3d, h3e, h4, h5]
 ·simp only [EV, Try.results63, seval]
/- spec.l1HasInt -/
def s_l1HasInt_j1 : Option Bool :=
  some false
def s_l1HasInt_l1 (a1 : List Int) (a2 : Int) : Nat → Int → Option Bool
  | 0, _ => none
  | n1 + 1, v2 =>
  br (decide (v2 < ((a1.length : Int)))) (bO (geti a1 v2) fun q3 => br (q3 == a2) (some true) ((s_l1HasInt_l1 a1 a2 n1) (IntKind.wrap .i64 (v2 + 1)))) (s_l1HasInt_j1)
def s_l1HasInt (a1 : List Int) (a2 : Int) : Option Bool :=
  s_l1HasInt_l1 a1 a2 FU 0
theorem s_l1HasInt_ok {a1 : List Int} {a2 : Int} {r : Bool} (h : s_l1HasInt a1 a2 = some r) :
    Spec Try.prog 64 [.sl (encL EI a1) a1.length, .int .i64 a2] [] (.bool r) [] := by
 unfold s_l1HasInt at h; refine SO Try.func64 rfl Try.ntmps64 fun C hN hρ => ?_; simp only [st0, tmps0, Nat.zero_add, Nat.reduceAdd]; refine AN hN ?_; refine AW_cutK (fun S => S = ⟨mkT [], mkR [], 64⟩ ∧ s_l1HasInt_j1 = some r) ?_ ?_
 ·refine AN hN ?_; refine AW_block ?_; refine AW_loopF (fun n S => ∃ (v2 : Int), S = ⟨mkT [(0, .sl (encL EI a1) a1.length), (1, .int .i64 a2), (5, .int .i64 v2)], mkR [], 64⟩ ∧ s_l1HasInt_l1 a1 a2 n v2 = some r) FU ?_ ?_ ?_
  ·exact AC ⟨_, rfl, h⟩ [] [] hρ
  ·rintro S ⟨_, _, h⟩; rw [s_l1HasInt_l1] at h; cases h
  ·rintro n1 S ⟨v2, rfl, h⟩; rw [s_l1HasInt_l1] at h; refine AW_seq ?_; refine AN hN ?_; refine AB h (fun hc5 h => ?_) fun hc5 h => ?_
   ·refine AW_skip (AK ?_); refine AW_seq ?_; refine AW_block ?_; refine AR hN fun K hK => ?_; obtain ⟨q3, h5, h⟩ := bO_inv h; obtain ⟨⟨h6a, h6b⟩, h6c⟩ := geti_E EIl h5; (try simp only [EV, seval] at h6c); simp only [EV, seval, h6a, h6b, h6c]; refine hK _ _ _ ?_; clear hK K; refine AW_condK (a := .bool (q3 == a2)) (by simp only [EV, seval, h6a, h6b, h6c]) (brK h (fun hc6 h => ?_) (fun hc6 h => ?_))
    ·refine AN hN ?_; injection h with h; subst h; exact AX (b' := 64) [(4, .bool true)] [] [] [] hρ (EQ [])
    ·refine AW_skip (AK ?_); refine AS hN fun K hK => ?_; simp only [EV, seval]; exact hK _ _ _ (AC ⟨_, rfl, h⟩ [] [] hρ)
   ·exact AW_exit (AC ⟨rfl, h⟩ [] [] hρ)
 ·rintro S ⟨rfl, h⟩; unfold s_l1HasInt_j1 at h; refine AN hN ?_; injection h with h; subst h; exact AX (b' := 64) [(4, .bool false)] [] [] [] hρ (EQ [])
/- spec.IsValidGate -/
def s_IsValidGate_j4 (v6 : List Int) (v7 : Int) (kl1 : (List Int) → Int → Option Bool) (v8 : Bool) : Option Bool :=
  br v8 (some false) (kl1 v6 (IntKind.wrap .i64 (v7 + 1)))
def s_IsValidGate_j5 (v9 : Bool) : Option Bool :=
  some v9
def s_IsValidGate_j1 (a5 : Int) (x1 : List Int) : Option Bool :=
  bO (br (decide (0 < ((x1.length : Int)))) (bO (s_l1In a5 1 4) fun x42 => some x42) (some false)) fun x43 => s_IsValidGate_j5 x43
def s_IsValidGate_l1 (a5 : Int) (x1 : List Int) : Nat → (List Int) → Int → Option Bool
  | 0, _, _ => none
  | n1 + 1, v6, v7 =>
  br (decide (v7 < 3)) (bO (br (decide (((x1.length : Int)) ≤ v7)) (bO (geti v6 v7) fun q5 => some (q5 != 0)) (some false)) fun x14 => bO (br x14 (some true) (bO (br (decide (v7 < ((x1.length : Int)))) (bO (geti v6 v7) fun q6 => bO (s_l1In q6 0 (IntKind.wrap .i64 (a5 - 1))) fun x15 => bO (br (!x15) (some true) (bO (slc x1 0 v7) fun l4 => bO (s_l1HasInt l4 q6) fun x16 => some x16)) fun x17 => some x17) (some false)) fun x18 => some x18)) fun x19 => s_IsValidGate_j4 v6 v7 (s_IsValidGate_l1 a5 x1 n1) x19) (s_IsValidGate_j1 a5 x1)
def s_IsValidGate (a1 a2 a3 a4 a5 : Int) : Option Bool :=
  bO (s_GateQubits a1 a2 a3 a4) fun x1 => s_IsValidGate_l1 a5 x1 FU ([a2, a3, a4]) 0
theorem s_IsValidGate_ok {a1 a2 a3 a4 a5 : Int} {r : Bool} (h : s_IsValidGate a1 a2 a3 a4 a5 = some r) :
    Spec Try.prog 58 [.agg [.int .i64 a1, .int .i64 a2, .int .i64 a3, .int .i64 a4], .int .i64 a5] [] (.bool r) [] := by
 unfold s_IsValidGate at h; refine SO Try.func58 rfl Try.ntmps58 fun C hN hρ => ?_; simp only [st0, tmps0, Nat.zero_add, Nat.reduceAdd]; refine AN hN ?_; refine AR hN fun K hK => ?_; obtain ⟨x1, h1, h⟩ := bO_inv h; simp only [EV, seval]; refine rC_p (s_GateQubits_ok h1) (by simp only [AL, EV, seval]) (le_d rfl) (site_1 (by simp only [EV, seval])) ?_; simp only [EV, seval]; refine hK _ _ _ ?_; clear hK K; refine AN hN ?_; refine AW_cutK (fun S => S = ⟨mkT [(1, .int .i64 a5), (5, .sl (encL EI x1) x1.length)], mkR [], 64⟩ ∧ s_IsValidGate_j1 a5 x1 = some r) ?_ ?_
 ·refine AN hN ?_; refine AW_block ?_; refine AW_loopF (fun n S => ∃ (v6 : List Int) (v7 : Int), S = ⟨mkT [(1, .int .i64 a5), (5, .sl (encL EI x1) x1.length), (6, .sl (encL EI v6) v6.length), (7, .int .i64 v7)], mkR [], 64⟩ ∧ s_IsValidGate_l1 a5 x1 n v6 v7 = some r) FU ?_ ?_ ?_
  ·exact AC ⟨_, _, rfl, h⟩ [] [1104] hρ
  ·rintro S ⟨_, _, _, h⟩; rw [s_IsValidGate_l1] at h; cases h
  ·rintro n1 S ⟨v6, v7, rfl, h⟩; rw [s_IsValidGate_l1] at h; refine AW_seq ?_; refine AN hN ?_; refine AB h (fun hc13 h => ?_) fun hc13 h => ?_
   ·refine AW_skip (AK ?_); refine AW_seq ?_; refine AW_block ?_; refine AJ (fun S => ∃ (v8 : Bool), S = ⟨mkT [(1, .int .i64 a5), (5, .sl (encL EI x1) x1.length), (6, .sl (encL EI v6) v6.length), (7, .int .i64 v7), (57, .bool v8)], mkR [], 64⟩ ∧ s_IsValidGate_j4 v6 v7 (s_IsValidGate_l1 a5 x1 n1) v8 = some r) hN ?_ ?_
    ·intro K hK; obtain ⟨x14, hv9, h⟩ := bO_inv h; rcases br_inv hv9 with ⟨hc14, hv9⟩ | ⟨hc14, hv9⟩
     ·obtain ⟨q7, h26, hv9⟩ := bO_inv hv9; obtain ⟨⟨h27a, h27b⟩, h27c⟩ := geti_E EIl h26; (try simp only [EV, seval] at h27c); cases hv9; obtain ⟨x24, hv13, h⟩ := bO_inv h; rcases br_inv hv13 with ⟨hc18, hv13⟩ | ⟨hc18, hv13⟩
      ·cases hv13; simp only [EV, seval, hc14, h27a, h27b, h27c, hc18]; refine hK _ _ _ (show cutK _ _ _ from cutL ⟨_, rfl, h⟩ (Le_can [] [] hρ (by kernel_rfl) ?_ ?_))
       ·simp only [AL, EV, seval, hc14, h27a, h27b, h27c, hc18]
       ·simp only [AL, EV, seval, hc14, h27a, h27b, h27c, hc18]
      ·obtain ⟨x28, hv16, hv13⟩ := bO_inv hv13; rcases br_inv hv16 with ⟨hc21, hv16⟩ | ⟨hc21, hv16⟩
       ·obtain ⟨q10, h40, hv16⟩ := bO_inv hv16; obtain rfl : q7 = q10 := Option.some.inj (h26.symm.trans h40); obtain ⟨x29, h41, hv16⟩ := bO_inv hv16; simp only [EV, seval, hc14, h27a, h27b, h27c, hc18, hc21]; refine rC_p (s_l1In_ok h41) (by simp only [AL, EV, seval, hc14, h27a, h27b, h27c, hc18, hc21]) (le_d rfl) (no_j rfl) ?_; obtain ⟨x31, hv18, hv16⟩ := bO_inv hv16; rcases br_inv hv18 with ⟨hc23, hv18⟩ | ⟨hc23, hv18⟩
        ·cases hv18; cases hv16; cases hv13; simp only [EV, seval, hc14, h27a, h27b, h27c, hc18, hc21, hc23]; refine hK _ _ _ (show cutK _ _ _ from cutL ⟨_, rfl, h⟩ (Le_can [] [] hρ (by kernel_rfl) ?_ ?_))
         ·simp only [AL, EV, seval, hc14, h27a, h27b, h27c, hc18, hc21, hc23]
         ·simp only [AL, EV, seval, hc14, h27a, h27b, h27c, hc18, hc21, hc23]
        ·obtain ⟨l8, h45, hv18⟩ := bO_inv hv18; obtain ⟨⟨h46a, h46b, h46c⟩, h46d, h46e⟩ := slc_E EIl h45; (try simp only [EV, seval] at h46d); (try simp only [EV, seval] at h46e); (try simp only [EV, seval] at h46a); (try simp only [EV, seval] at h46b); (try simp only [EV, seval] at h46c); obtain ⟨x32, h47, hv18⟩ := bO_inv hv18; simp only [EV, seval, hc14, h27a, h27b, h27c, hc18, hc21, hc23, h46a, h46b, h46c, h46d, h46e]; refine rC_p (s_l1HasInt_ok h47) (by simp only [AL, EV, seval, hc14, h27a, h27b, h27c, hc18, hc21, hc23, h46a, h46b, h46c, h46d, h46e]) (le_d rfl) (no_j rfl) ?_; cases hv18; cases hv16; cases hv13; simp only [EV, seval, hc14, h27a, h27b, h27c, hc18, hc21, hc23, h46a, h46b, h46c, h46d, h46e]; refine hK _ _ _ (show cutK _ _ _ from cutL ⟨_, rfl, h⟩ (Le_can [] [] hρ (by kernel_rfl) ?_ ?_))
         ·simp only [AL, EV, seval, hc14, h27a, h27b, h27c, hc18, hc21, hc23, h46a, h46b, h46c, h46d, h46e]
         ·simp only [AL, EV, seval, hc14, h27a, h27b, h27c, hc18, hc21, hc23, h46a, h46b, h46c, h46d, h46e]
       ·cases hv16; cases hv13; simp only [EV, seval, hc14, h27a, h27b, h27c, hc18, hc21]; refine hK _ _ _ (show cutK _ _ _ from cutL ⟨_, rfl, h⟩ (Le_can [] [] hρ (by kernel_rfl) ?_ ?_))
        ·simp only [AL, EV, seval, hc14, h27a, h27b, h27c, hc18, hc21]
        ·simp only [AL, EV, seval, hc14, h27a, h27b, h27c, hc18, hc21]
     ·cases hv9; obtain ⟨x33, hv19, h⟩ := bO_inv h; replace hv19 := br_f hv19; obtain ⟨x37, hv20, hv19⟩ := bO_inv hv19; rcases br_inv hv20 with ⟨hc24, hv20⟩ | ⟨hc24, hv20⟩
      ·obtain ⟨q12, h54, hv20⟩ := bO_inv hv20; obtain ⟨⟨h55a, h55b⟩, h55c⟩ := geti_E EIl h54; (try simp only [EV, seval] at h55c); obtain ⟨x38, h56, hv20⟩ := bO_inv hv20; simp only [EV, seval, hc14, hc24, h55a, h55b, h55c]; refine rC_p (s_l1In_ok h56) (by simp only [AL, EV, seval, hc14, hc24, h55a, h55b, h55c]) (le_d rfl) (no_j rfl) ?_; obtain ⟨x40, hv22, hv20⟩ := bO_inv hv20; rcases br_inv hv22 with ⟨hc26, hv22⟩ | ⟨hc26, hv22⟩
       ·cases hv22; cases hv20; cases hv19; (try dsimp only at h); simp only [EV, seval, hc14, hc24, h55a, h55b, h55c, hc26]; refine hK _ _ _ (show cutK _ _ _ from cutL ⟨_, rfl, h⟩ (Le_can [] [] hρ (by kernel_rfl) ?_ ?_))
        ·simp only [AL, EV, seval, hc14, hc24, h55a, h55b, h55c, hc26]
        ·simp only [AL, EV, seval, hc14, hc24, h55a, h55b, h55c, hc26]
       ·obtain ⟨l11, h60, hv22⟩ := bO_inv hv22; obtain ⟨⟨h61a, h61b, h61c⟩, h61d, h61e⟩ := slc_E EIl h60; (try simp only [EV, seval] at h61d); (try simp only [EV, seval] at h61e); (try simp only [EV, seval] at h61a); (try simp only [EV, seval] at h61b); (try simp only [EV, seval] at h61c); obtain ⟨x41, h62, hv22⟩ := bO_inv hv22; simp only [EV, seval, hc14, hc24, h55a, h55b, h55c, hc26, h61a, h61b, h61c, h61d, h61e]; refine rC_p (s_l1HasInt_ok h62) (by simp only [AL, EV, seval, hc14, hc24, h55a, h55b, h55c, hc26, h61a, h61b, h61c, h61d, h61e]) (le_d rfl) (no_j rfl) ?_; cases hv22; cases hv20; cases hv19; (try dsimp only at h); simp only [EV, seval, hc14, hc24, h55a, h55b, h55c, hc26, h61a, h61b, h61c, h61d, h61e]; refine hK _ _ _ (show cutK _ _ _ from cutL ⟨_, rfl, h⟩ (Le_can [] [] hρ (by kernel_rfl) ?_ ?_))
        ·simp only [AL, EV, seval, hc14, hc24, h55a, h55b, h55c, hc26, h61a, h61b, h61c, h61d, h61e]
        ·simp only [AL, EV, seval, hc14, hc24, h55a, h55b, h55c, hc26, h61a, h61b, h61c, h61d, h61e]
      ·cases hv20; cases hv19; (try dsimp only at h); simp only [EV, seval, hc14, hc24]; refine hK _ _ _ (show cutK _ _ _ from cutL ⟨_, rfl, h⟩ (Le_can [] [] hρ (by kernel_rfl) ?_ ?_))
       ·simp only [AL, EV, seval, hc14, hc24]
       ·simp only [AL, EV, seval, hc14, hc24]
    ·rintro S ⟨v8, rfl, h⟩; unfold s_IsValidGate_j4 at h; refine AB h (fun hc27 h => ?_) fun hc27 h => ?_
     ·refine AN hN ?_; injection h with h; subst h; exact AX (b' := 64) [(4, .bool false)] [] [] [] hρ (EQ [])
     ·refine AW_skip (AK ?_); refine AS hN fun K hK => ?_; simp only [EV, seval]; exact hK _ _ _ (AC ⟨_, _, rfl, h⟩ [] [] hρ)
   ·exact AW_exit (AC ⟨rfl, h⟩ [] [] hρ)
 ·rintro S ⟨rfl, h⟩; unfold s_IsValidGate_j1 at h; refine AJ (fun S => ∃ (v9 : Bool), S = ⟨mkT [(4, .bool v9)], mkR [], 64⟩ ∧ s_IsValidGate_j5 v9 = some r) hN ?_ ?_
  ·intro K hK; obtain ⟨x43, hv23, h⟩ := bO_inv h; rcases br_inv hv23 with ⟨hc28, hv23⟩ | ⟨hc28, hv23⟩
   ·obtain ⟨x44, h64, hv23⟩ := bO_inv hv23; simp only [EV, seval, hc28]; refine rC_p (s_l1In_ok h64) (by simp only [AL, EV, seval, hc28]) (le_d rfl) (no_j rfl) ?_; cases hv23; simp only [EV, seval, hc28]; refine hK _ _ _ (show cutK _ _ _ from cutL ⟨_, rfl, h⟩ (Le_can [] [] hρ (by kernel_rfl) ?_ ?_))
    ·simp only [AL, EV, seval, hc28]
    ·simp only [AL, EV, seval, hc28]
   ·cases hv23; simp only [EV, seval, hc28]; refine hK _ _ _ (show cutK _ _ _ from cutL ⟨_, rfl, h⟩ (Le_can [] [] hρ (by kernel_rfl) ?_ ?_))
    ·simp only [AL, EV, seval, hc28]
    ·simp only [AL, EV, seval, hc28]
  ·rintro S ⟨v9, rfl, h⟩; unfold s_IsValidGate_j5 at h; injection h with h; subst h; exact AX (b' := 64) [(4, .bool v9)] [] [] [] hρ (EQ [])
end Go.Proofs.Ytfjopjalhllplaa
