/- Joined texts: Mzd Mze. -/
import Derived.Test.YtplbdmigbakmlaaK1
import Derived.Test.YtplbdmigbakmlaaK6
import Derived.Test.YtplbdmigbakmlaaK2
/- Models of functions, and that the functions do what the models say; printed by a program. -/
namespace Go.Proofs.Ytplbdmigbakmlaa
open Go.RowKit
set_option maxRecDepth 100000
set_option linter.unusedVariables false
set_option linter.unusedSimpArgs false
set_option linter.defProp false
set_option maxHeartbeats 4000000
/- spec.ProjectState -/
def s_ProjectState_j1 (x3 : List (Int × Int × Int × Int × Int) × Bool) (v1 : Bool) : Option (List (Int × Int × Int × Int × Int) × Bool) :=
  br v1 (some ([], false)) (bO (s_InvSqrt2Power 2) fun x5 => bO (s_ScaleState x3.1 x5.1 x5.2.1 x5.2.2.1 x5.2.2.2.1 x5.2.2.2.2) fun x6 => some (x6.1, x6.2))
def s_ProjectState (a1 : Int) (a2 : Int) (a3 : Int) (a4 : Int) (a5 : List (Int × Int × Int × Int × Int)) : Option (List (Int × Int × Int × Int × Int) × Bool) :=
  bO (s_PauliMatrix a1 a2 a3 a4) fun x1 => bO (s_ApplyMatrix x1 a5) fun x2 => bO (s_AddStates a5 x2.1) fun x3 => bO (br (!x2.2) (some true) (some (!x3.2))) fun x4 => s_ProjectState_j1 x3 x4
theorem s_ProjectState_ok {a1 : Int} {a2 : Int} {a3 : Int} {a4 : Int} {a5 : List (Int × Int × Int × Int × Int)} {r : List (Int × Int × Int × Int × Int) × Bool} (h : s_ProjectState a1 a2 a3 a4 a5 = some r) :
    Spec Try.prog 82 [.agg [.int .i64 a1, .int .i64 a2, .int .i64 a3, .int .i64 a4], .sl (encL EIIIII a5) a5.length] [] (.tup [.own 0 r.1.length, .bool r.2]) [.row 61 5 (encL EIIIII r.1)] := by
 unfold s_ProjectState at h; refine SO Try.func82 rfl Try.ntmps82 fun C hN hρ => ?_; simp only [st0, tmps0, Nat.zero_add, Nat.reduceAdd]; refine AR hN fun K hK => ?_; simp only [EV, seval]; refine hK _ _ _ ?_; clear hK K; refine AR hN fun K hK => ?_; obtain ⟨x1, h1, h⟩ := bO_inv h; simp only [EV, seval]; refine rC_p (s_PauliMatrix_ok h1) (by simp only [AL, EV, seval]) (le_d rfl) (site_1 (by simp only [EV, seval])) ?_; obtain ⟨x2, h2, h⟩ := bO_inv h; simp only [EV, seval]; refine rC_l (s_ApplyMatrix_ok h2) (by simp only [AL, EV, seval]) (by simp only [AL, EF, and_self]) (le_d rfl) (site_1 (by simp only [EV, seval])) ?_; simp only [EV, seval]; refine hK _ _ _ ?_; clear hK K; refine AR hN fun K hK => ?_; obtain ⟨x3, h3, h⟩ := bO_inv h; simp only [EV, seval]; refine rC_l (s_AddStates_ok h3) (by simp only [AL, EV, seval]) (by simp only [AL, EF, and_self]) (le_d rfl) (site_1 (by simp only [EV, seval])) ?_; simp only [EV, seval]; refine hK _ _ _ ?_; clear hK K; refine AW_seq ?_; refine AJ (fun S => ∃ (v1 : Bool), S = ⟨mkT [(8, .own 32 x3.1.length), (28, .bool v1)], mkR [(32, .row 61 5 (encL EIIIII x3.1))], 64⟩ ∧ s_ProjectState_j1 x3 v1 = some r) hN ?_ ?_
 ·intro K hK; obtain ⟨x4, hv1, h⟩ := bO_inv h; rcases br_inv hv1 with ⟨hc1, hv1⟩ | ⟨hc1, hv1⟩
  ·cases hv1; simp only [EV, seval, hc1]; refine hK _ _ _ (show cutK _ _ _ from cutL ⟨_, rfl, h⟩ (Le_can [(32, some 2144)] [] hρ (by kernel_rfl) ?_ ?_))
   ·simp only [AL, EV, seval, hc1]
   ·simp only [AL, EV, seval, hc1]
  ·cases hv1; simp only [EV, seval, hc1]; refine hK _ _ _ (show cutK _ _ _ from cutL ⟨_, rfl, h⟩ (Le_can [(32, some 2144)] [] hρ (by kernel_rfl) ?_ ?_))
   ·simp only [AL, EV, seval, hc1]
   ·simp only [AL, EV, seval, hc1]
 ·rintro S ⟨v1, rfl, h⟩; unfold s_ProjectState_j1 at h; refine AB h (fun hc2 h => ?_) fun hc2 h => ?_
  ·refine AR hN fun K hK => ?_; simp only [EV, seval]; refine hK _ _ _ ?_; clear hK K; injection h with h; subst h; exact AX (b' := 64) [(4, .own 32 0), (5, .bool false)] [(32, .row 61 5 (encL EIIIII ([])))] [(32, some 64)] [] hρ (EQ [32] (by simp only [EV, Try.results82, seval]))
  ·refine AW_skip (AK ?_); refine AR hN fun K hK => ?_; obtain ⟨x5, h4, h⟩ := bO_inv h; simp only [EV, seval]; refine CP (s_InvSqrt2Power_ok h4) ?_; obtain ⟨x6, h5, h⟩ := bO_inv h; simp only [EV, seval]; refine rC_l (s_ScaleState_ok h5) (by simp only [AL, EV, seval]) (by simp only [AL, EF, and_self]) (le_d rfl) (site_1 (by simp only [EV, seval])) ?_; simp only [EV, seval]; refine hK _ _ _ ?_; clear hK K; injection h with h; subst h; exact AX (b' := 64) [(4, .own 32 x6.1.length), (5, .bool x6.2)] [(32, .row 61 5 (encL EIIIII x6.1))] [(32, some 96)] [] hρ (EQ [32] (by simp only [EV, Try.results82, seval]))
end Go.Proofs.Ytplbdmigbakmlaa
/- Models of functions, and that the functions do what the models say; printed by a program. -/
namespace Go.Proofs.Ytplbdmigbakmlaa
open Go.RowKit
set_option maxRecDepth 100000
set_option linter.unusedVariables false
set_option linter.unusedSimpArgs false
set_option linter.defProp false
set_option maxHeartbeats 4000000
/- spec.l27From -/
def s_l27From_j1 (v5 : List (Int × Int × Int × Int × Int)) : Option (List (Int × Int × Int × Int × Int) × Bool) :=
  some (v5, true)
def s_l27From_l1 (a1 : Int) (a2 : LQ) : Nat → Int → (List (Int × Int × Int × Int × Int)) → Option (List (Int × Int × Int × Int × Int) × Bool)
  | 0, _, _ => none
  | n1 + 1, v3, v4 =>
  br (decide (v3 < a1)) (bO (geti a2 (IntKind.wrap .i64 (a1 + v3))) fun q3 => bO (s_ProjectState q3.1 q3.2.1 q3.2.2.1 q3.2.2.2 v4) fun x4 => br (!x4.2) (some ([], false)) ((s_l27From_l1 a1 a2 n1) (IntKind.wrap .i64 (v3 + 1)) x4.1)) (s_l27From_j1 v4)
def s_l27From (a1 : Int) (a2 : LQ) (a3 : Int) : Option (List (Int × Int × Int × Int × Int) × Bool) :=
  bO (s_BasisState a1 a3) fun x1 => s_l27From_l1 a1 a2 FU 0 x1
theorem s_l27From_ok {a1 : Int} {a2 : LQ} {a3 : Int} {r : List (Int × Int × Int × Int × Int) × Bool} (h : s_l27From a1 a2 a3 = some r) :
    Spec Try.prog 63 [.agg [.int .i64 a1, .sl (encL EIIII a2) a2.length], .int .i64 a3] [] (.tup [.own 0 r.1.length, .bool r.2]) [.row 61 5 (encL EIIIII r.1)] := by
 unfold s_l27From at h; refine SO Try.func63 rfl Try.ntmps63 fun C hN hρ => ?_; simp only [st0, tmps0, Nat.zero_add, Nat.reduceAdd]; refine AR hN fun K hK => ?_; simp only [EV, seval]; refine hK _ _ _ ?_; clear hK K; refine AR hN fun K hK => ?_; obtain ⟨x1, h1, h⟩ := bO_inv h; simp only [EV, seval]; refine rC_p (s_BasisState_ok h1) (by simp only [AL, EV, seval]) (le_d rfl) (site_1 (by simp only [EV, seval])) ?_; simp only [EV, seval]; refine hK _ _ _ ?_; clear hK K; refine AW_cutK (fun S => ∃ (v5 : List (Int × Int × Int × Int × Int)), S = ⟨mkT [(6, .own 32 v5.length)], mkR [(32, .row 61 5 (encL EIIIII v5))], 64⟩ ∧ s_l27From_j1 v5 = some r) ?_ ?_
 ·refine AR hN fun K hK => ?_; simp only [EV, seval]; refine hK _ _ _ ?_; clear hK K; refine AW_block ?_; refine AW_loopF (fun n S => ∃ (v3 : Int) (v4 : List (Int × Int × Int × Int × Int)), S = ⟨mkT [(2, .ptr 32 0), (6, .own 33 v4.length), (7, .int .i64 v3)], mkR [(32, .box 42 [.int .i64 a1, .sl (encL EIIII a2) a2.length]), (33, .row 61 5 (encL EIIIII v4))], 64⟩ ∧ s_l27From_l1 a1 a2 n v3 v4 = some r) FU ?_ ?_ ?_
  ·refine cutL ⟨_, _, rfl, h⟩ (Le_can [(32, some 64), (33, some 1136)] [] hρ (by kernel_rfl) ?_ ?_)
   ·simp only [AL, EV, seval]
   ·simp only [AL, EV, seval]
  ·rintro S ⟨_, _, _, h⟩; rw [s_l27From_l1] at h; cases h
  ·rintro n1 S ⟨v3, v4, rfl, h⟩; rw [s_l27From_l1] at h; refine AW_seq ?_; refine AR hN fun K hK => ?_; simp only [EV, seval]; refine hK _ _ _ ?_; clear hK K; refine AB h (fun hc5 h => ?_) fun hc5 h => ?_
   ·refine AW_skip (AK ?_); refine AW_seq ?_; refine AW_block ?_; refine AR hN fun K hK => ?_; obtain ⟨q3, h8, h⟩ := bO_inv h; obtain ⟨⟨h9a, h9b⟩, h9c⟩ := geti_E EIIIIl h8; (try simp only [EV, seval] at h9c); obtain ⟨x4, h10, h⟩ := bO_inv h; simp only [EV, seval, h9a, h9b, h9c]; refine rC_l (s_ProjectState_ok h10) (by simp only [AL, EV, seval, h9a, h9b, h9c]) (by simp only [AL, EF, and_self]) (le_d rfl) (site_1 (by simp only [EV, seval])) ?_; simp only [EV, seval, h9a, h9b, h9c]; refine hK _ _ _ ?_; clear hK K; refine AW_seq ?_; refine AR hN fun K hK => ?_; simp only [EV, seval]; refine hK _ _ _ ?_; clear hK K; refine AB h (fun hc6 h => ?_) fun hc6 h => ?_
    ·refine AR hN fun K hK => ?_; simp only [EV, seval]; refine hK _ _ _ ?_; clear hK K; injection h with h; subst h; exact AX (b' := 64) [(4, .own 32 0), (5, .bool false)] [(32, .row 61 5 (encL EIIIII ([])))] [(32, some 3136)] [] hρ (EQ [32] (by simp only [EV, Try.results63, seval]))
    ·refine AW_skip (AK ?_); refine AS hN fun K hK => ?_; simp only [EV, seval]; refine hK _ _ _ (show AW _ _ _ _ _ from ?_); refine AS hN fun K hK => ?_; simp only [EV, seval]; exact hK _ _ _ (AC ⟨_, _, rfl, h⟩ [(32, some 32), (33, some 1232)] [] hρ)
   ·refine AW_exit (show cutK _ _ _ from cutL ⟨_, rfl, h⟩ (Le_can [(32, some 33)] [] hρ (by kernel_rfl) ?_ ?_))
    ·simp only [AL, EV, seval]
    ·simp only [AL, EV, seval]
 ·rintro S ⟨v5, rfl, h⟩; unfold s_l27From_j1 at h; refine AR hN fun K hK => ?_; simp only [EV, seval]; refine hK _ _ _ ?_; clear hK K; injection h with h; subst h; exact AX (b' := 64) [(4, .own 32 v5.length), (5, .bool true)] [(32, .row 61 5 (encL EIIIII v5))] [(32, some 32)] [] hρ (EQ [32] (by simp only [EV, Try.results63, seval]))
/- spec.l27None -/
def s_l27None_j1 : Option Bool :=
  some true
def s_l27None_l1 (a1 : List (Int × Int × Int × Int × Int)) : Nat → Int → Option Bool
  | 0, _ => none
  | n1 + 1, v2 =>
  br (decide (v2 < ((a1.length : Int)))) (bO (geti a1 v2) fun q3 => br (!((q3.1 == 0) && ((q3.2.1 == 0) && ((q3.2.2.1 == 0) && ((q3.2.2.2.1 == 0) && (q3.2.2.2.2 == 0)))))) (some false) ((s_l27None_l1 a1 n1) (IntKind.wrap .i64 (v2 + 1)))) (s_l27None_j1)
def s_l27None (a1 : List (Int × Int × Int × Int × Int)) : Option Bool :=
  s_l27None_l1 a1 FU 0
theorem s_l27None_ok {a1 : List (Int × Int × Int × Int × Int)} {r : Bool} (h : s_l27None a1 = some r) :
    Spec Try.prog 64 [.sl (encL EIIIII a1) a1.length] [] (.bool r) [] := by
 unfold s_l27None at h; refine SO Try.func64 rfl Try.ntmps64 fun C hN hρ => ?_; simp only [st0, tmps0, Nat.zero_add, Nat.reduceAdd]; refine AR hN fun K hK => ?_; simp only [EV, seval]; refine hK _ _ _ ?_; clear hK K; refine AW_cutK (fun S => S = ⟨mkT [], mkR [], 64⟩ ∧ s_l27None_j1 = some r) ?_ ?_
 ·refine AR hN fun K hK => ?_; simp only [EV, seval]; refine hK _ _ _ ?_; clear hK K; refine AW_block ?_; refine AW_loopF (fun n S => ∃ (v2 : Int), S = ⟨mkT [(0, .sl (encL EIIIII a1) a1.length), (3, .int .i64 v2)], mkR [], 64⟩ ∧ s_l27None_l1 a1 n v2 = some r) FU ?_ ?_ ?_
  ·refine cutL ⟨_, rfl, h⟩ (Le_can [] [] hρ (by kernel_rfl) ?_ ?_)
   ·simp only [AL, EV, seval]
   ·simp only [AL, EV, seval]
  ·rintro S ⟨_, _, h⟩; rw [s_l27None_l1] at h; cases h
  ·rintro n1 S ⟨v2, rfl, h⟩; rw [s_l27None_l1] at h; refine AW_seq ?_; refine AR hN fun K hK => ?_; simp only [EV, seval]; refine hK _ _ _ ?_; clear hK K; refine AB h (fun hc5 h => ?_) fun hc5 h => ?_
   ·refine AW_skip (AK ?_); refine AW_seq ?_; refine AW_block ?_; refine AR hN fun K hK => ?_; obtain ⟨q3, h5, h⟩ := bO_inv h; obtain ⟨⟨h6a, h6b⟩, h6c⟩ := geti_E EIIIIIl h5; (try simp only [EV, seval] at h6c); simp only [EV, seval, h6a, h6b, h6c]; refine hK _ _ _ ?_; clear hK K; refine AW_condK (a := .bool (!((q3.1 == 0) && ((q3.2.1 == 0) && ((q3.2.2.1 == 0) && ((q3.2.2.2.1 == 0) && (q3.2.2.2.2 == 0))))))) (by simp only [EV, seval, h6a, h6b, h6c]) (brK h (fun hc6 h => ?_) (fun hc6 h => ?_))
    ·refine AR hN fun K hK => ?_; simp only [EV, seval]; refine hK _ _ _ ?_; clear hK K; injection h with h; subst h; exact AX (b' := 64) [(2, .bool false)] [] [] [] hρ (EQ [] (by simp only [EV, Try.results64, seval]))
    ·refine AW_skip (AK ?_); refine AS hN fun K hK => ?_; simp only [EV, seval]; exact hK _ _ _ (AC ⟨_, rfl, h⟩ [] [] hρ)
   ·refine AW_exit (show cutK _ _ _ from cutL ⟨rfl, h⟩ (Le_can [] [] hρ (by kernel_rfl) ?_ ?_))
    ·simp only [AL, EV, seval]
    ·simp only [AL, EV, seval]
 ·rintro S ⟨rfl, h⟩; unfold s_l27None_j1 at h; refine AR hN fun K hK => ?_; simp only [EV, seval]; refine hK _ _ _ ?_; clear hK K; injection h with h; subst h; exact AX (b' := 64) [(2, .bool true)] [] [] [] hρ (EQ [] (by simp only [EV, Try.results64, seval]))
/- spec.ConjZOmega -/
def s_ConjZOmega (a1 : Int) (a2 : Int) (a3 : Int) (a4 : Int) : Option (Int × Int × Int × Int) :=
  bO (s_IsValidZOmega a1 a2 a3 a4) fun x1 => br (!x1) (some (0, 0, 0, 0)) (some (a1, IntKind.wrap .i64 (0 - a4), IntKind.wrap .i64 (0 - a3), IntKind.wrap .i64 (0 - a2)))
theorem s_ConjZOmega_ok {a1 : Int} {a2 : Int} {a3 : Int} {a4 : Int} {r : Int × Int × Int × Int} (h : s_ConjZOmega a1 a2 a3 a4 = some r) :
    Spec Try.prog 117 [.agg [.int .i64 a1, .int .i64 a2, .int .i64 a3, .int .i64 a4]] [] (.agg [.int .i64 r.1, .int .i64 r.2.1, .int .i64 r.2.2.1, .int .i64 r.2.2.2]) [] := by
 unfold s_ConjZOmega at h; refine SO Try.func117 rfl Try.ntmps117 fun C hN hρ => ?_; simp only [st0, tmps0, Nat.zero_add, Nat.reduceAdd]; refine AR hN fun K hK => ?_; simp only [EV, seval]; refine hK _ _ _ ?_; clear hK K; refine AW_seq ?_; refine AR hN fun K hK => ?_; obtain ⟨x1, h1, h⟩ := bO_inv h; simp only [EV, seval]; refine CP (s_IsValidZOmega_ok h1) ?_; simp only [EV, seval]; refine hK _ _ _ ?_; clear hK K; refine AB h (fun hc1 h => ?_) fun hc1 h => ?_
 ·refine AR hN fun K hK => ?_; simp only [EV, seval]; refine hK _ _ _ ?_; clear hK K; injection h with h; subst h; exact AX (b' := 64) [(2, .ptr 32 0)] [(32, .box 59 [.int .i64 0, .int .i64 0, .int .i64 0, .int .i64 0])] [(32, some 80)] [] hρ (EQ [] (by simp only [EV, Try.results117, seval]))
 ·refine AW_skip (AK ?_); refine AR hN fun K hK => ?_; simp only [EV, seval]; refine hK _ _ _ ?_; clear hK K; injection h with h; subst h; exact AX (b' := 64) [(2, .ptr 32 0)] [(32, .box 59 [.int .i64 a1, .int .i64 (IntKind.wrap .i64 (0 - a4)), .int .i64 (IntKind.wrap .i64 (0 - a3)), .int .i64 (IntKind.wrap .i64 (0 - a2))])] [(32, some 80)] [] hρ (EQ [] (by simp only [EV, Try.results117, seval]))
/- spec.ConjDOmega -/
def s_ConjDOmega (a1 : Int) (a2 : Int) (a3 : Int) (a4 : Int) (a5 : Int) : Option (Int × Int × Int × Int × Int) :=
  bO (s_IsValidDOmega a1 a2 a3 a4 a5) fun x1 => br (!x1) (some (0, 0, 0, 0, 0)) (bO (s_ConjZOmega a1 a2 a3 a4) fun x2 => some (x2.1, x2.2.1, x2.2.2.1, x2.2.2.2, a5))
theorem s_ConjDOmega_ok {a1 : Int} {a2 : Int} {a3 : Int} {a4 : Int} {a5 : Int} {r : Int × Int × Int × Int × Int} (h : s_ConjDOmega a1 a2 a3 a4 a5 = some r) :
    Spec Try.prog 109 [.agg [.int .i64 a1, .int .i64 a2, .int .i64 a3, .int .i64 a4, .int .i64 a5]] [] (.agg [.int .i64 r.1, .int .i64 r.2.1, .int .i64 r.2.2.1, .int .i64 r.2.2.2.1, .int .i64 r.2.2.2.2]) [] := by
 unfold s_ConjDOmega at h; refine SO Try.func109 rfl Try.ntmps109 fun C hN hρ => ?_; simp only [st0, tmps0, Nat.zero_add, Nat.reduceAdd]; refine AR hN fun K hK => ?_; simp only [EV, seval]; refine hK _ _ _ ?_; clear hK K; refine AW_seq ?_; refine AR hN fun K hK => ?_; obtain ⟨x1, h1, h⟩ := bO_inv h; simp only [EV, seval]; refine CP (s_IsValidDOmega_ok h1) ?_; simp only [EV, seval]; refine hK _ _ _ ?_; clear hK K; refine AB h (fun hc1 h => ?_) fun hc1 h => ?_
 ·refine AR hN fun K hK => ?_; simp only [EV, seval]; refine hK _ _ _ ?_; clear hK K; injection h with h; subst h; exact AX (b' := 64) [(2, .ptr 32 0)] [(32, .box 61 [.int .i64 0, .int .i64 0, .int .i64 0, .int .i64 0, .int .i64 0])] [(32, some 80)] [] hρ (EQ [] (by simp only [EV, Try.results109, seval]))
 ·refine AW_skip (AK ?_); refine AR hN fun K hK => ?_; obtain ⟨x2, h2, h⟩ := bO_inv h; simp only [EV, seval]; refine CP (s_ConjZOmega_ok h2) ?_; simp only [EV, seval]; refine hK _ _ _ ?_; clear hK K; injection h with h; subst h; exact AX (b' := 64) [(2, .ptr 32 0)] [(32, .box 61 [.int .i64 x2.1, .int .i64 x2.2.1, .int .i64 x2.2.2.1, .int .i64 x2.2.2.2, .int .i64 a5])] [(32, some 80)] [] hρ (EQ [] (by simp only [EV, Try.results109, seval]))
/- spec.InnerProduct -/
def s_InnerProduct_j5 (v10 : Int) (kl1 : Int → Int → Int → Int → Int → Int → Option (Int × Int × Int × Int × Int × Bool)) (x18 : Int × Int × Int × Int × Int × Bool) (v16 : Bool) : Option (Int × Int × Int × Int × Int × Bool) :=
  br v16 (some (0, 0, 0, 0, 0, false)) (kl1 (IntKind.wrap .i64 (v10 + 1)) x18.1 x18.2.1 x18.2.2.1 x18.2.2.2.1 x18.2.2.2.2.1)
def s_InnerProduct_j2 (v17 : Int) (v18 : Int) (v19 : Int) (v20 : Int) (v21 : Int) : Option (Int × Int × Int × Int × Int × Bool) :=
  some (v17, v18, v19, v20, v21, true)
def s_InnerProduct_l1 (a1 : List (Int × Int × Int × Int × Int)) (a2 : List (Int × Int × Int × Int × Int)) : Nat → Int → Int → Int → Int → Int → Int → Option (Int × Int × Int × Int × Int × Bool)
  | 0, _, _, _, _, _, _ => none
  | n1 + 1, v10, v11, v12, v13, v14, v15 =>
  br (decide (v10 < ((a2.length : Int)))) (bO (geti a1 v10) fun q5 => bO (s_ConjDOmega q5.1 q5.2.1 q5.2.2.1 q5.2.2.2.1 q5.2.2.2.2) fun x16 => bO (geti a2 v10) fun q6 => bO (s_MulDOmega x16.1 x16.2.1 x16.2.2.1 x16.2.2.2.1 x16.2.2.2.2 q6.1 q6.2.1 q6.2.2.1 q6.2.2.2.1 q6.2.2.2.2) fun x17 => bO (s_AddDOmega v11 v12 v13 v14 v15 x17.1 x17.2.1 x17.2.2.1 x17.2.2.2.1 x17.2.2.2.2.1) fun x18 => bO (br (!x17.2.2.2.2.2) (some true) (some (!x18.2.2.2.2.2))) fun x19 => s_InnerProduct_j5 v10 (s_InnerProduct_l1 a1 a2 n1) x18 x19) (s_InnerProduct_j2 v11 v12 v13 v14 v15)
def s_InnerProduct_j1 (a1 : List (Int × Int × Int × Int × Int)) (a2 : List (Int × Int × Int × Int × Int)) (v1 : Bool) : Option (Int × Int × Int × Int × Int × Bool) :=
  br v1 (some (0, 0, 0, 0, 0, false)) (s_InnerProduct_l1 a1 a2 FU 0 0 0 0 0 0)
def s_InnerProduct (a1 : List (Int × Int × Int × Int × Int)) (a2 : List (Int × Int × Int × Int × Int)) : Option (Int × Int × Int × Int × Int × Bool) :=
  bO (s_IsValidState a1) fun x1 => bO (br (!x1) (some true) (bO (s_IsValidState a2) fun x2 => some (!x2))) fun x3 => bO (br x3 (some true) (some (((a1.length : Int)) != ((a2.length : Int))))) fun x4 => s_InnerProduct_j1 a1 a2 x4
theorem s_InnerProduct_ok {a1 : List (Int × Int × Int × Int × Int)} {a2 : List (Int × Int × Int × Int × Int)} {r : Int × Int × Int × Int × Int × Bool} (h : s_InnerProduct a1 a2 = some r) :
    Spec Try.prog 85 [.sl (encL EIIIII a1) a1.length, .sl (encL EIIIII a2) a2.length] [] (.tup [.agg [.int .i64 r.1, .int .i64 r.2.1, .int .i64 r.2.2.1, .int .i64 r.2.2.2.1, .int .i64 r.2.2.2.2.1], .bool r.2.2.2.2.2]) [] := by
 unfold s_InnerProduct at h; refine SO Try.func85 rfl Try.ntmps85 fun C hN hρ => ?_; simp only [st0, tmps0, Nat.zero_add, Nat.reduceAdd]; refine AR hN fun K hK => ?_; simp only [EV, seval]; refine hK _ _ _ ?_; clear hK K; refine AW_seq ?_; refine AJ (fun S => ∃ (v1 : Bool), S = ⟨mkT [(0, .sl (encL EIIIII a1) a1.length), (1, .sl (encL EIIIII a2) a2.length), (4, .ptr 32 0), (26, .bool v1)], mkR [(32, .box 61 [.int .i64 0, .int .i64 0, .int .i64 0, .int .i64 0, .int .i64 0])], 64⟩ ∧ s_InnerProduct_j1 a1 a2 v1 = some r) hN ?_ ?_
 ·intro K hK; obtain ⟨x1, h1, h⟩ := bO_inv h; simp only [EV, seval]; refine CP (s_IsValidState_ok h1) ?_; obtain ⟨x3, hv1, h⟩ := bO_inv h; rcases br_inv hv1 with ⟨hc1, hv1⟩ | ⟨hc1, hv1⟩
  ·cases hv1; obtain ⟨x5, hv3, h⟩ := bO_inv h; replace hv3 := br_t hv3; cases hv3; (try dsimp only at h); simp only [EV, seval, hc1]; refine hK _ _ _ (show cutK _ _ _ from cutL ⟨_, rfl, h⟩ (Le_can [(32, some 64)] [] hρ (by kernel_rfl) ?_ ?_))
   ·simp only [AL, EV, seval, hc1]
   ·simp only [AL, EV, seval, hc1]
  ·obtain ⟨x6, h3, hv1⟩ := bO_inv hv1; simp only [EV, seval, hc1]; refine rC_p (s_IsValidState_ok h3) (by simp only [AL, EV, seval, hc1]) (le_d rfl) (no_j rfl) ?_; cases hv1; obtain ⟨x7, hv4, h⟩ := bO_inv h; rcases br_inv hv4 with ⟨hc3, hv4⟩ | ⟨hc3, hv4⟩
   ·cases hv4; simp only [EV, seval, hc1, hc3]; refine hK _ _ _ (show cutK _ _ _ from cutL ⟨_, rfl, h⟩ (Le_can [(32, some 64)] [] hρ (by kernel_rfl) ?_ ?_))
    ·simp only [AL, EV, seval, hc1, hc3]
    ·simp only [AL, EV, seval, hc1, hc3]
   ·cases hv4; simp only [EV, seval, hc1, hc3]; refine hK _ _ _ (show cutK _ _ _ from cutL ⟨_, rfl, h⟩ (Le_can [(32, some 64)] [] hρ (by kernel_rfl) ?_ ?_))
    ·simp only [AL, EV, seval, hc1, hc3]
    ·simp only [AL, EV, seval, hc1, hc3]
 ·rintro S ⟨v1, rfl, h⟩; unfold s_InnerProduct_j1 at h; refine AB h (fun hc4 h => ?_) fun hc4 h => ?_
  ·refine AR hN fun K hK => ?_; simp only [EV, seval]; refine hK _ _ _ ?_; clear hK K; injection h with h; subst h; exact AX (b' := 64) [(4, .ptr 32 0), (5, .bool false)] [(32, .box 61 [.int .i64 0, .int .i64 0, .int .i64 0, .int .i64 0, .int .i64 0])] [(32, some 32)] [] hρ (EQ [] (by simp only [EV, Try.results85, seval]))
  ·refine AW_skip (AK ?_); refine AR hN fun K hK => ?_; simp only [EV, seval]; refine hK _ _ _ ?_; clear hK K; refine AW_cutK (fun S => ∃ (v17 : Int) (v18 : Int) (v19 : Int) (v20 : Int) (v21 : Int), S = ⟨mkT [(4, .ptr 32 0), (6, .ptr 33 0)], mkR [(32, .box 61 [.int .i64 0, .int .i64 0, .int .i64 0, .int .i64 0, .int .i64 0]), (33, .box 61 [.int .i64 v17, .int .i64 v18, .int .i64 v19, .int .i64 v20, .int .i64 v21])], 64⟩ ∧ s_InnerProduct_j2 v17 v18 v19 v20 v21 = some r) ?_ ?_
   ·refine AR hN fun K hK => ?_; simp only [EV, seval]; refine hK _ _ _ ?_; clear hK K; refine AW_block ?_; refine AW_loopF (fun n S => ∃ (v10 : Int) (v11 : Int) (v12 : Int) (v13 : Int) (v14 : Int) (v15 : Int), S = ⟨mkT [(0, .sl (encL EIIIII a1) a1.length), (1, .sl (encL EIIIII a2) a2.length), (4, .ptr 32 0), (6, .ptr 33 0), (7, .int .i64 v10)], mkR [(32, .box 61 [.int .i64 0, .int .i64 0, .int .i64 0, .int .i64 0, .int .i64 0]), (33, .box 61 [.int .i64 v11, .int .i64 v12, .int .i64 v13, .int .i64 v14, .int .i64 v15])], 64⟩ ∧ s_InnerProduct_l1 a1 a2 n v10 v11 v12 v13 v14 v15 = some r) FU ?_ ?_ ?_
    ·refine cutL ⟨_, _, _, _, _, _, rfl, h⟩ (Le_can [(32, some 32), (33, some 80)] [] hρ (by kernel_rfl) ?_ ?_)
     ·simp only [AL, EV, seval]
     ·simp only [AL, EV, seval]
    ·rintro S ⟨_, _, _, _, _, _, _, h⟩; rw [s_InnerProduct_l1] at h; cases h
    ·rintro n1 S ⟨v10, v11, v12, v13, v14, v15, rfl, h⟩; rw [s_InnerProduct_l1] at h; refine AW_seq ?_; refine AR hN fun K hK => ?_; simp only [EV, seval]; refine hK _ _ _ ?_; clear hK K; refine AB h (fun hc11 h => ?_) fun hc11 h => ?_
     ·refine AW_skip (AK ?_); refine AW_seq ?_; refine AW_block ?_; refine AR hN fun K hK => ?_; obtain ⟨q5, h18, h⟩ := bO_inv h; obtain ⟨⟨h19a, h19b⟩, h19c⟩ := geti_E EIIIIIl h18; (try simp only [EV, seval] at h19c); obtain ⟨x16, h20, h⟩ := bO_inv h; simp only [EV, seval, h19a, h19b, h19c]; refine rC_p (s_ConjDOmega_ok h20) (by simp only [AL, EV, seval, h19a, h19b, h19c]) (le_d rfl) (no_j rfl) ?_; obtain ⟨q6, h21, h⟩ := bO_inv h; obtain ⟨⟨h22a, h22b⟩, h22c⟩ := geti_E EIIIIIl h21; (try simp only [EV, seval] at h22c); obtain ⟨x17, h23, h⟩ := bO_inv h; simp only [EV, seval, h19a, h19b, h19c, h22a, h22b, h22c]; refine rC_p (s_MulDOmega_ok h23) (by simp only [AL, EV, seval, h19a, h19b, h19c, h22a, h22b, h22c]) (le_d rfl) (no_j rfl) ?_; simp only [EV, seval, h19a, h19b, h19c, h22a, h22b, h22c]; refine hK _ _ _ ?_; clear hK K; refine AR hN fun K hK => ?_; obtain ⟨x18, h24, h⟩ := bO_inv h; simp only [EV, seval]; refine CP (s_AddDOmega_ok h24) ?_; simp only [EV, seval]; refine hK _ _ _ ?_; clear hK K; refine AW_seq ?_; refine AJ (fun S => ∃ (v16 : Bool), S = ⟨mkT [(0, .sl (encL EIIIII a1) a1.length), (1, .sl (encL EIIIII a2) a2.length), (4, .ptr 32 0), (6, .ptr 33 0), (7, .int .i64 v10), (10, .ptr 34 0), (59, .bool v16)], mkR [(32, .box 61 [.int .i64 0, .int .i64 0, .int .i64 0, .int .i64 0, .int .i64 0]), (33, .box 61 [.int .i64 v11, .int .i64 v12, .int .i64 v13, .int .i64 v14, .int .i64 v15]), (34, .box 61 [.int .i64 x18.1, .int .i64 x18.2.1, .int .i64 x18.2.2.1, .int .i64 x18.2.2.2.1, .int .i64 x18.2.2.2.2.1])], 64⟩ ∧ s_InnerProduct_j5 v10 (s_InnerProduct_l1 a1 a2 n1) x18 v16 = some r) hN ?_ ?_
      ·intro K hK; obtain ⟨x19, hv7, h⟩ := bO_inv h; rcases br_inv hv7 with ⟨hc12, hv7⟩ | ⟨hc12, hv7⟩
       ·cases hv7; simp only [EV, seval, hc12]; refine hK _ _ _ (show cutK _ _ _ from cutL ⟨_, rfl, h⟩ (Le_can [(32, some 32), (33, some 33), (34, some 2208)] [] hρ (by kernel_rfl) ?_ ?_))
        ·simp only [AL, EV, seval, hc12]
        ·simp only [AL, EV, seval, hc12]
       ·cases hv7; simp only [EV, seval, hc12]; refine hK _ _ _ (show cutK _ _ _ from cutL ⟨_, rfl, h⟩ (Le_can [(32, some 32), (33, some 33), (34, some 2208)] [] hρ (by kernel_rfl) ?_ ?_))
        ·simp only [AL, EV, seval, hc12]
        ·simp only [AL, EV, seval, hc12]
      ·rintro S ⟨v16, rfl, h⟩; unfold s_InnerProduct_j5 at h; refine AB h (fun hc13 h => ?_) fun hc13 h => ?_
       ·refine AR hN fun K hK => ?_; simp only [EV, seval]; refine hK _ _ _ ?_; clear hK K; injection h with h; subst h; exact AX (b' := 64) [(4, .ptr 32 0), (5, .bool false)] [(32, .box 61 [.int .i64 0, .int .i64 0, .int .i64 0, .int .i64 0, .int .i64 0])] [(32, some 32)] [] hρ (EQ [] (by simp only [EV, Try.results85, seval]))
       ·refine AW_skip (AK ?_); refine AS hN fun K hK => ?_; simp only [EV, seval]; refine hK _ _ _ (show AW _ _ _ _ _ from ?_); refine AS hN fun K hK => ?_; simp only [EV, seval]; exact hK _ _ _ (AC ⟨_, _, _, _, _, _, rfl, h⟩ [(32, some 32), (33, some 33)] [] hρ)
     ·refine AW_exit (show cutK _ _ _ from cutL ⟨_, _, _, _, _, rfl, h⟩ (Le_can [(32, some 32), (33, some 33)] [] hρ (by kernel_rfl) ?_ ?_))
      ·simp only [AL, EV, seval]
      ·simp only [AL, EV, seval]
   ·rintro S ⟨v17, v18, v19, v20, v21, rfl, h⟩; unfold s_InnerProduct_j2 at h; refine AR hN fun K hK => ?_; simp only [EV, seval]; refine hK _ _ _ ?_; clear hK K; injection h with h; subst h; exact AX (b' := 64) [(4, .ptr 32 0), (5, .bool true)] [(32, .box 61 [.int .i64 v17, .int .i64 v18, .int .i64 v19, .int .i64 v20, .int .i64 v21])] [(32, some 32)] [] hρ (EQ [] (by simp only [EV, Try.results85, seval]))
/- spec.l27Whole -/
def s_l27Whole_j4 (x3 : Int × Int × Int × Int × Int × Bool) (v5 : List (Int × Int × Int × Int × Int)) (v6 : Int) (kl1 : (List (Int × Int × Int × Int × Int)) → Int → Option (List (Int × Int × Int × Int × Int) × Bool)) (v7 : Bool) : Option (List (Int × Int × Int × Int × Int) × Bool) :=
  br v7 (some (v5, true)) (bO (s_ScaleState v5 x3.1 x3.2.1 x3.2.2.1 x3.2.2.2.1 x3.2.2.2.2.1) fun x16 => br (!x16.2) (some ([], false)) (kl1 x16.1 (IntKind.wrap .i64 (v6 + 1))))
def s_l27Whole_j1 : Option (List (Int × Int × Int × Int × Int) × Bool) :=
  some ([], false)
def s_l27Whole_l1 (x3 : Int × Int × Int × Int × Int × Bool) : Nat → (List (Int × Int × Int × Int × Int)) → Int → Option (List (Int × Int × Int × Int × Int) × Bool)
  | 0, _, _ => none
  | n1 + 1, v5, v6 =>
  br (decide (v6 ≤ 4)) (bO (s_InnerProduct v5 v5) fun x12 => bO (br x12.2.2.2.2.2 (bO (s_OneDOmega) fun x13 => some (((x12.1 == x13.1) && ((x12.2.1 == x13.2.1) && ((x12.2.2.1 == x13.2.2.1) && ((x12.2.2.2.1 == x13.2.2.2.1) && (x12.2.2.2.2.1 == x13.2.2.2.2))))))) (some false)) fun x14 => s_l27Whole_j4 x3 v5 v6 (s_l27Whole_l1 x3 n1) x14) (s_l27Whole_j1)
def s_l27Whole (a1 : List (Int × Int × Int × Int × Int)) : Option (List (Int × Int × Int × Int × Int) × Bool) :=
  bO (s_InvSqrt2Power 1) fun x1 => bO (s_InvSqrt2Power 1) fun x2 => bO (s_AddDOmega x1.1 x1.2.1 x1.2.2.1 x1.2.2.2.1 x1.2.2.2.2 x2.1 x2.2.1 x2.2.2.1 x2.2.2.2.1 x2.2.2.2.2) fun x3 => s_l27Whole_l1 x3 FU a1 0
theorem s_l27Whole_ok {a1 : List (Int × Int × Int × Int × Int)} {r : List (Int × Int × Int × Int × Int) × Bool} (h : s_l27Whole a1 = some r) :
    Spec Try.prog 65 [.sl (encL EIIIII a1) a1.length] [] (.tup [.sl (encL EIIIII r.1) r.1.length, .bool r.2]) [] := by
 unfold s_l27Whole at h; refine SO Try.func65 rfl Try.ntmps65 fun C hN hρ => ?_; simp only [st0, tmps0, Nat.zero_add, Nat.reduceAdd]; refine AR hN fun K hK => ?_; simp only [EV, seval]; refine hK _ _ _ ?_; clear hK K; refine AR hN fun K hK => ?_; obtain ⟨x1, h1, h⟩ := bO_inv h; simp only [EV, seval]; refine CP (s_InvSqrt2Power_ok h1) ?_; obtain ⟨x2, h2, h⟩ := bO_inv h; simp only [EV, seval]; refine CP (s_InvSqrt2Power_ok h2) ?_; obtain ⟨x3, h3, h⟩ := bO_inv h; simp only [EV, seval]; refine CP (s_AddDOmega_ok h3) ?_; simp only [EV, seval]; refine hK _ _ _ ?_; clear hK K; refine AW_cutK (fun S => S = ⟨mkT [], mkR [], 64⟩ ∧ s_l27Whole_j1 = some r) ?_ ?_
 ·refine AR hN fun K hK => ?_; simp only [EV, seval]; refine hK _ _ _ ?_; clear hK K; refine AW_block ?_; refine AW_loopF (fun n S => ∃ (v5 : List (Int × Int × Int × Int × Int)) (v6 : Int), S = ⟨mkT [(0, .sl (encL EIIIII v5) v5.length), (4, .ptr 32 0), (6, .int .i64 v6)], mkR [(32, .box 61 [.int .i64 x3.1, .int .i64 x3.2.1, .int .i64 x3.2.2.1, .int .i64 x3.2.2.2.1, .int .i64 x3.2.2.2.2.1])], 64⟩ ∧ s_l27Whole_l1 x3 n v5 v6 = some r) FU ?_ ?_ ?_
  ·refine cutL ⟨_, _, rfl, h⟩ (Le_can [(32, some 1184)] [] hρ (by kernel_rfl) ?_ ?_)
   ·simp only [AL, EV, seval]
   ·simp only [AL, EV, seval]
  ·rintro S ⟨_, _, _, h⟩; rw [s_l27Whole_l1] at h; cases h
  ·rintro n1 S ⟨v5, v6, rfl, h⟩; rw [s_l27Whole_l1] at h; refine AW_seq ?_; refine AR hN fun K hK => ?_; simp only [EV, seval]; refine hK _ _ _ ?_; clear hK K; refine AB h (fun hc9 h => ?_) fun hc9 h => ?_
   ·refine AW_skip (AK ?_); refine AW_seq ?_; refine AW_block ?_; refine AR hN fun K hK => ?_; obtain ⟨x12, h10, h⟩ := bO_inv h; simp only [EV, seval]; refine CP (s_InnerProduct_ok h10) ?_; simp only [EV, seval]; refine hK _ _ _ ?_; clear hK K; refine AW_seq ?_; refine AJ (fun S => ∃ (v7 : Bool), S = ⟨mkT [(0, .sl (encL EIIIII v5) v5.length), (4, .ptr 32 0), (6, .int .i64 v6), (32, .bool v7)], mkR [(32, .box 61 [.int .i64 x3.1, .int .i64 x3.2.1, .int .i64 x3.2.2.1, .int .i64 x3.2.2.2.1, .int .i64 x3.2.2.2.2.1])], 64⟩ ∧ s_l27Whole_j4 x3 v5 v6 (s_l27Whole_l1 x3 n1) v7 = some r) hN ?_ ?_
    ·intro K hK; obtain ⟨x14, hv3, h⟩ := bO_inv h; rcases br_inv hv3 with ⟨hc10, hv3⟩ | ⟨hc10, hv3⟩
     ·obtain ⟨x15, h12, hv3⟩ := bO_inv hv3; simp only [EV, seval, hc10]; refine rC_p (s_OneDOmega_ok h12) (by simp only [AL, EV, seval, hc10]) (le_d rfl) (no_j rfl) ?_; cases hv3; simp only [EV, seval, hc10]; refine hK _ _ _ (show cutK _ _ _ from cutL ⟨_, rfl, h⟩ (Le_can [(32, some 32)] [] hρ (by kernel_rfl) ?_ ?_))
      ·simp only [AL, EV, seval, hc10]
      ·simp only [AL, EV, seval, hc10]
     ·cases hv3; simp only [EV, seval, hc10]; refine hK _ _ _ (show cutK _ _ _ from cutL ⟨_, rfl, h⟩ (Le_can [(32, some 32)] [] hρ (by kernel_rfl) ?_ ?_))
      ·simp only [AL, EV, seval, hc10]
      ·simp only [AL, EV, seval, hc10]
    ·rintro S ⟨v7, rfl, h⟩; unfold s_l27Whole_j4 at h; refine AB h (fun hc11 h => ?_) fun hc11 h => ?_
     ·refine AR hN fun K hK => ?_; simp only [EV, seval]; refine hK _ _ _ ?_; clear hK K; injection h with h; subst h; exact AX (b' := 64) [(2, .sl (encL EIIIII v5) v5.length), (3, .bool true)] [] [] [] hρ (EQ [] (by simp only [EV, Try.results65, seval]))
     ·refine AW_skip (AK ?_); refine AR hN fun K hK => ?_; obtain ⟨x16, h13, h⟩ := bO_inv h; simp only [EV, seval]; refine rC_p (s_ScaleState_ok h13) (by simp only [AL, EV, seval]) (le_d rfl) (site_1 (by simp only [EV, seval])) ?_; simp only [EV, seval]; refine hK _ _ _ ?_; clear hK K; refine AW_seq ?_; refine AR hN fun K hK => ?_; simp only [EV, seval]; refine hK _ _ _ ?_; clear hK K; refine AB h (fun hc12 h => ?_) fun hc12 h => ?_
      ·refine AR hN fun K hK => ?_; simp only [EV, seval]; refine hK _ _ _ ?_; clear hK K; injection h with h; subst h; exact AX (b' := 64) [(2, .sl (encL EIIIII ([])) 0), (3, .bool false)] [] [] [2112] hρ (EQ [] (by simp only [EV, Try.results65, seval]))
      ·refine AW_skip (AK ?_); refine AS hN fun K hK => ?_; simp only [EV, seval]; refine hK _ _ _ (show AW _ _ _ _ _ from ?_); refine AS hN fun K hK => ?_; simp only [EV, seval]; exact hK _ _ _ (AC ⟨_, _, rfl, h⟩ [(32, some 32)] [96] hρ)
   ·refine AW_exit (show cutK _ _ _ from cutL ⟨rfl, h⟩ (Le_can [] [] hρ (by kernel_rfl) ?_ ?_))
    ·simp only [AL, EV, seval]
    ·simp only [AL, EV, seval]
 ·rintro S ⟨rfl, h⟩; unfold s_l27Whole_j1 at h; refine AR hN fun K hK => ?_; simp only [EV, seval]; refine hK _ _ _ ?_; clear hK K; injection h with h; subst h; exact AX (b' := 64) [(2, .sl (encL EIIIII ([])) 0), (3, .bool false)] [] [] [64] hρ (EQ [] (by simp only [EV, Try.results65, seval]))
/- spec.StabilizerState -/
def s_StabilizerState_j1 : Option (List (Int × Int × Int × Int × Int) × Bool) :=
  some ([], false)
def s_StabilizerState_j4 (a1 : Int) (a2 : LQ) (v4 : Int) (kl1 : Int → Option (List (Int × Int × Int × Int × Int) × Bool)) (v5 : Bool) : Option (List (Int × Int × Int × Int × Int) × Bool) :=
  br v5 (bO (s_l27From a1 a2 v4) fun x13 => br (!x13.2) (some ([], false)) (bO (s_l27None x13.1) fun x14 => br (!x14) (bO (s_l27Whole x13.1) fun x15 => some (x15.1, x15.2)) (kl1 (IntKind.wrap .i64 (v4 + 1))))) (s_StabilizerState_j1)
def s_StabilizerState_l1 (a1 : Int) (a2 : LQ) : Nat → Int → Option (List (Int × Int × Int × Int × Int) × Bool)
  | 0, _ => none
  | n1 + 1, v4 =>
  bO (s_IsValidTableau a1 a2) fun x11 => bO (br x11 (gd (decide (¬ (IntKind.wrap .u64 a1) < 0)) (some (decide (v4 < (IntKind.wrap .i64 (1 * 2 ^ min (Int.toNat (IntKind.wrap .u64 a1)) (IntKind.bits .i64))))))) (some false)) fun x12 => s_StabilizerState_j4 a1 a2 v4 (s_StabilizerState_l1 a1 a2 n1) x12
def s_StabilizerState (a1 : Int) (a2 : LQ) : Option (List (Int × Int × Int × Int × Int) × Bool) :=
  s_StabilizerState_l1 a1 a2 FU 0
theorem s_StabilizerState_ok {a1 : Int} {a2 : LQ} {r : List (Int × Int × Int × Int × Int) × Bool} (h : s_StabilizerState a1 a2 = some r) :
    Spec Try.prog 28 [.agg [.int .i64 a1, .sl (encL EIIII a2) a2.length]] [] (.tup [.sl (encL EIIIII r.1) r.1.length, .bool r.2]) [] := by
 unfold s_StabilizerState at h; refine SO Try.func28 rfl Try.ntmps28 fun C hN hρ => ?_; simp only [st0, tmps0, Nat.zero_add, Nat.reduceAdd]; refine AR hN fun K hK => ?_; simp only [EV, seval]; refine hK _ _ _ ?_; clear hK K; refine AW_cutK (fun S => S = ⟨mkT [], mkR [], 64⟩ ∧ s_StabilizerState_j1 = some r) ?_ ?_
 ·refine AR hN fun K hK => ?_; simp only [EV, seval]; refine hK _ _ _ ?_; clear hK K; refine AW_block ?_; refine AW_loopF (fun n S => ∃ (v4 : Int), S = ⟨mkT [(1, .ptr 32 0), (4, .int .i64 v4)], mkR [(32, .box 42 [.int .i64 a1, .sl (encL EIIII a2) a2.length])], 64⟩ ∧ s_StabilizerState_l1 a1 a2 n v4 = some r) FU ?_ ?_ ?_
  ·refine cutL ⟨_, rfl, h⟩ (Le_can [(32, some 64)] [] hρ (by kernel_rfl) ?_ ?_)
   ·simp only [AL, EV, seval]
   ·simp only [AL, EV, seval]
  ·rintro S ⟨_, _, h⟩; rw [s_StabilizerState_l1] at h; cases h
  ·rintro n1 S ⟨v4, rfl, h⟩; rw [s_StabilizerState_l1] at h; refine AW_seq ?_; refine AJ (fun S => ∃ (v5 : Bool), S = ⟨mkT [(1, .ptr 32 0), (4, .int .i64 v4), (16, .bool v5)], mkR [(32, .box 42 [.int .i64 a1, .sl (encL EIIII a2) a2.length])], 64⟩ ∧ s_StabilizerState_j4 a1 a2 v4 (s_StabilizerState_l1 a1 a2 n1) v5 = some r) hN ?_ ?_
   ·intro K hK; obtain ⟨x11, h11, h⟩ := bO_inv h; simp only [EV, seval]; refine CP (s_IsValidTableau_ok h11) ?_; obtain ⟨x12, hv3, h⟩ := bO_inv h; rcases br_inv hv3 with ⟨hc9, hv3⟩ | ⟨hc9, hv3⟩
    ·obtain ⟨h13, hv3⟩ := gd_inv hv3; replace h13 := of_decide_eq_true h13; cases hv3; simp only [EV, seval, hc9, h13]; refine hK _ _ _ (show cutK _ _ _ from cutL ⟨_, rfl, h⟩ (Le_can [(32, some 32)] [] hρ (by kernel_rfl) ?_ ?_))
     ·simp only [AL, EV, seval, hc9, h13]
     ·simp only [AL, EV, seval, hc9, h13]
    ·cases hv3; simp only [EV, seval, hc9]; refine hK _ _ _ (show cutK _ _ _ from cutL ⟨_, rfl, h⟩ (Le_can [(32, some 32)] [] hρ (by kernel_rfl) ?_ ?_))
     ·simp only [AL, EV, seval, hc9]
     ·simp only [AL, EV, seval, hc9]
   ·rintro S ⟨v5, rfl, h⟩; unfold s_StabilizerState_j4 at h; refine AB h (fun hc10 h => ?_) fun hc10 h => ?_
    ·refine AW_skip (AK ?_); refine AW_seq ?_; refine AW_block ?_; refine AR hN fun K hK => ?_; obtain ⟨x13, h14, h⟩ := bO_inv h; simp only [EV, seval]; refine rC_p (s_l27From_ok h14) (by simp only [AL, EV, seval]) (le_d rfl) (site_1 (by simp only [EV, seval])) ?_; simp only [EV, seval]; refine hK _ _ _ ?_; clear hK K; refine AW_seq ?_; refine AR hN fun K hK => ?_; simp only [EV, seval]; refine hK _ _ _ ?_; clear hK K; refine AB h (fun hc11 h => ?_) fun hc11 h => ?_
     ·refine AR hN fun K hK => ?_; simp only [EV, seval]; refine hK _ _ _ ?_; clear hK K; injection h with h; subst h; exact AX (b' := 64) [(2, .sl (encL EIIIII ([])) 0), (3, .bool false)] [] [] [2112] hρ (EQ [] (by simp only [EV, Try.results28, seval]))
     ·refine AW_skip (AK ?_); refine AR hN fun K hK => ?_; obtain ⟨x14, h15, h⟩ := bO_inv h; simp only [EV, seval]; refine rC_l (s_l27None_ok h15) (by simp only [AL, EV, seval]) (by simp only [AL, EF, and_self]) (le_d rfl) (no_j rfl) ?_; simp only [EV, seval]; refine hK _ _ _ ?_; clear hK K; refine AB h (fun hc12 h => ?_) fun hc12 h => ?_
      ·refine AW_le (Le_can (lt := [(5, .sl (encL EIIIII x13.1) x13.1.length)]) (lr := []) (b' := 3152) [] [96] hρ (by kernel_rfl) ?_ ?_) ?_
       ·simp only [AL, EV, seval]
       ·simp only [AL, EV, seval]
       refine AR hN fun K hK => ?_; obtain ⟨x15, h16, h⟩ := bO_inv h; simp only [EV, seval]; refine CP (s_l27Whole_ok h16) ?_; simp only [EV, seval]; refine hK _ _ _ ?_; clear hK K; injection h with h; subst h; exact AX (b' := 64) [(2, .sl (encL EIIIII x15.1) x15.1.length), (3, .bool x15.2)] [] [] [] hρ (EQ [] (by simp only [EV, Try.results28, seval]))
      ·refine AW_skip (AK ?_); refine AS hN fun K hK => ?_; simp only [EV, seval]; exact hK _ _ _ (AC ⟨_, rfl, h⟩ [(32, some 32)] [] hρ)
    ·refine AW_exit (show cutK _ _ _ from cutL ⟨rfl, h⟩ (Le_can [] [] hρ (by kernel_rfl) ?_ ?_))
     ·simp only [AL, EV, seval]
     ·simp only [AL, EV, seval]
 ·rintro S ⟨rfl, h⟩; unfold s_StabilizerState_j1 at h; refine AR hN fun K hK => ?_; simp only [EV, seval]; refine hK _ _ _ ?_; clear hK K; injection h with h; subst h; exact AX (b' := 64) [(2, .sl (encL EIIIII ([])) 0), (3, .bool false)] [] [] [64] hρ (EQ [] (by simp only [EV, Try.results28, seval]))
end Go.Proofs.Ytplbdmigbakmlaa
