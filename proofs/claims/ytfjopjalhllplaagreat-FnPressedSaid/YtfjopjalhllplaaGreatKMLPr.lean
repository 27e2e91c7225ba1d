/- Models of functions, and that the functions do what the models say; printed by a program. -/
import Derived.Test.YtfjopjalhllplaaGreatK1
import Derived.Test.YtfjopjalhllplaaGreatK5
import Derived.Test.YtfjopjalhllplaaGreatKMdp
import Derived.Test.YtfjopjalhllplaaGreatKMsrs
import Derived.Test.YtfjopjalhllplaaGreatK7
import Derived.Test.YtfjopjalhllplaaGreatKMf
namespace Go.Proofs.YtfjopjalhllplaaGreat
open Go.RowKit
set_option maxRecDepth 100000
set_option linter.unusedVariables false
set_option linter.unusedSimpArgs false
set_option linter.defProp false
set_option maxHeartbeats 4000000
/- laws.FnPressed -/
def l_FnPressed_j4 (v5 : Bool) : Option Bool :=
  some v5
def l_FnPressed_j3 (x2 : LQ × Int) (x3 : LQ) (v4 : Bool) : Option Bool :=
  br v4 (some (((x2.1.length : Int)) == 0)) (bO (l_apart x3 x2.1 x2.2) fun x18 => bO (br x18.2 (bO (l_tCount x3) fun x19 => bO (l_tCount x2.1) fun x20 => some (decide (x19 ≤ x20))) (some false)) fun x21 => bO (br x21 (bO (i_RunCost x3) fun x22 => bO (i_RunCost x2.1) fun x23 => some (decide (x22 ≤ x23))) (some false)) fun x24 => l_FnPressed_j4 x24)
def l_FnPressed_j2 (x2 : LQ × Int) (x3 : LQ) : Option Bool :=
  bO (br (decide (x2.2 < 1)) (some true) (some (decide (4 < x2.2)))) fun x17 => l_FnPressed_j3 x2 x3 x17
def l_FnPressed_l1 (x2 : LQ × Int) (x3 : LQ) : Nat → Int → Option Bool
  | 0, _ => none
  | n1 + 1, v3 =>
  br (decide (v3 < ((x2.1.length : Int)))) (bO (geti x2.1 v3) fun q3 => bO (s_IsValidGate q3.1 q3.2.1 q3.2.2.1 q3.2.2.2 x2.2) fun x15 => br (!x15) (bO (l_sameGates x3 x2.1) fun x16 => some x16) ((l_FnPressed_l1 x2 x3 n1) (IntKind.wrap .i64 (v3 + 1)))) (l_FnPressed_j2 x2 x3)
def l_FnPressed_j1 (x2 : LQ × Int) (x3 : LQ) (v1 : Bool) : Option Bool :=
  br v1 (some false) (l_FnPressed_l1 x2 x3 FU 0)
def l_FnPressed (a1 : List Int) : Option Bool :=
  bO (l_big a1) fun x1 => br x1 (some true) (bO (s_DrawShortenRuns a1) fun x2 => bO (i_ShortenRuns x2.1 x2.2) fun x3 => bO (s_ShortenRuns x2.1 x2.2) fun x4 => bO (l_sameGates x3 x4) fun x5 => bO (br (!x5) (some true) (bO (i_RunCost x2.1) fun x6 => bO (s_RunCost x2.1) fun x7 => some (x6 != x7))) fun x8 => l_FnPressed_j1 x2 x3 x8)
theorem l_FnPressed_ok {a1 : List Int} {r : Bool} (h : l_FnPressed a1 = some r) :
    Spec Tryz.prog 4 [.sl (encL EB a1) a1.length] [] (.bool r) [] := by
 unfold l_FnPressed at h; refine SO Tryz.func4 rfl Tryz.ntmps4 fun C hN hρ => ?_; simp only [st0, tmps0, Nat.zero_add, Nat.reduceAdd]; refine AN hN ?_; refine AW_seq ?_; obtain ⟨x1, h1, h⟩ := bO_inv h; refine AP hN (l_big_ok h1) ?_; refine AB h (fun hc1 h => ?_) fun hc1 h => ?_
 ·refine AN hN ?_; injection h with h; subst h; exact AX (b' := 64) [(2, .bool true)] [] [] [] hρ (EQ [])
 ·refine AW_skip (AK ?_); refine AR hN fun K hK => ?_; obtain ⟨x2, h2, h⟩ := bO_inv h; simp only [EV, seval]; refine rC_p (s_DrawShortenRuns_ok h2) (by simp only [AL, EV, seval]) (le_d rfl) (site_1 (by simp only [EV, seval])) ?_; simp only [EV, seval]; refine hK _ _ _ ?_; clear hK K; refine AR hN fun K hK => ?_; obtain ⟨x3, h3, h⟩ := bO_inv h; simp only [EV, seval]; refine rC_l (i_ShortenRuns_ok h3) (by simp only [AL, EV, seval]) (by simp only [AL, EF, and_self]) (le_d rfl) (site_1 (by simp only [EV, seval])) ?_; simp only [EV, seval]; refine hK _ _ _ ?_; clear hK K; refine AW_seq ?_; refine AJ (fun S => ∃ (v1 : Bool), S = ⟨mkT [(3, .own 32 x2.1.length), (4, .int .i64 x2.2), (5, .own 33 x3.length), (31, .bool v1)], mkR [(32, .row 48 4 (encL EIIII x2.1)), (33, .row 48 4 (encL EIIII x3))], 64⟩ ∧ l_FnPressed_j1 x2 x3 v1 = some r) hN ?_ ?_
  ·intro K hK; obtain ⟨x4, h4, h⟩ := bO_inv h; simp only [EV, seval]; refine rC_l (s_ShortenRuns_ok h4) (by simp only [AL, EV, seval]) (by simp only [AL, EF, and_self]) (le_d rfl) (site_1 (by simp only [EV, seval])) ?_; obtain ⟨x5, h5, h⟩ := bO_inv h; simp only [EV, seval]; refine rC_l (l_sameGates_ok h5) (by simp only [AL, EV, seval]) (by simp only [AL, EF, and_self]) (le_d rfl) (no_j rfl) ?_; obtain ⟨x8, hv1, h⟩ := bO_inv h; rcases br_inv hv1 with ⟨hc2, hv1⟩ | ⟨hc2, hv1⟩
   ·cases hv1; simp only [EV, seval, hc2]; refine hK _ _ _ (show cutK _ _ _ from cutL ⟨_, rfl, h⟩ (Le_can [(32, some 2128), (33, some 3168)] [] hρ (by kernel_rfl) ?_ ?_))
    ·simp only [AL, EV, seval, hc2]
    ·simp only [AL, EV, seval, hc2]
   ·obtain ⟨x9, h8, hv1⟩ := bO_inv hv1; simp only [EV, seval, hc2]; refine rC_l (i_RunCost_ok h8) (by simp only [AL, EV, seval, hc2]) (by simp only [AL, EF, and_self]) (le_d rfl) (no_j rfl) ?_; obtain ⟨x10, h9, hv1⟩ := bO_inv hv1; simp only [EV, seval, hc2]; refine rC_l (s_RunCost_ok h9) (by simp only [AL, EV, seval, hc2]) (by simp only [AL, EF, and_self]) (le_d rfl) (no_j rfl) ?_; cases hv1; simp only [EV, seval, hc2]; refine hK _ _ _ (show cutK _ _ _ from cutL ⟨_, rfl, h⟩ (Le_can [(32, some 2128), (33, some 3168)] [] hρ (by kernel_rfl) ?_ ?_))
    ·simp only [AL, EV, seval, hc2]
    ·simp only [AL, EV, seval, hc2]
  ·rintro S ⟨v1, rfl, h⟩; unfold l_FnPressed_j1 at h; refine AB h (fun hc3 h => ?_) fun hc3 h => ?_
   ·refine AN hN ?_; injection h with h; subst h; exact AX (b' := 64) [(2, .bool false)] [] [] [] hρ (EQ [])
   ·refine AW_skip (AK ?_); refine AW_cutK (fun S => S = ⟨mkT [(3, .own 32 x2.1.length), (4, .int .i64 x2.2), (5, .own 33 x3.length)], mkR [(32, .row 48 4 (encL EIIII x2.1)), (33, .row 48 4 (encL EIIII x3))], 64⟩ ∧ l_FnPressed_j2 x2 x3 = some r) ?_ ?_
    ·refine AN hN ?_; refine AW_block ?_; refine AW_loopF (fun n S => ∃ (v3 : Int), S = ⟨mkT [(3, .own 32 x2.1.length), (4, .int .i64 x2.2), (5, .own 33 x3.length), (6, .int .i64 v3)], mkR [(32, .row 48 4 (encL EIIII x2.1)), (33, .row 48 4 (encL EIIII x3))], 64⟩ ∧ l_FnPressed_l1 x2 x3 n v3 = some r) FU ?_ ?_ ?_
     ·exact AC ⟨_, rfl, h⟩ [(32, some 32), (33, some 33)] [] hρ
     ·rintro S ⟨_, _, h⟩; rw [l_FnPressed_l1] at h; cases h
     ·rintro n1 S ⟨v3, rfl, h⟩; rw [l_FnPressed_l1] at h; refine AW_seq ?_; refine AN hN ?_; refine AB h (fun hc8 h => ?_) fun hc8 h => ?_
      ·refine AW_skip (AK ?_); refine AW_seq ?_; refine AW_block ?_; refine AR hN fun K hK => ?_; obtain ⟨q3, h18, h⟩ := bO_inv h; obtain ⟨⟨h19a, h19b⟩, h19c⟩ := geti_E EIIIIl h18; (try simp only [EV, seval] at h19c); obtain ⟨x15, h20, h⟩ := bO_inv h; simp only [EV, seval, h19a, h19b, h19c]; refine rC_p (s_IsValidGate_ok h20) (by simp only [AL, EV, seval, h19a, h19b, h19c]) (le_d rfl) (no_j rfl) ?_; simp only [EV, seval, h19a, h19b, h19c]; refine hK _ _ _ ?_; clear hK K; refine AW_condK (a := .bool (!x15)) (by simp only [EV, seval, h19a, h19b, h19c]) (brK h (fun hc9 h => ?_) (fun hc9 h => ?_))
       ·refine AR hN fun K hK => ?_; obtain ⟨x16, h21, h⟩ := bO_inv h; simp only [EV, seval]; refine rC_l (l_sameGates_ok h21) (by simp only [AL, EV, seval]) (by simp only [AL, EF, and_self]) (le_d rfl) (no_j rfl) ?_; simp only [EV, seval]; refine hK _ _ _ ?_; clear hK K; injection h with h; subst h; exact AX (b' := 64) [(2, .bool x16)] [] [] [] hρ (EQ [])
       ·refine AW_skip (AK ?_); refine AS hN fun K hK => ?_; simp only [EV, seval]; exact hK _ _ _ (AC ⟨_, rfl, h⟩ [(32, some 32), (33, some 33)] [] hρ)
      ·exact AW_exit (AC ⟨rfl, h⟩ [(32, some 32), (33, some 33)] [] hρ)
    ·rintro S ⟨rfl, h⟩; unfold l_FnPressed_j2 at h; refine AW_seq ?_; refine AJ (fun S => ∃ (v4 : Bool), S = ⟨mkT [(3, .own 32 x2.1.length), (4, .int .i64 x2.2), (5, .own 33 x3.length), (53, .bool v4)], mkR [(32, .row 48 4 (encL EIIII x2.1)), (33, .row 48 4 (encL EIIII x3))], 64⟩ ∧ l_FnPressed_j3 x2 x3 v4 = some r) hN ?_ ?_
     ·intro K hK; obtain ⟨x17, hv2, h⟩ := bO_inv h; rcases br_inv hv2 with ⟨hc10, hv2⟩ | ⟨hc10, hv2⟩
      ·cases hv2; simp only [EV, seval, hc10]; refine hK _ _ _ (show cutK _ _ _ from cutL ⟨_, rfl, h⟩ (Le_can [(32, some 32), (33, some 33)] [] hρ (by kernel_rfl) ?_ ?_))
       ·simp only [AL, EV, seval, hc10]
       ·simp only [AL, EV, seval, hc10]
      ·cases hv2; simp only [EV, seval, hc10]; refine hK _ _ _ (show cutK _ _ _ from cutL ⟨_, rfl, h⟩ (Le_can [(32, some 32), (33, some 33)] [] hρ (by kernel_rfl) ?_ ?_))
       ·simp only [AL, EV, seval, hc10]
       ·simp only [AL, EV, seval, hc10]
     ·rintro S ⟨v4, rfl, h⟩; unfold l_FnPressed_j3 at h; refine AB h (fun hc11 h => ?_) fun hc11 h => ?_
      ·refine AN hN ?_; injection h with h; subst h; exact AX (b' := 64) [(2, .bool (((x2.1.length : Int)) == 0))] [] [] [] hρ (EQ [])
      ·refine AW_skip (AK ?_); refine AR hN fun K hK => ?_; obtain ⟨x18, h22, h⟩ := bO_inv h; simp only [EV, seval]; refine rC_l (l_apart_ok h22) (by simp only [AL, EV, seval]) (by simp only [AL, EF, and_self]) (le_d rfl) (no_j rfl) ?_; simp only [EV, seval]; refine hK _ _ _ ?_; clear hK K; refine AJ (fun S => ∃ (v5 : Bool), S = ⟨mkT [(2, .bool v5)], mkR [], 64⟩ ∧ l_FnPressed_j4 v5 = some r) hN ?_ ?_
       ·intro K hK; obtain ⟨x21, hv3, h⟩ := bO_inv h; rcases br_inv hv3 with ⟨hc12, hv3⟩ | ⟨hc12, hv3⟩
        ·obtain ⟨x25, h27, hv3⟩ := bO_inv hv3; simp only [EV, seval, hc12]; refine rC_l (l_tCount_ok h27) (by simp only [AL, EV, seval, hc12]) (by simp only [AL, EF, and_self]) (le_d rfl) (no_j rfl) ?_; obtain ⟨x26, h28, hv3⟩ := bO_inv hv3; simp only [EV, seval, hc12]; refine rC_l (l_tCount_ok h28) (by simp only [AL, EV, seval, hc12]) (by simp only [AL, EF, and_self]) (le_d rfl) (no_j rfl) ?_; cases hv3; obtain ⟨x29, hv5, h⟩ := bO_inv h; rcases br_inv hv5 with ⟨hc14, hv5⟩ | ⟨hc14, hv5⟩
         ·obtain ⟨x30, h31, hv5⟩ := bO_inv hv5; simp only [EV, seval, hc12, hc14]; refine rC_l (i_RunCost_ok h31) (by simp only [AL, EV, seval, hc12, hc14]) (by simp only [AL, EF, and_self]) (le_d rfl) (no_j rfl) ?_; obtain ⟨x31, h32, hv5⟩ := bO_inv hv5; simp only [EV, seval, hc12, hc14]; refine rC_l (i_RunCost_ok h32) (by simp only [AL, EV, seval, hc12, hc14]) (by simp only [AL, EF, and_self]) (le_d rfl) (no_j rfl) ?_; cases hv5; simp only [EV, seval, hc12, hc14]; refine hK _ _ _ (show cutK _ _ _ from cutL ⟨_, rfl, h⟩ (Le_can [] [] hρ (by kernel_rfl) ?_ ?_))
          ·simp only [AL, EV, seval, hc12, hc14]
          ·simp only [AL, EV, seval, hc12, hc14]
         ·cases hv5; simp only [EV, seval, hc12, hc14]; refine hK _ _ _ (show cutK _ _ _ from cutL ⟨_, rfl, h⟩ (Le_can [] [] hρ (by kernel_rfl) ?_ ?_))
          ·simp only [AL, EV, seval, hc12, hc14]
          ·simp only [AL, EV, seval, hc12, hc14]
        ·cases hv3; obtain ⟨x32, hv6, h⟩ := bO_inv h; replace hv6 := br_f hv6; cases hv6; (try dsimp only at h); simp only [EV, seval, hc12]; refine hK _ _ _ (show cutK _ _ _ from cutL ⟨_, rfl, h⟩ (Le_can [] [] hρ (by kernel_rfl) ?_ ?_))
         ·simp only [AL, EV, seval, hc12]
         ·simp only [AL, EV, seval, hc12]
       ·rintro S ⟨v5, rfl, h⟩; unfold l_FnPressed_j4 at h; injection h with h; subst h; exact AX (b' := 64) [(2, .bool v5)] [] [] [] hρ (EQ [])
end Go.Proofs.YtfjopjalhllplaaGreat
