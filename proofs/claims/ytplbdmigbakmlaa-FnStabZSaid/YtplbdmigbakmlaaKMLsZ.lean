/- Models of functions, and that the functions do what the models say; printed by a program. -/
import Derived.Test.YtplbdmigbakmlaaK1
import Derived.Test.YtplbdmigbakmlaaK4
import Derived.Test.YtplbdmigbakmlaaKMu
import Derived.Test.YtplbdmigbakmlaaKMcz
import Derived.Test.YtplbdmigbakmlaaK2
import Derived.Test.YtplbdmigbakmlaaK6b
namespace Go.Proofs.Ytplbdmigbakmlaa
open Go.RowKit
set_option maxRecDepth 100000
set_option linter.unusedVariables false
set_option linter.unusedSimpArgs false
set_option linter.defProp false
set_option maxHeartbeats 4000000
/- spec.DrawStabilizerMeasureZ -/
def s_DrawStabilizerMeasureZ (a1 : List Int) : Option (Int × LQ × Int) :=
  bO (s_l1New a1) fun x1 => bO (s_l26Bent x1.1 x1.2.1 x1.2.2) fun x2 => bO (s_l1Below x2.2.2.1 x2.2.2.2.1 x2.2.2.2.2 6) fun x3 => some (x2.1, x2.2.1, IntKind.wrap .i64 (x3.1 - 1))
theorem s_DrawStabilizerMeasureZ_ok {a1 : List Int} {r : Int × LQ × Int} (h : s_DrawStabilizerMeasureZ a1 = some r) :
    Spec Try.prog 25 [.sl (encL EB a1) a1.length] [] (.tup [.agg [.int .i64 r.1, .sl (encL EIIII r.2.1) r.2.1.length], .int .i64 r.2.2]) [] := by
 unfold s_DrawStabilizerMeasureZ at h; refine SO Try.func25 rfl Try.ntmps25 fun C hN hρ => ?_; simp only [st0, tmps0, Nat.zero_add, Nat.reduceAdd]; refine AR hN fun K hK => ?_; simp only [EV, seval]; refine hK _ _ _ ?_; clear hK K; refine AR hN fun K hK => ?_; obtain ⟨x1, h1, h⟩ := bO_inv h; simp only [EV, seval]; refine rC_p (s_l1New_ok h1) (by simp only [AL, EV, seval]) (le_d rfl) (site_1 (by simp only [EV, seval])) ?_; simp only [EV, seval]; refine hK _ _ _ ?_; clear hK K; refine AR hN fun K hK => ?_; obtain ⟨x2, h2, h⟩ := bO_inv h; simp only [EV, seval]; refine rR_p [1104] (s_l26Bent_ok h2) (by simp only [AL, EV, seval]) (by simp only [AL, EV, seval]) (by kernel_rfl) (by simp only [EV, solidO, List.mem_cons, List.not_mem_nil, or_false, forall_eq_or_imp, forall_eq, seval]) (le_d rfl) (le_d rfl) (no_j rfl) ?_; obtain ⟨x3, h3, h⟩ := bO_inv h; simp only [EV, seval]; refine rR_p [1104] (s_l1Below_ok h3) (by simp only [AL, EV, seval]) (by simp only [AL, EV, seval]) (by kernel_rfl) (by simp only [EV, solidO, List.mem_cons, List.not_mem_nil, or_false, forall_eq_or_imp, forall_eq, seval]) (le_d rfl) (le_d rfl) (no_j rfl) ?_; simp only [EV, seval]; refine hK _ _ _ ?_; clear hK K; injection h with h; subst h; exact AX (b' := 64) [(2, .ptr 32 0), (3, .int .i64 (IntKind.wrap .i64 (x3.1 - 1)))] [(32, .box 42 [.int .i64 x2.1, .sl (encL EIIII x2.2.1) x2.2.1.length])] [(32, some 64)] [] hρ (EQ [] (by simp only [EV, Try.results25, seval]))
/- laws.FnStabZ -/
def l_FnStabZ_j8 (v18 : Int) (kl1 : Bool → Bool → Int → Option Bool) (v20 : Bool) (v21 : Bool) : Option Bool :=
  kl1 v20 v21 (IntKind.wrap .i64 (v18 + 1))
def l_FnStabZ_j9 (x2 : Int × LQ × Int) (v17 : Bool) (v18 : Int) (kl1 : Bool → Bool → Int → Option Bool) (v19 : Bool) : Option Bool :=
  bO (br v17 (some true) (gd (decide (¬ (IntKind.wrap .u64 x2.2.2) < 0)) (some ((bits .and .i64 (Int.fdiv v18 (2 ^ min (Int.toNat (IntKind.wrap .u64 x2.2.2)) (IntKind.bits .i64))) 1) == 1)))) fun x15 => l_FnStabZ_j8 v18 kl1 v19 x15
def l_FnStabZ_j10 (v24 : Bool) : Option Bool :=
  some v24
def l_FnStabZ_j3 (x3 : Int × Bool) (v22 : Bool) (v23 : Bool) : Option Bool :=
  bO (br (x3.2 == (v22 != v23)) (bO (br (!x3.2) (some true) (some ((x3.1 == 1) == v23))) fun x16 => some x16) (some false)) fun x17 => l_FnStabZ_j10 x17
def l_FnStabZ_l1 (x2 : Int × LQ × Int) (x3 : Int × Bool) (x11 : List (Int × Int × Int × Int × Int) × Bool) : Nat → Bool → Bool → Int → Option Bool
  | 0, _, _, _ => none
  | n1 + 1, v16, v17, v18 =>
  br (decide (v18 < ((x11.1.length : Int)))) (bO (geti x11.1 v18) fun q3 => br (!((q3.1 == 0) && ((q3.2.1 == 0) && ((q3.2.2.1 == 0) && ((q3.2.2.2.1 == 0) && (q3.2.2.2.2 == 0)))))) (bO (br v16 (some true) (gd (decide (¬ (IntKind.wrap .u64 x2.2.2) < 0)) (some ((bits .and .i64 (Int.fdiv v18 (2 ^ min (Int.toNat (IntKind.wrap .u64 x2.2.2)) (IntKind.bits .i64))) 1) == 0)))) fun x14 => l_FnStabZ_j9 x2 v17 v18 (l_FnStabZ_l1 x2 x3 x11 n1) x14) (l_FnStabZ_j8 v18 (l_FnStabZ_l1 x2 x3 x11 n1) v16 v17)) (l_FnStabZ_j3 x3 v16 v17)
def l_FnStabZ_j2 (x2 : Int × LQ × Int) (x3 : Int × Bool) (v2 : Bool) : Option Bool :=
  br v2 (some (!x3.2)) (bO (s_StabilizerState x2.1 x2.2.1) fun x11 => l_FnStabZ_l1 x2 x3 x11 FU false false 0)
def l_FnStabZ_j1 (x2 : Int × LQ × Int) (x3 : Int × Bool) (v1 : Bool) : Option Bool :=
  br v1 (some false) (bO (s_IsValidTableau x2.1 x2.2.1) fun x6 => bO (br (!x6) (some true) (some (decide (x2.2.2 < 0)))) fun x7 => bO (br x7 (some true) (some (decide (x2.1 ≤ x2.2.2)))) fun x8 => l_FnStabZ_j2 x2 x3 x8)
def l_FnStabZ (a1 : List Int) : Option Bool :=
  bO (l_big a1) fun x1 => br x1 (some true) (bO (s_DrawStabilizerMeasureZ a1) fun x2 => bO (i_StabilizerMeasureZ x2.1 x2.2.1 x2.2.2) fun x3 => bO (s_StabilizerMeasureZ x2.1 x2.2.1 x2.2.2) fun x4 => bO (br (x3.2 != x4.2) (some true) (some (x3.1 != x4.1))) fun x5 => l_FnStabZ_j1 x2 x3 x5)
theorem l_FnStabZ_ok {a1 : List Int} {r : Bool} (h : l_FnStabZ a1 = some r) :
    Spec Try.prog 5 [.sl (encL EB a1) a1.length] [] (.bool r) [] := by
 unfold l_FnStabZ at h; refine SO Try.func5 rfl Try.ntmps5 fun C hN hρ => ?_; simp only [st0, tmps0, Nat.zero_add, Nat.reduceAdd]; refine AR hN fun K hK => ?_; simp only [EV, seval]; refine hK _ _ _ ?_; clear hK K; refine AW_seq ?_; refine AR hN fun K hK => ?_; obtain ⟨x1, h1, h⟩ := bO_inv h; simp only [EV, seval]; refine CP (l_big_ok h1) ?_; simp only [EV, seval]; refine hK _ _ _ ?_; clear hK K; refine AB h (fun hc1 h => ?_) fun hc1 h => ?_
 ·refine AR hN fun K hK => ?_; simp only [EV, seval]; refine hK _ _ _ ?_; clear hK K; injection h with h; subst h; exact AX (b' := 64) [(2, .bool true)] [] [] [] hρ (EQ [] (by simp only [EV, Try.results5, seval]))
 ·refine AW_skip (AK ?_); refine AR hN fun K hK => ?_; obtain ⟨x2, h2, h⟩ := bO_inv h; simp only [EV, seval]; refine CP (s_DrawStabilizerMeasureZ_ok h2) ?_; simp only [EV, seval]; refine hK _ _ _ ?_; clear hK K; refine AR hN fun K hK => ?_; obtain ⟨x3, h3, h⟩ := bO_inv h; simp only [EV, seval]; refine CP (i_StabilizerMeasureZ_ok h3) ?_; simp only [EV, seval]; refine hK _ _ _ ?_; clear hK K; refine AR hN fun K hK => ?_; obtain ⟨x4, h4, h⟩ := bO_inv h; simp only [EV, seval]; refine CP (s_StabilizerMeasureZ_ok h4) ?_; simp only [EV, seval]; refine hK _ _ _ ?_; clear hK K; refine AW_seq ?_; refine AJ (fun S => ∃ (v1 : Bool), S = ⟨mkT [(3, .ptr 32 0), (4, .int .i64 x2.2.2), (5, .int .i64 x3.1), (6, .bool x3.2), (40, .bool v1)], mkR [(32, .box 42 [.int .i64 x2.1, .sl (encL EIIII x2.2.1) x2.2.1.length])], 64⟩ ∧ l_FnStabZ_j1 x2 x3 v1 = some r) hN ?_ ?_
  ·intro K hK; obtain ⟨x5, hv1, h⟩ := bO_inv h; rcases br_inv hv1 with ⟨hc2, hv1⟩ | ⟨hc2, hv1⟩
   ·cases hv1; simp only [EV, seval, hc2]; refine hK _ _ _ (show cutK _ _ _ from cutL ⟨_, rfl, h⟩ (Le_can [(32, some 2192)] [] hρ (by kernel_rfl) ?_ ?_))
    ·simp only [AL, EV, seval, hc2]
    ·simp only [AL, EV, seval, hc2]
   ·cases hv1; simp only [EV, seval, hc2]; refine hK _ _ _ (show cutK _ _ _ from cutL ⟨_, rfl, h⟩ (Le_can [(32, some 2192)] [] hρ (by kernel_rfl) ?_ ?_))
    ·simp only [AL, EV, seval, hc2]
    ·simp only [AL, EV, seval, hc2]
  ·rintro S ⟨v1, rfl, h⟩; unfold l_FnStabZ_j1 at h; refine AB h (fun hc3 h => ?_) fun hc3 h => ?_
   ·refine AR hN fun K hK => ?_; simp only [EV, seval]; refine hK _ _ _ ?_; clear hK K; injection h with h; subst h; exact AX (b' := 64) [(2, .bool false)] [] [] [] hρ (EQ [] (by simp only [EV, Try.results5, seval]))
   ·refine AW_skip (AK ?_); refine AW_seq ?_; refine AJ (fun S => ∃ (v2 : Bool), S = ⟨mkT [(3, .ptr 32 0), (4, .int .i64 x2.2.2), (5, .int .i64 x3.1), (6, .bool x3.2), (53, .bool v2)], mkR [(32, .box 42 [.int .i64 x2.1, .sl (encL EIIII x2.2.1) x2.2.1.length])], 64⟩ ∧ l_FnStabZ_j2 x2 x3 v2 = some r) hN ?_ ?_
    ·intro K hK; obtain ⟨x6, h5, h⟩ := bO_inv h; simp only [EV, seval]; refine CP (s_IsValidTableau_ok h5) ?_; obtain ⟨x7, hv2, h⟩ := bO_inv h; rcases br_inv hv2 with ⟨hc4, hv2⟩ | ⟨hc4, hv2⟩
     ·cases hv2; obtain ⟨x9, hv4, h⟩ := bO_inv h; replace hv4 := br_t hv4; cases hv4; (try dsimp only at h); simp only [EV, seval, hc4]; refine hK _ _ _ (show cutK _ _ _ from cutL ⟨_, rfl, h⟩ (Le_can [(32, some 32)] [] hρ (by kernel_rfl) ?_ ?_))
      ·simp only [AL, EV, seval, hc4]
      ·simp only [AL, EV, seval, hc4]
     ·cases hv2; obtain ⟨x10, hv5, h⟩ := bO_inv h; rcases br_inv hv5 with ⟨hc6, hv5⟩ | ⟨hc6, hv5⟩
      ·cases hv5; simp only [EV, seval, hc4, hc6]; refine hK _ _ _ (show cutK _ _ _ from cutL ⟨_, rfl, h⟩ (Le_can [(32, some 32)] [] hρ (by kernel_rfl) ?_ ?_))
       ·simp only [AL, EV, seval, hc4, hc6]
       ·simp only [AL, EV, seval, hc4, hc6]
      ·cases hv5; simp only [EV, seval, hc4, hc6]; refine hK _ _ _ (show cutK _ _ _ from cutL ⟨_, rfl, h⟩ (Le_can [(32, some 32)] [] hρ (by kernel_rfl) ?_ ?_))
       ·simp only [AL, EV, seval, hc4, hc6]
       ·simp only [AL, EV, seval, hc4, hc6]
    ·rintro S ⟨v2, rfl, h⟩; unfold l_FnStabZ_j2 at h; refine AB h (fun hc7 h => ?_) fun hc7 h => ?_
     ·refine AR hN fun K hK => ?_; simp only [EV, seval]; refine hK _ _ _ ?_; clear hK K; injection h with h; subst h; exact AX (b' := 64) [(2, .bool (!x3.2))] [] [] [] hρ (EQ [] (by simp only [EV, Try.results5, seval]))
     ·refine AW_skip (AK ?_); refine AR hN fun K hK => ?_; obtain ⟨x11, h6, h⟩ := bO_inv h; simp only [EV, seval]; refine CP (s_StabilizerState_ok h6) ?_; simp only [EV, seval]; refine hK _ _ _ ?_; clear hK K; refine AR hN fun K hK => ?_; simp only [EV, seval]; refine hK _ _ _ ?_; clear hK K; refine AW_cutK (fun S => ∃ (v22 : Bool) (v23 : Bool), S = ⟨mkT [(5, .int .i64 x3.1), (6, .bool x3.2), (11, .bool v22), (12, .bool v23)], mkR [], 64⟩ ∧ l_FnStabZ_j3 x3 v22 v23 = some r) ?_ ?_
      ·refine AR hN fun K hK => ?_; simp only [EV, seval]; refine hK _ _ _ ?_; clear hK K; refine AW_block ?_; refine AW_loopF (fun n S => ∃ (v16 : Bool) (v17 : Bool) (v18 : Int), S = ⟨mkT [(4, .int .i64 x2.2.2), (5, .int .i64 x3.1), (6, .bool x3.2), (9, .sl (encL EIIIII x11.1) x11.1.length), (11, .bool v16), (12, .bool v17), (13, .int .i64 v18)], mkR [], 64⟩ ∧ l_FnStabZ_l1 x2 x3 x11 n v16 v17 v18 = some r) FU ?_ ?_ ?_
       ·refine cutL ⟨_, _, _, rfl, h⟩ (Le_can [] [] hρ (by kernel_rfl) ?_ ?_)
        ·simp only [AL, EV, seval]
        ·simp only [AL, EV, seval]
       ·rintro S ⟨_, _, _, _, h⟩; rw [l_FnStabZ_l1] at h; cases h
       ·rintro n1 S ⟨v16, v17, v18, rfl, h⟩; rw [l_FnStabZ_l1] at h; refine AW_seq ?_; refine AR hN fun K hK => ?_; simp only [EV, seval]; refine hK _ _ _ ?_; clear hK K; refine AB h (fun hc14 h => ?_) fun hc14 h => ?_
        ·refine AW_skip (AK ?_); refine AW_cutK (fun S => ∃ (v20 : Bool) (v21 : Bool), S = ⟨mkT [(4, .int .i64 x2.2.2), (5, .int .i64 x3.1), (6, .bool x3.2), (9, .sl (encL EIIIII x11.1) x11.1.length), (11, .bool v20), (12, .bool v21), (13, .int .i64 v18)], mkR [], 64⟩ ∧ l_FnStabZ_j8 v18 (l_FnStabZ_l1 x2 x3 x11 n1) v20 v21 = some r) ?_ ?_
         ·refine AW_block ?_; refine AR hN fun K hK => ?_; obtain ⟨q3, h15, h⟩ := bO_inv h; obtain ⟨⟨h16a, h16b⟩, h16c⟩ := geti_E EIIIIIl h15; (try simp only [EV, seval] at h16c); simp only [EV, seval, h16a, h16b, h16c]; refine hK _ _ _ ?_; clear hK K; refine AW_condK (a := .bool (!((q3.1 == 0) && ((q3.2.1 == 0) && ((q3.2.2.1 == 0) && ((q3.2.2.2.1 == 0) && (q3.2.2.2.2 == 0))))))) (by simp only [EV, seval, h16a, h16b, h16c]) (brK h (fun hc15 h => ?_) (fun hc15 h => ?_))
          ·refine AJ (fun S => ∃ (v19 : Bool), S = ⟨mkT [(4, .int .i64 x2.2.2), (5, .int .i64 x3.1), (6, .bool x3.2), (9, .sl (encL EIIIII x11.1) x11.1.length), (11, .bool v19), (12, .bool v17), (13, .int .i64 v18)], mkR [], 64⟩ ∧ l_FnStabZ_j9 x2 v17 v18 (l_FnStabZ_l1 x2 x3 x11 n1) v19 = some r) hN ?_ ?_
           ·intro K hK; obtain ⟨x14, hv8, h⟩ := bO_inv h; rcases br_inv hv8 with ⟨hc16, hv8⟩ | ⟨hc16, hv8⟩
            ·cases hv8; simp only [EV, seval, hc16]; refine hK _ _ _ (show cutK _ _ _ from cutL ⟨_, rfl, h⟩ (Le_can [] [] hρ (by kernel_rfl) ?_ ?_))
             ·simp only [AL, EV, seval, hc16]
             ·simp only [AL, EV, seval, hc16]
            ·obtain ⟨h18, hv8⟩ := gd_inv hv8; replace h18 := of_decide_eq_true h18; cases hv8; simp only [EV, seval, hc16, h18]; refine hK _ _ _ (show cutK _ _ _ from cutL ⟨_, rfl, h⟩ (Le_can [] [] hρ (by kernel_rfl) ?_ ?_))
             ·simp only [AL, EV, seval, hc16, h18]
             ·simp only [AL, EV, seval, hc16, h18]
           ·rintro S ⟨v19, rfl, h⟩; unfold l_FnStabZ_j9 at h; refine AS hN fun K hK => ?_; obtain ⟨x15, hv9, h⟩ := bO_inv h; rcases br_inv hv9 with ⟨hc17, hv9⟩ | ⟨hc17, hv9⟩
            ·cases hv9; simp only [EV, seval, hc17]; refine hK _ _ _ (show cutK _ _ _ from cutL ⟨_, _, rfl, h⟩ (Le_can [] [] hρ (by kernel_rfl) ?_ ?_))
             ·simp only [AL, EV, seval, hc17]
             ·simp only [AL, EV, seval, hc17]
            ·obtain ⟨h20, hv9⟩ := gd_inv hv9; replace h20 := of_decide_eq_true h20; cases hv9; simp only [EV, seval, hc17, h20]; refine hK _ _ _ (show cutK _ _ _ from cutL ⟨_, _, rfl, h⟩ (Le_can [] [] hρ (by kernel_rfl) ?_ ?_))
             ·simp only [AL, EV, seval, hc17, h20]
             ·simp only [AL, EV, seval, hc17, h20]
          ·refine AW_skip (show cutK _ _ _ from cutL ⟨_, _, rfl, h⟩ (Le_can [] [] hρ (by kernel_rfl) ?_ ?_))
           ·simp only [AL, EV, seval, h16a, h16b, h16c]
           ·simp only [AL, EV, seval, h16a, h16b, h16c]
         ·rintro S ⟨v20, v21, rfl, h⟩; unfold l_FnStabZ_j8 at h; refine AS hN fun K hK => ?_; simp only [EV, seval]; exact hK _ _ _ (AC ⟨_, _, _, rfl, h⟩ [] [] hρ)
        ·refine AW_exit (show cutK _ _ _ from cutL ⟨_, _, rfl, h⟩ (Le_can [] [] hρ (by kernel_rfl) ?_ ?_))
         ·simp only [AL, EV, seval]
         ·simp only [AL, EV, seval]
      ·rintro S ⟨v22, v23, rfl, h⟩; unfold l_FnStabZ_j3 at h; refine AJ (fun S => ∃ (v24 : Bool), S = ⟨mkT [(2, .bool v24)], mkR [], 64⟩ ∧ l_FnStabZ_j10 v24 = some r) hN ?_ ?_
       ·intro K hK; obtain ⟨x17, hv10, h⟩ := bO_inv h; rcases br_inv hv10 with ⟨hc18, hv10⟩ | ⟨hc18, hv10⟩
        ·obtain ⟨x18, hv12, hv10⟩ := bO_inv hv10; rcases br_inv hv12 with ⟨hc20, hv12⟩ | ⟨hc20, hv12⟩
         ·cases hv12; cases hv10; simp only [EV, seval, hc18, hc20]; refine hK _ _ _ (show cutK _ _ _ from cutL ⟨_, rfl, h⟩ (Le_can [] [] hρ (by kernel_rfl) ?_ ?_))
          ·simp only [AL, EV, seval, hc18, hc20]
          ·simp only [AL, EV, seval, hc18, hc20]
         ·cases hv12; cases hv10; simp only [EV, seval, hc18, hc20]; refine hK _ _ _ (show cutK _ _ _ from cutL ⟨_, rfl, h⟩ (Le_can [] [] hρ (by kernel_rfl) ?_ ?_))
          ·simp only [AL, EV, seval, hc18, hc20]
          ·simp only [AL, EV, seval, hc18, hc20]
        ·cases hv10; simp only [EV, seval, hc18]; refine hK _ _ _ (show cutK _ _ _ from cutL ⟨_, rfl, h⟩ (Le_can [] [] hρ (by kernel_rfl) ?_ ?_))
         ·simp only [AL, EV, seval, hc18]
         ·simp only [AL, EV, seval, hc18]
       ·rintro S ⟨v24, rfl, h⟩; unfold l_FnStabZ_j10 at h; injection h with h; subst h; exact AX (b' := 64) [(2, .bool v24)] [] [] [] hρ (EQ [] (by simp only [EV, Try.results5, seval]))
end Go.Proofs.Ytplbdmigbakmlaa
