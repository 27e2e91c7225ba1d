/- Models of functions, and that the functions do what the models say; printed by a program. -/
import Derived.Test.YtfoiedjjhgpcpaaGreatK1
import Derived.Test.YtfoiedjjhgpcpaaGreatK4
import Derived.Test.YtfoiedjjhgpcpaaGreatK3
import Derived.Test.YtfoiedjjhgpcpaaGreatK6b
import Derived.Test.YtfoiedjjhgpcpaaGreatK6
import Derived.Test.YtfoiedjjhgpcpaaGreatK5
import Derived.Test.YtfoiedjjhgpcpaaGreatKMrs
namespace Go.Proofs.YtfoiedjjhgpcpaaGreat
open Go.RowKit
set_option maxRecDepth 100000
set_option linter.unusedVariables false
set_option linter.unusedSimpArgs false
set_option linter.defProp false
set_option maxHeartbeats 4000000
/- spec.DrawStabilizerState -/
def s_DrawStabilizerState (a1 : List Int) : Option (Int × LQ) :=
  bO (s_l1New a1) fun x1 => bO (s_l1Once x1.1 x1.2.1 x1.2.2 6) fun x2 => br x2.1 (bO (s_l26Bent x2.2.1 x2.2.2.1 x2.2.2.2) fun x3 => some (x3.1, x3.2.1)) (bO (s_l1Below x2.2.1 x2.2.2.1 x2.2.2.2 3) fun x4 => bO (s_l26Circ x4.2.1 x4.2.2.1 x4.2.2.2 (IntKind.wrap .i64 (1 + x4.1)) 10) fun x5 => bO (s_CircuitTableau x5.1 x5.2.1) fun x6 => some (x6.1, x6.2.1))
theorem s_DrawStabilizerState_ok {a1 : List Int} {r : Int × LQ} (h : s_DrawStabilizerState a1 = some r) :
    Spec Tryz.prog 6 [.sl (encL EB a1) a1.length] [] (.agg [.int .i64 r.1, .sl (encL EIIII r.2) r.2.length]) [] := by
 unfold s_DrawStabilizerState at h; refine SO Tryz.func6 rfl Tryz.ntmps6 fun C hN hρ => ?_; simp only [st0, tmps0, Nat.zero_add, Nat.reduceAdd]; refine AN hN ?_; refine AR hN fun K hK => ?_; obtain ⟨x1, h1, h⟩ := bO_inv h; simp only [EV, seval]; refine rC_p (s_l1New_ok h1) (by simp only [AL, EV, seval]) (le_d rfl) (site_1 (by simp only [EV, seval])) ?_; simp only [EV, seval]; refine hK _ _ _ ?_; clear hK K; refine AW_seq ?_; refine AR hN fun K hK => ?_; obtain ⟨x2, h2, h⟩ := bO_inv h; simp only [EV, seval]; refine rR_p [1104] (s_l1Once_ok h2) (by simp only [AL, EV, seval]) (by simp only [AL, EV, seval]) (by kernel_rfl) (by simp only [EV, solidO, List.mem_cons, List.not_mem_nil, or_false, forall_eq_or_imp, forall_eq, seval]) (le_d rfl) (le_d rfl) (no_j rfl) ?_; simp only [EV, seval]; refine hK _ _ _ ?_; clear hK K; refine AB h (fun hc1 h => ?_) fun hc1 h => ?_
 ·refine AR hN fun K hK => ?_; obtain ⟨x3, h3, h⟩ := bO_inv h; simp only [EV, seval]; refine rR_p [1104] (s_l26Bent_ok h3) (by simp only [AL, EV, seval]) (by simp only [AL, EV, seval]) (by kernel_rfl) (by simp only [EV, solidO, List.mem_cons, List.not_mem_nil, or_false, forall_eq_or_imp, forall_eq, seval]) (le_d rfl) (le_d rfl) (no_j rfl) ?_; simp only [EV, seval]; refine hK _ _ _ ?_; clear hK K; injection h with h; subst h; exact AX (b' := 64) [(2, .ptr 32 0)] [(32, .box 26 [.int .i64 x3.1, .sl (encL EIIII x3.2.1) x3.2.1.length])] [(32, some 64)] [] hρ (EQ [])
 ·refine AW_skip (AK ?_); refine AR hN fun K hK => ?_; obtain ⟨x4, h4, h⟩ := bO_inv h; simp only [EV, seval]; refine rR_p [1104] (s_l1Below_ok h4) (by simp only [AL, EV, seval]) (by simp only [AL, EV, seval]) (by kernel_rfl) (by simp only [EV, solidO, List.mem_cons, List.not_mem_nil, or_false, forall_eq_or_imp, forall_eq, seval]) (le_d rfl) (le_d rfl) (no_j rfl) ?_; obtain ⟨x5, h5, h⟩ := bO_inv h; simp only [EV, seval]; refine rR_p [1104] (s_l26Circ_ok h5) (by simp only [AL, EV, seval]) (by simp only [AL, EV, seval]) (by kernel_rfl) (by simp only [EV, solidO, List.mem_cons, List.not_mem_nil, or_false, forall_eq_or_imp, forall_eq, seval]) (le_d rfl) (le_d rfl) (site_1 (by simp only [EV, seval])) ?_; obtain ⟨x6, h6, h⟩ := bO_inv h; simp only [EV, seval]; refine rC_l (s_CircuitTableau_ok h6) (by simp only [AL, EV, seval]) (by simp only [AL, EF, and_self]) (le_d rfl) (site_1 (by simp only [EV, seval])) ?_; simp only [EV, seval]; refine hK _ _ _ ?_; clear hK K; refine AN hN ?_; injection h with h; subst h; exact AX (b' := 64) [(2, .ptr 32 0)] [(32, .box 26 [.int .i64 x6.1, .sl (encL EIIII x6.2.1) x6.2.1.length])] [(32, some 64)] [3216] hρ (EQ [])
/- spec.NormSquared -/
def s_NormSquared (a1 a2 a3 a4 a5 : Int) : Option (Int × Int × Int × Int × Int × Bool) :=
  bO (s_ConjDOmega a1 a2 a3 a4 a5) fun x1 => bO (s_MulDOmega a1 a2 a3 a4 a5 x1.1 x1.2.1 x1.2.2.1 x1.2.2.2.1 x1.2.2.2.2) fun x2 => some (x2.1, x2.2.1, x2.2.2.1, x2.2.2.2.1, x2.2.2.2.2.1, x2.2.2.2.2.2)
theorem s_NormSquared_ok {a1 a2 a3 a4 a5 : Int} {r : Int × Int × Int × Int × Int × Bool} (h : s_NormSquared a1 a2 a3 a4 a5 = some r) :
    Spec Tryz.prog 16 [.agg [.int .i64 a1, .int .i64 a2, .int .i64 a3, .int .i64 a4, .int .i64 a5]] [] (.tup [.agg [.int .i64 r.1, .int .i64 r.2.1, .int .i64 r.2.2.1, .int .i64 r.2.2.2.1, .int .i64 r.2.2.2.2.1], .bool r.2.2.2.2.2]) [] := by
 unfold s_NormSquared at h; refine SO Tryz.func16 rfl Tryz.ntmps16 fun C hN hρ => ?_; simp only [st0, tmps0, Nat.zero_add, Nat.reduceAdd]; refine AN hN ?_; refine AR hN fun K hK => ?_; obtain ⟨x1, h1, h⟩ := bO_inv h; simp only [EV, seval]; refine CP (s_ConjDOmega_ok h1) ?_; obtain ⟨x2, h2, h⟩ := bO_inv h; simp only [EV, seval]; refine CP (s_MulDOmega_ok h2) ?_; simp only [EV, seval]; refine hK _ _ _ ?_; clear hK K; injection h with h; subst h; exact AX (b' := 64) [(2, .ptr 32 0), (3, .bool x2.2.2.2.2.2)] [(32, .box 38 [.int .i64 x2.1, .int .i64 x2.2.1, .int .i64 x2.2.2.1, .int .i64 x2.2.2.2.1, .int .i64 x2.2.2.2.2.1])] [(32, some 80)] [] hρ (EQ [])
/- laws.FnStabState -/
def l_FnStabState_j2 (v2 : Bool) : Option Bool :=
  some v2
def l_FnStabState_j6 (v6 : Int) (kl1 : Int → Option Bool) (v7 : Bool) : Option Bool :=
  br v7 (some false) (kl1 (IntKind.wrap .i64 (v6 + 1)))
def l_FnStabState_j7 (v8 : Bool) : Option Bool :=
  some v8
def l_FnStabState_j3 (x2 : Int × LQ) (x3 : LF × Bool) : Option Bool :=
  bO (s_InnerProduct x3.1 x3.1) fun x24 => bO (s_SynthesizeTableau x2.1 x2.2) fun x25 => bO (s_BasisState x2.1 0) fun x26 => bO (s_ApplyGates x25.1 x26) fun x27 => bO (s_InnerProduct x27.1 x3.1) fun x28 => bO (s_NormSquared x28.1 x28.2.1 x28.2.2.1 x28.2.2.2.1 x28.2.2.2.2.1) fun x29 => bO (br x24.2.2.2.2.2 (bO (s_OneDOmega) fun x30 => some (((x24.1 == x30.1) && ((x24.2.1 == x30.2.1) && ((x24.2.2.1 == x30.2.2.1) && ((x24.2.2.2.1 == x30.2.2.2.1) && (x24.2.2.2.2.1 == x30.2.2.2.2))))))) (some false)) fun x31 => bO (br x31 (some x25.2) (some false)) fun x32 => bO (br x32 (some x27.2) (some false)) fun x33 => bO (br x33 (some x28.2.2.2.2.2) (some false)) fun x34 => bO (br x34 (some x29.2.2.2.2.2) (some false)) fun x35 => bO (br x35 (bO (s_OneDOmega) fun x36 => some (((x29.1 == x36.1) && ((x29.2.1 == x36.2.1) && ((x29.2.2.1 == x36.2.2.1) && ((x29.2.2.2.1 == x36.2.2.2.1) && (x29.2.2.2.2.1 == x36.2.2.2.2))))))) (some false)) fun x37 => l_FnStabState_j7 x37
def l_FnStabState_l1 (x2 : Int × LQ) (x3 : LF × Bool) : Nat → Int → Option Bool
  | 0, _ => none
  | n1 + 1, v6 =>
  br (decide (v6 < x2.1)) (bO (geti x2.2 (IntKind.wrap .i64 (x2.1 + v6))) fun q3 => bO (i_IsStabilizedBy q3.1 q3.2.1 q3.2.2.1 q3.2.2.2 x3.1) fun x20 => bO (br (!x20) (some true) (bO (s_IsStabilizedBy q3.1 q3.2.1 q3.2.2.1 q3.2.2.2 x3.1) fun x21 => some (!x21))) fun x22 => l_FnStabState_j6 v6 (l_FnStabState_l1 x2 x3 n1) x22) (l_FnStabState_j3 x2 x3)
def l_FnStabState_j1 (x2 : Int × LQ) (x3 : LF × Bool) (x4 : LF × Bool) (v1 : Bool) : Option Bool :=
  br v1 (bO (br (x3.2 == x4.2) (bO (s_EqualState x3.1 x4.1) fun x11 => some x11) (some false)) fun x12 => l_FnStabState_j2 x12) (l_FnStabState_l1 x2 x3 FU 0)
def l_FnStabState (a1 : List Int) : Option Bool :=
  bO (l_big a1) fun x1 => br x1 (some true) (bO (s_DrawStabilizerState a1) fun x2 => bO (i_StabilizerState x2.1 x2.2) fun x3 => bO (s_StabilizerState x2.1 x2.2) fun x4 => bO (br (x3.2 != x4.2) (some true) (bO (s_EqualState x3.1 x4.1) fun x5 => some (!x5))) fun x6 => bO (br x6 (some true) (some (!x3.2))) fun x7 => l_FnStabState_j1 x2 x3 x4 x7)
theorem l_FnStabState_ok {a1 : List Int} {r : Bool} (h : l_FnStabState a1 = some r) :
    Spec Tryz.prog 3 [.sl (encL EB a1) a1.length] [] (.bool r) [] := by
 unfold l_FnStabState at h; refine SO Tryz.func3 rfl Tryz.ntmps3 fun C hN hρ => ?_; simp only [st0, tmps0, Nat.zero_add, Nat.reduceAdd]; refine AN hN ?_; refine AW_seq ?_; obtain ⟨x1, h1, h⟩ := bO_inv h; refine AP hN (l_big_ok h1) ?_; refine AB h (fun hc1 h => ?_) fun hc1 h => ?_
 ·refine AN hN ?_; injection h with h; subst h; exact AX (b' := 64) [(2, .bool true)] [] [] [] hρ (EQ [])
 ·refine AW_skip (AK ?_); obtain ⟨x2, h2, h⟩ := bO_inv h; refine AP hN (s_DrawStabilizerState_ok h2) ?_; obtain ⟨x3, h3, h⟩ := bO_inv h; refine AP hN (i_StabilizerState_ok h3) ?_; obtain ⟨x4, h4, h⟩ := bO_inv h; refine AP hN (s_StabilizerState_ok h4) ?_; refine AW_seq ?_; refine AJ (fun S => ∃ (v1 : Bool), S = ⟨mkT [(3, .ptr 32 0), (4, .sl (encL EIIIII x3.1) x3.1.length), (5, .bool x3.2), (6, .sl (encL EIIIII x4.1) x4.1.length), (7, .bool x4.2), (45, .bool v1)], mkR [(32, .box 26 [.int .i64 x2.1, .sl (encL EIIII x2.2) x2.2.length])], 64⟩ ∧ l_FnStabState_j1 x2 x3 x4 v1 = some r) hN ?_ ?_
  ·intro K hK; obtain ⟨x6, hv1, h⟩ := bO_inv h; rcases br_inv hv1 with ⟨hc2, hv1⟩ | ⟨hc2, hv1⟩
   ·cases hv1; obtain ⟨x8, hv3, h⟩ := bO_inv h; replace hv3 := br_t hv3; cases hv3; (try dsimp only at h); simp only [EV, seval, hc2]; refine hK _ _ _ (show cutK _ _ _ from cutL ⟨_, rfl, h⟩ (Le_can [(32, some 2144)] [] hρ (by kernel_rfl) ?_ ?_))
    ·simp only [AL, EV, seval, hc2]
    ·simp only [AL, EV, seval, hc2]
   ·obtain ⟨x9, h6, hv1⟩ := bO_inv hv1; simp only [EV, seval, hc2]; refine rC_p (s_EqualState_ok h6) (by simp only [AL, EV, seval, hc2]) (le_d rfl) (no_j rfl) ?_; cases hv1; obtain ⟨x10, hv4, h⟩ := bO_inv h; rcases br_inv hv4 with ⟨hc4, hv4⟩ | ⟨hc4, hv4⟩
    ·cases hv4; simp only [EV, seval, hc2, hc4]; refine hK _ _ _ (show cutK _ _ _ from cutL ⟨_, rfl, h⟩ (Le_can [(32, some 2144)] [] hρ (by kernel_rfl) ?_ ?_))
     ·simp only [AL, EV, seval, hc2, hc4]
     ·simp only [AL, EV, seval, hc2, hc4]
    ·cases hv4; simp only [EV, seval, hc2, hc4]; refine hK _ _ _ (show cutK _ _ _ from cutL ⟨_, rfl, h⟩ (Le_can [(32, some 2144)] [] hρ (by kernel_rfl) ?_ ?_))
     ·simp only [AL, EV, seval, hc2, hc4]
     ·simp only [AL, EV, seval, hc2, hc4]
  ·rintro S ⟨v1, rfl, h⟩; unfold l_FnStabState_j1 at h; refine AB h (fun hc5 h => ?_) fun hc5 h => ?_
   ·refine AJ (fun S => ∃ (v2 : Bool), S = ⟨mkT [(2, .bool v2)], mkR [], 64⟩ ∧ l_FnStabState_j2 v2 = some r) hN ?_ ?_
    ·intro K hK; obtain ⟨x12, hv5, h⟩ := bO_inv h; rcases br_inv hv5 with ⟨hc6, hv5⟩ | ⟨hc6, hv5⟩
     ·obtain ⟨x13, h8, hv5⟩ := bO_inv hv5; simp only [EV, seval, hc6]; refine rC_p (s_EqualState_ok h8) (by simp only [AL, EV, seval, hc6]) (le_d rfl) (no_j rfl) ?_; cases hv5; simp only [EV, seval, hc6]; refine hK _ _ _ (show cutK _ _ _ from cutL ⟨_, rfl, h⟩ (Le_can [] [] hρ (by kernel_rfl) ?_ ?_))
      ·simp only [AL, EV, seval, hc6]
      ·simp only [AL, EV, seval, hc6]
     ·cases hv5; simp only [EV, seval, hc6]; refine hK _ _ _ (show cutK _ _ _ from cutL ⟨_, rfl, h⟩ (Le_can [] [] hρ (by kernel_rfl) ?_ ?_))
      ·simp only [AL, EV, seval, hc6]
      ·simp only [AL, EV, seval, hc6]
    ·rintro S ⟨v2, rfl, h⟩; unfold l_FnStabState_j2 at h; injection h with h; subst h; exact AX (b' := 64) [(2, .bool v2)] [] [] [] hρ (EQ [])
   ·refine AW_skip (AK ?_); refine AW_cutK (fun S => S = ⟨mkT [(3, .ptr 32 0), (4, .sl (encL EIIIII x3.1) x3.1.length)], mkR [(32, .box 26 [.int .i64 x2.1, .sl (encL EIIII x2.2) x2.2.length])], 64⟩ ∧ l_FnStabState_j3 x2 x3 = some r) ?_ ?_
    ·refine AN hN ?_; refine AW_block ?_; refine AW_loopF (fun n S => ∃ (v6 : Int), S = ⟨mkT [(3, .ptr 32 0), (4, .sl (encL EIIIII x3.1) x3.1.length), (8, .int .i64 v6)], mkR [(32, .box 26 [.int .i64 x2.1, .sl (encL EIIII x2.2) x2.2.length])], 64⟩ ∧ l_FnStabState_l1 x2 x3 n v6 = some r) FU ?_ ?_ ?_
     ·exact AC ⟨_, rfl, h⟩ [(32, some 32)] [] hρ
     ·rintro S ⟨_, _, h⟩; rw [l_FnStabState_l1] at h; cases h
     ·rintro n1 S ⟨v6, rfl, h⟩; rw [l_FnStabState_l1] at h; refine AW_seq ?_; refine AN hN ?_; refine AB h (fun hc13 h => ?_) fun hc13 h => ?_
      ·refine AW_skip (AK ?_); refine AW_seq ?_; refine AW_block ?_; refine AJ (fun S => ∃ (v7 : Bool), S = ⟨mkT [(3, .ptr 32 0), (4, .sl (encL EIIIII x3.1) x3.1.length), (8, .int .i64 v6), (83, .bool v7)], mkR [(32, .box 26 [.int .i64 x2.1, .sl (encL EIIII x2.2) x2.2.length])], 64⟩ ∧ l_FnStabState_j6 v6 (l_FnStabState_l1 x2 x3 n1) v7 = some r) hN ?_ ?_
       ·intro K hK; obtain ⟨q3, h17, h⟩ := bO_inv h; obtain ⟨⟨h18a, h18b⟩, h18c⟩ := geti_E EIIIIl h17; (try simp only [EV, seval] at h18c); obtain ⟨x20, h19, h⟩ := bO_inv h; simp only [EV, seval, h18a, h18b, h18c]; refine rC_p (i_IsStabilizedBy_ok h19) (by simp only [AL, EV, seval, h18a, h18b, h18c]) (le_d rfl) (no_j rfl) ?_; obtain ⟨x22, hv8, h⟩ := bO_inv h; rcases br_inv hv8 with ⟨hc14, hv8⟩ | ⟨hc14, hv8⟩
        ·cases hv8; simp only [EV, seval, h18a, h18b, h18c, hc14]; refine hK _ _ _ (show cutK _ _ _ from cutL ⟨_, rfl, h⟩ (Le_can [(32, some 32)] [] hρ (by kernel_rfl) ?_ ?_))
         ·simp only [AL, EV, seval, h18a, h18b, h18c, hc14]
         ·simp only [AL, EV, seval, h18a, h18b, h18c, hc14]
        ·obtain ⟨x23, h21, hv8⟩ := bO_inv hv8; simp only [EV, seval, h18a, h18b, h18c, hc14]; refine rC_p (s_IsStabilizedBy_ok h21) (by simp only [AL, EV, seval, h18a, h18b, h18c, hc14]) (le_d rfl) (no_j rfl) ?_; cases hv8; simp only [EV, seval, h18a, h18b, h18c, hc14]; refine hK _ _ _ (show cutK _ _ _ from cutL ⟨_, rfl, h⟩ (Le_can [(32, some 32)] [] hρ (by kernel_rfl) ?_ ?_))
         ·simp only [AL, EV, seval, h18a, h18b, h18c, hc14]
         ·simp only [AL, EV, seval, h18a, h18b, h18c, hc14]
       ·rintro S ⟨v7, rfl, h⟩; unfold l_FnStabState_j6 at h; refine AB h (fun hc15 h => ?_) fun hc15 h => ?_
        ·refine AN hN ?_; injection h with h; subst h; exact AX (b' := 64) [(2, .bool false)] [] [] [] hρ (EQ [])
        ·refine AW_skip (AK ?_); refine AS hN fun K hK => ?_; simp only [EV, seval]; exact hK _ _ _ (AC ⟨_, rfl, h⟩ [(32, some 32)] [] hρ)
      ·exact AW_exit (AC ⟨rfl, h⟩ [(32, some 32)] [] hρ)
    ·rintro S ⟨rfl, h⟩; unfold l_FnStabState_j3 at h; obtain ⟨x24, h22, h⟩ := bO_inv h; refine AP hN (s_InnerProduct_ok h22) ?_; refine AR hN fun K hK => ?_; obtain ⟨x25, h23, h⟩ := bO_inv h; simp only [EV, seval]; refine rC_p (s_SynthesizeTableau_ok h23) (by simp only [AL, EV, seval]) (le_d rfl) (site_1 (by simp only [EV, seval])) ?_; simp only [EV, seval]; refine hK _ _ _ ?_; clear hK K; refine AR hN fun K hK => ?_; obtain ⟨x26, h24, h⟩ := bO_inv h; simp only [EV, seval]; refine rC_p (s_BasisState_ok h24) (by simp only [AL, EV, seval]) (le_d rfl) (site_1 (by simp only [EV, seval])) ?_; obtain ⟨x27, h25, h⟩ := bO_inv h; simp only [EV, seval]; refine rC_l (s_ApplyGates_ok h25) (by simp only [AL, EV, seval]) (by simp only [AL, EF, and_self]) (le_d rfl) (site_1 (by simp only [EV, seval])) ?_; simp only [EV, seval]; refine hK _ _ _ ?_; clear hK K; refine AR hN fun K hK => ?_; obtain ⟨x28, h26, h⟩ := bO_inv h; simp only [EV, seval]; refine rC_l (s_InnerProduct_ok h26) (by simp only [AL, EV, seval]) (by simp only [AL, EF, and_self]) (le_d rfl) (no_j rfl) ?_; simp only [EV, seval]; refine hK _ _ _ ?_; clear hK K; obtain ⟨x29, h27, h⟩ := bO_inv h; refine AP hN (s_NormSquared_ok h27) ?_; refine AJ (fun S => ∃ (v8 : Bool), S = ⟨mkT [(2, .bool v8)], mkR [], 64⟩ ∧ l_FnStabState_j7 v8 = some r) hN ?_ ?_
     ·intro K hK; obtain ⟨x31, hv9, h⟩ := bO_inv h; rcases br_inv hv9 with ⟨hc16, hv9⟩ | ⟨hc16, hv9⟩
      ·obtain ⟨x38, h30, hv9⟩ := bO_inv hv9; simp only [EV, seval, hc16]; refine rC_p (s_OneDOmega_ok h30) (by simp only [AL, EV, seval, hc16]) (le_d rfl) (no_j rfl) ?_; cases hv9; obtain ⟨x39, hv15, h⟩ := bO_inv h; rcases br_inv hv15 with ⟨hc22, hv15⟩ | ⟨hc22, hv15⟩
       ·cases hv15; obtain ⟨x45, hv20, h⟩ := bO_inv h; rcases br_inv hv20 with ⟨hc27, hv20⟩ | ⟨hc27, hv20⟩
        ·cases hv20; obtain ⟨x50, hv24, h⟩ := bO_inv h; rcases br_inv hv24 with ⟨hc31, hv24⟩ | ⟨hc31, hv24⟩
         ·cases hv24; obtain ⟨x54, hv27, h⟩ := bO_inv h; rcases br_inv hv27 with ⟨hc34, hv27⟩ | ⟨hc34, hv27⟩
          ·cases hv27; obtain ⟨x58, hv29, h⟩ := bO_inv h; rcases br_inv hv29 with ⟨hc36, hv29⟩ | ⟨hc36, hv29⟩
           ·obtain ⟨x59, h36, hv29⟩ := bO_inv hv29; simp only [EV, seval, hc16, hc22, hc27, hc31, hc34, hc36]; refine rC_p (s_OneDOmega_ok h36) (by simp only [AL, EV, seval, hc16, hc22, hc27, hc31, hc34, hc36]) (le_d rfl) (no_j rfl) ?_; cases hv29; simp only [EV, seval, hc16, hc22, hc27, hc31, hc34, hc36]; refine hK _ _ _ (show cutK _ _ _ from cutL ⟨_, rfl, h⟩ (Le_can [] [] hρ (by kernel_rfl) ?_ ?_))
            ·simp only [AL, EV, seval, hc16, hc22, hc27, hc31, hc34, hc36]
            ·simp only [AL, EV, seval, hc16, hc22, hc27, hc31, hc34, hc36]
           ·cases hv29; simp only [EV, seval, hc16, hc22, hc27, hc31, hc34, hc36]; refine hK _ _ _ (show cutK _ _ _ from cutL ⟨_, rfl, h⟩ (Le_can [] [] hρ (by kernel_rfl) ?_ ?_))
            ·simp only [AL, EV, seval, hc16, hc22, hc27, hc31, hc34, hc36]
            ·simp only [AL, EV, seval, hc16, hc22, hc27, hc31, hc34, hc36]
          ·cases hv27; obtain ⟨x60, hv30, h⟩ := bO_inv h; replace hv30 := br_f hv30; cases hv30; (try dsimp only at h); simp only [EV, seval, hc16, hc22, hc27, hc31, hc34]; refine hK _ _ _ (show cutK _ _ _ from cutL ⟨_, rfl, h⟩ (Le_can [] [] hρ (by kernel_rfl) ?_ ?_))
           ·simp only [AL, EV, seval, hc16, hc22, hc27, hc31, hc34]
           ·simp only [AL, EV, seval, hc16, hc22, hc27, hc31, hc34]
         ·cases hv24; obtain ⟨x61, hv31, h⟩ := bO_inv h; replace hv31 := br_f hv31; cases hv31; (try dsimp only at h); obtain ⟨x62, hv32, h⟩ := bO_inv h; replace hv32 := br_f hv32; cases hv32; (try dsimp only at h); simp only [EV, seval, hc16, hc22, hc27, hc31]; refine hK _ _ _ (show cutK _ _ _ from cutL ⟨_, rfl, h⟩ (Le_can [] [] hρ (by kernel_rfl) ?_ ?_))
          ·simp only [AL, EV, seval, hc16, hc22, hc27, hc31]
          ·simp only [AL, EV, seval, hc16, hc22, hc27, hc31]
        ·cases hv20; obtain ⟨x63, hv33, h⟩ := bO_inv h; replace hv33 := br_f hv33; cases hv33; (try dsimp only at h); obtain ⟨x64, hv34, h⟩ := bO_inv h; replace hv34 := br_f hv34; cases hv34; (try dsimp only at h); obtain ⟨x65, hv35, h⟩ := bO_inv h; replace hv35 := br_f hv35; cases hv35; (try dsimp only at h); simp only [EV, seval, hc16, hc22, hc27]; refine hK _ _ _ (show cutK _ _ _ from cutL ⟨_, rfl, h⟩ (Le_can [] [] hρ (by kernel_rfl) ?_ ?_))
         ·simp only [AL, EV, seval, hc16, hc22, hc27]
         ·simp only [AL, EV, seval, hc16, hc22, hc27]
       ·cases hv15; obtain ⟨x66, hv36, h⟩ := bO_inv h; replace hv36 := br_f hv36; cases hv36; (try dsimp only at h); obtain ⟨x67, hv37, h⟩ := bO_inv h; replace hv37 := br_f hv37; cases hv37; (try dsimp only at h); obtain ⟨x68, hv38, h⟩ := bO_inv h; replace hv38 := br_f hv38; cases hv38; (try dsimp only at h); obtain ⟨x69, hv39, h⟩ := bO_inv h; replace hv39 := br_f hv39; cases hv39; (try dsimp only at h); simp only [EV, seval, hc16, hc22]; refine hK _ _ _ (show cutK _ _ _ from cutL ⟨_, rfl, h⟩ (Le_can [] [] hρ (by kernel_rfl) ?_ ?_))
        ·simp only [AL, EV, seval, hc16, hc22]
        ·simp only [AL, EV, seval, hc16, hc22]
      ·cases hv9; obtain ⟨x70, hv40, h⟩ := bO_inv h; replace hv40 := br_f hv40; cases hv40; (try dsimp only at h); obtain ⟨x71, hv41, h⟩ := bO_inv h; replace hv41 := br_f hv41; cases hv41; (try dsimp only at h); obtain ⟨x72, hv42, h⟩ := bO_inv h; replace hv42 := br_f hv42; cases hv42; (try dsimp only at h); obtain ⟨x73, hv43, h⟩ := bO_inv h; replace hv43 := br_f hv43; cases hv43; (try dsimp only at h); obtain ⟨x74, hv44, h⟩ := bO_inv h; replace hv44 := br_f hv44; cases hv44; (try dsimp only at h); simp only [EV, seval, hc16]; refine hK _ _ _ (show cutK _ _ _ from cutL ⟨_, rfl, h⟩ (Le_can [] [] hρ (by kernel_rfl) ?_ ?_))
       ·simp only [AL, EV, seval, hc16]
       ·simp only [AL, EV, seval, hc16]
     ·rintro S ⟨v8, rfl, h⟩; unfold l_FnStabState_j7 at h; injection h with h; subst h; exact AX (b' := 64) [(2, .bool v8)] [] [] [] hρ (EQ [])
end Go.Proofs.YtfoiedjjhgpcpaaGreat
