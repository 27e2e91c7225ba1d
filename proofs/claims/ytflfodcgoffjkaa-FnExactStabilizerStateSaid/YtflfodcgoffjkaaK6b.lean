/- Joined texts: Mzd Mze Mdd. -/
import Derived.Test.YtflfodcgoffjkaaK1
import Derived.Test.YtflfodcgoffjkaaK6
import Derived.Test.YtflfodcgoffjkaaK2
/- Models of functions, and that the functions do what the models say; printed by a program. -/
namespace Go.Proofs.Ytflfodcgoffjkaa
open Go.RowKit
set_option maxRecDepth 100000
set_option linter.unusedVariables false
set_option linter.unusedSimpArgs false
set_option linter.defProp false
set_option maxHeartbeats 4000000
/- impl.ProjectState -/
def i_ProjectState (a1 a2 a3 a4 : Int) (a5 : LF) : Option (LF × Bool) :=
  bO (i_PauliMatrix a1 a2 a3 a4) fun x1 => bO (i_ApplyMatrix x1 a5) fun x2 => br (!x2.2) (some ([], false)) (bO (i_AddStates a5 x2.1) fun x3 => br (!x3.2) (some ([], false)) (bO (i_InvSqrt2Power 2) fun x4 => bO (i_ScaleState x3.1 x4.1 x4.2.1 x4.2.2.1 x4.2.2.2.1 x4.2.2.2.2) fun x5 => some (x5.1, x5.2)))
theorem i_ProjectState_ok {a1 a2 a3 a4 : Int} {a5 : LF} {r : LF × Bool} (h : i_ProjectState a1 a2 a3 a4 a5 = some r) :
    Spec Try.prog 123 [.agg [.int .i64 a1, .int .i64 a2, .int .i64 a3, .int .i64 a4], .sl (encL EIIIII a5) a5.length] [] (.tup [.own 0 r.1.length, .bool r.2]) [.row 77 5 (encL EIIIII r.1)] := by
 unfold i_ProjectState at h; refine SO Try.func123 rfl Try.ntmps123 fun C hN hρ => ?_; simp only [st0, tmps0, Nat.zero_add, Nat.reduceAdd]; refine AN hN ?_; refine AR hN fun K hK => ?_; obtain ⟨x1, h1, h⟩ := bO_inv h; simp only [EV, seval]; refine rC_p (i_PauliMatrix_ok h1) (by simp only [AL, EV, seval]) (le_d rfl) (site_1 (by simp only [EV, seval])) ?_; obtain ⟨x2, h2, h⟩ := bO_inv h; simp only [EV, seval]; refine rC_l (i_ApplyMatrix_ok h2) (by simp only [AL, EV, seval]) (by simp only [AL, EF, and_self]) (le_d rfl) (site_1 (by simp only [EV, seval])) ?_; simp only [EV, seval]; refine hK _ _ _ ?_; clear hK K; refine AW_seq ?_; refine AN hN ?_; refine AB h (fun hc1 h => ?_) fun hc1 h => ?_
 ·refine AN hN ?_; injection h with h; subst h; exact AX (b' := 64) [(4, .own 32 0), (5, .bool false)] [(32, .row 77 5 (encL EIIIII ([])))] [(32, none)] [] hρ (EQ [32])
 ·refine AW_skip (AK ?_); refine AR hN fun K hK => ?_; obtain ⟨x3, h3, h⟩ := bO_inv h; simp only [EV, seval]; refine rC_l (i_AddStates_ok h3) (by simp only [AL, EV, seval]) (by simp only [AL, EF, and_self]) (le_d rfl) (site_1 (by simp only [EV, seval])) ?_; simp only [EV, seval]; refine hK _ _ _ ?_; clear hK K; refine AW_seq ?_; refine AN hN ?_; refine AB h (fun hc2 h => ?_) fun hc2 h => ?_
  ·refine AN hN ?_; injection h with h; subst h; exact AX (b' := 64) [(4, .own 32 0), (5, .bool false)] [(32, .row 77 5 (encL EIIIII ([])))] [(32, none)] [] hρ (EQ [32])
  ·refine AW_skip (AK ?_); refine AR hN fun K hK => ?_; obtain ⟨x4, h4, h⟩ := bO_inv h; simp only [EV, seval]; refine CP (i_InvSqrt2Power_ok h4) ?_; obtain ⟨x5, h5, h⟩ := bO_inv h; simp only [EV, seval]; refine rC_l (i_ScaleState_ok h5) (by simp only [AL, EV, seval]) (by simp only [AL, EF, and_self]) (le_d rfl) (site_1 (by simp only [EV, seval])) ?_; simp only [EV, seval]; refine hK _ _ _ ?_; clear hK K; refine AN hN ?_; injection h with h; subst h; exact AX (b' := 64) [(4, .own 32 x5.1.length), (5, .bool x5.2)] [(32, .row 77 5 (encL EIIIII x5.1))] [(32, some 5216)] [] hρ (EQ [32])
/- spec.ProjectState -/
def s_ProjectState_j1 (x3 : LF × Bool) (v1 : Bool) : Option (LF × Bool) :=
  br v1 (some ([], false)) (bO (s_InvSqrt2Power 2) fun x5 => bO (s_ScaleState x3.1 x5.1 x5.2.1 x5.2.2.1 x5.2.2.2.1 x5.2.2.2.2) fun x6 => some (x6.1, x6.2))
def s_ProjectState (a1 a2 a3 a4 : Int) (a5 : LF) : Option (LF × Bool) :=
  bO (s_PauliMatrix a1 a2 a3 a4) fun x1 => bO (s_ApplyMatrix x1 a5) fun x2 => bO (s_AddStates a5 x2.1) fun x3 => bO (br (!x2.2) (some true) (some (!x3.2))) fun x4 => s_ProjectState_j1 x3 x4
theorem s_ProjectState_ok {a1 a2 a3 a4 : Int} {a5 : LF} {r : LF × Bool} (h : s_ProjectState a1 a2 a3 a4 a5 = some r) :
    Spec Try.prog 115 [.agg [.int .i64 a1, .int .i64 a2, .int .i64 a3, .int .i64 a4], .sl (encL EIIIII a5) a5.length] [] (.tup [.own 0 r.1.length, .bool r.2]) [.row 77 5 (encL EIIIII r.1)] := by
 unfold s_ProjectState at h; refine SO Try.func115 rfl Try.ntmps115 fun C hN hρ => ?_; simp only [st0, tmps0, Nat.zero_add, Nat.reduceAdd]; refine AN hN ?_; refine AR hN fun K hK => ?_; obtain ⟨x1, h1, h⟩ := bO_inv h; simp only [EV, seval]; refine rC_p (s_PauliMatrix_ok h1) (by simp only [AL, EV, seval]) (le_d rfl) (site_1 (by simp only [EV, seval])) ?_; obtain ⟨x2, h2, h⟩ := bO_inv h; simp only [EV, seval]; refine rC_l (s_ApplyMatrix_ok h2) (by simp only [AL, EV, seval]) (by simp only [AL, EF, and_self]) (le_d rfl) (site_1 (by simp only [EV, seval])) ?_; simp only [EV, seval]; refine hK _ _ _ ?_; clear hK K; refine AR hN fun K hK => ?_; obtain ⟨x3, h3, h⟩ := bO_inv h; simp only [EV, seval]; refine rC_l (s_AddStates_ok h3) (by simp only [AL, EV, seval]) (by simp only [AL, EF, and_self]) (le_d rfl) (site_1 (by simp only [EV, seval])) ?_; simp only [EV, seval]; refine hK _ _ _ ?_; clear hK K; refine AW_seq ?_; refine AJ (fun S => ∃ (v1 : Bool), S = ⟨mkT [(8, .own 32 x3.1.length), (28, .bool v1)], mkR [(32, .row 77 5 (encL EIIIII x3.1))], 64⟩ ∧ s_ProjectState_j1 x3 v1 = some r) hN ?_ ?_
 ·intro K hK; obtain ⟨x4, hv1, h⟩ := bO_inv h; rcases br_inv hv1 with ⟨hc1, hv1⟩ | ⟨hc1, hv1⟩
  ·cases hv1; simp only [EV, seval, hc1]; refine hK _ _ _ (show cutK _ _ _ from cutL ⟨_, rfl, h⟩ (Le_can [(32, some 2144)] [] hρ (by kernel_rfl) ?_ ?_))
   ·simp only [AL, EV, seval, hc1]
   ·simp only [AL, EV, seval, hc1]
  ·cases hv1; simp only [EV, seval, hc1]; refine hK _ _ _ (show cutK _ _ _ from cutL ⟨_, rfl, h⟩ (Le_can [(32, some 2144)] [] hρ (by kernel_rfl) ?_ ?_))
   ·simp only [AL, EV, seval, hc1]
   ·simp only [AL, EV, seval, hc1]
 ·rintro S ⟨v1, rfl, h⟩; unfold s_ProjectState_j1 at h; refine AB h (fun hc2 h => ?_) fun hc2 h => ?_
  ·refine AN hN ?_; injection h with h; subst h; exact AX (b' := 64) [(4, .own 32 0), (5, .bool false)] [(32, .row 77 5 (encL EIIIII ([])))] [(32, some 64)] [] hρ (EQ [32])
  ·refine AW_skip (AK ?_); refine AR hN fun K hK => ?_; obtain ⟨x5, h4, h⟩ := bO_inv h; simp only [EV, seval]; refine CP (s_InvSqrt2Power_ok h4) ?_; obtain ⟨x6, h5, h⟩ := bO_inv h; simp only [EV, seval]; refine rC_l (s_ScaleState_ok h5) (by simp only [AL, EV, seval]) (by simp only [AL, EF, and_self]) (le_d rfl) (site_1 (by simp only [EV, seval])) ?_; simp only [EV, seval]; refine hK _ _ _ ?_; clear hK K; injection h with h; subst h; exact AX (b' := 64) [(4, .own 32 x6.1.length), (5, .bool x6.2)] [(32, .row 77 5 (encL EIIIII x6.1))] [(32, some 96)] [] hρ (EQ [32])
end Go.Proofs.Ytflfodcgoffjkaa
/- Models of functions, and that the functions do what the models say; printed by a program. -/
namespace Go.Proofs.Ytflfodcgoffjkaa
open Go.RowKit
set_option maxRecDepth 100000
set_option linter.unusedVariables false
set_option linter.unusedSimpArgs false
set_option linter.defProp false
set_option maxHeartbeats 4000000
/- impl.OneDOmega -/
def i_OneDOmega : Option (Int × Int × Int × Int × Int) :=
  some (1, 0, 0, 0, 0)
theorem i_OneDOmega_ok {r : Int × Int × Int × Int × Int} (h : i_OneDOmega = some r) :
    Spec Try.prog 125 [] [] (.agg [.int .i64 r.1, .int .i64 r.2.1, .int .i64 r.2.2.1, .int .i64 r.2.2.2.1, .int .i64 r.2.2.2.2]) [] := by
 unfold i_OneDOmega at h; refine SO Try.func125 rfl Try.ntmps125 fun C hN hρ => ?_; simp only [st0, tmps0, Nat.zero_add, Nat.reduceAdd]; refine AN hN ?_; refine AN hN ?_; injection h with h; subst h; exact AX (b' := 64) [(0, .ptr 32 0)] [(32, .box 77 [.int .i64 1, .int .i64 0, .int .i64 0, .int .i64 0, .int .i64 0])] [(32, some 64)] [] hρ (EQ [])
/- impl.BasisState -/
def i_BasisState_j1 (a1 a2 : Int) (v1 : Bool) : Option (LF) :=
  br v1 (some ([])) (gd (decide (¬ a1 < 0)) (gd (decide (0 ≤ IntKind.wrap .i64 (1 * 2 ^ min (Int.toNat a1) (IntKind.bits .i64)) ∧ IntKind.wrap .i64 (1 * 2 ^ min (Int.toNat a1) (IntKind.bits .i64)) ≤ 1048576)) (bO (i_OneDOmega) fun x5 => bO (geti (List.replicate (Int.toNat (IntKind.wrap .i64 (1 * 2 ^ min (Int.toNat a1) (IntKind.bits .i64)))) ((0, 0, 0, 0, 0) : Int × Int × Int × Int × Int)) a2) fun q1 => some ((List.replicate (Int.toNat (IntKind.wrap .i64 (1 * 2 ^ min (Int.toNat a1) (IntKind.bits .i64)))) ((0, 0, 0, 0, 0) : Int × Int × Int × Int × Int)).set (Int.toNat a2) ((x5.1, x5.2.1, x5.2.2.1, x5.2.2.2.1, x5.2.2.2.2))))))
def i_BasisState (a1 a2 : Int) : Option (LF) :=
  bO (i_in a1 1 4) fun x1 => bO (br (!x1) (some true) (gd (decide (¬ a1 < 0)) (bO (i_in a2 0 (IntKind.wrap .i64 ((IntKind.wrap .i64 (1 * 2 ^ min (Int.toNat a1) (IntKind.bits .i64))) - 1))) fun x2 => some (!x2)))) fun x3 => i_BasisState_j1 a1 a2 x3
theorem i_BasisState_ok {a1 a2 : Int} {r : LF} (h : i_BasisState a1 a2 = some r) :
    Spec Try.prog 122 [.int .i64 a1, .int .i64 a2] [] (.own 0 r.length) [.row 77 5 (encL EIIIII r)] := by
 unfold i_BasisState at h; refine SO Try.func122 rfl Try.ntmps122 fun C hN hρ => ?_; simp only [st0, tmps0, Nat.zero_add, Nat.reduceAdd]; refine AN hN ?_; refine AW_seq ?_; refine AJ (fun S => ∃ (v1 : Bool), S = ⟨mkT [(0, .int .i64 a1), (1, .int .i64 a2), (16, .bool v1)], mkR [], 64⟩ ∧ i_BasisState_j1 a1 a2 v1 = some r) hN ?_ ?_
 ·intro K hK; obtain ⟨x1, h1, h⟩ := bO_inv h; simp only [EV, seval]; refine CP (i_in_ok h1) ?_; obtain ⟨x3, hv1, h⟩ := bO_inv h; rcases br_inv hv1 with ⟨hc1, hv1⟩ | ⟨hc1, hv1⟩
  ·cases hv1; simp only [EV, seval, hc1]; refine hK _ _ _ (show cutK _ _ _ from cutL ⟨_, rfl, h⟩ (Le_can [] [] hρ (by kernel_rfl) ?_ ?_))
   ·simp only [AL, EV, seval, hc1]
   ·simp only [AL, EV, seval, hc1]
  ·obtain ⟨h4, hv1⟩ := gd_inv hv1; replace h4 := of_decide_eq_true h4; obtain ⟨x4, h5, hv1⟩ := bO_inv hv1; simp only [EV, seval, hc1, h4]; refine rC_p (i_in_ok h5) (by simp only [AL, EV, seval, hc1, h4]) (le_d rfl) (no_j rfl) ?_; cases hv1; simp only [EV, seval, hc1, h4]; refine hK _ _ _ (show cutK _ _ _ from cutL ⟨_, rfl, h⟩ (Le_can [] [] hρ (by kernel_rfl) ?_ ?_))
   ·simp only [AL, EV, seval, hc1, h4]
   ·simp only [AL, EV, seval, hc1, h4]
 ·rintro S ⟨v1, rfl, h⟩; unfold i_BasisState_j1 at h; refine AB h (fun hc2 h => ?_) fun hc2 h => ?_
  ·refine AN hN ?_; injection h with h; subst h; exact AX (b' := 64) [(4, .own 32 0)] [(32, .row 77 5 (encL EIIIII ([])))] [(32, none)] [] hρ (EQ [32])
  ·refine AW_skip (AK ?_); refine AR hN fun K hK => ?_; obtain ⟨h6, h⟩ := gd_inv h; replace h6 := of_decide_eq_true h6; obtain ⟨h7, h⟩ := gd_inv h; replace h7 := of_decide_eq_true h7; have h8 := zrow_enc (e := EIIIII) ((0, 0, 0, 0, 0)) (Int.toNat (IntKind.wrap .i64 (1 * 2 ^ min (Int.toNat a1) (IntKind.bits .i64)))); simp only [EN] at h8; have h9 : (List.replicate (Int.toNat (IntKind.wrap .i64 (1 * 2 ^ min (Int.toNat a1) (IntKind.bits .i64)))) ((0, 0, 0, 0, 0) : Int × Int × Int × Int × Int)).length = Int.toNat (IntKind.wrap .i64 (1 * 2 ^ min (Int.toNat a1) (IntKind.bits .i64))) := List.length_replicate; simp only [EV, seval, h6, h7, h8, h9]; refine hK _ _ _ ?_; clear hK K; refine AR hN fun K hK => ?_; obtain ⟨x5, h10, h⟩ := bO_inv h; simp only [EV, seval]; refine CP (i_OneDOmega_ok h10) ?_; obtain ⟨q1, h11, h⟩ := bO_inv h; obtain ⟨⟨h12a, h12b⟩, h12c⟩ := geti_E EIIIIIl h11; (try simp only [EV, seval] at h12c); (try simp only [EV, seval] at h12b); have h13 := set_E EIIIIIl ((x5.1, x5.2.1, x5.2.2.1, x5.2.2.2.1, x5.2.2.2.2)) 0 [.int .i64 x5.1, .int .i64 x5.2.1, .int .i64 x5.2.2.1, .int .i64 x5.2.2.2.1, .int .i64 x5.2.2.2.2] h11 (Nat.le_of_ble_eq_true rfl) rfl; obtain ⟨h13a, h13b⟩ := h13; (try simp only [EV, seval] at h13a); (try simp only [EV, seval] at h13b); simp only [EV, seval, h12a, h12b, h12c, h13a, h13b]; refine hK _ _ _ ?_; clear hK K; refine AN hN ?_; injection h with h; subst h; exact AX (b' := 64) [(4, .own 32 ((List.replicate (Int.toNat (IntKind.wrap .i64 (1 * 2 ^ min (Int.toNat a1) (IntKind.bits .i64)))) ((0, 0, 0, 0, 0) : Int × Int × Int × Int × Int)).set (Int.toNat a2) ((x5.1, x5.2.1, x5.2.2.1, x5.2.2.2.1, x5.2.2.2.2))).length)] [(32, .row 77 5 (encL EIIIII ((List.replicate (Int.toNat (IntKind.wrap .i64 (1 * 2 ^ min (Int.toNat a1) (IntKind.bits .i64)))) ((0, 0, 0, 0, 0) : Int × Int × Int × Int × Int)).set (Int.toNat a2) ((x5.1, x5.2.1, x5.2.2.1, x5.2.2.2.1, x5.2.2.2.2)))))] [(32, some 96)] [] hρ (EQ [32])
/- impl.projected -/
def i_projected_j1 (v8 : LF) : Option (LF × Bool) :=
  some (v8, true)
def i_projected_l2 (l1 : LQ) : Nat → Int → Int → (LF) → Option (LF × Bool)
  | 0, _, _, _ => none
  | n1 + 1, v5, v6, v7 =>
  br (decide (v6 < v5)) (bO (geti l1 v6) fun q3 => bO (i_ProjectState q3.1 q3.2.1 q3.2.2.1 q3.2.2.2 v7) fun x4 => br (!x4.2) (some ([], false)) ((i_projected_l2 l1 n1) v5 (IntKind.wrap .i64 (v6 + 1)) x4.1)) (i_projected_j1 v7)
def i_projected (a1 : Int) (a2 : LQ) (a3 : Int) : Option (LF × Bool) :=
  bO (i_BasisState a1 a3) fun x1 => bO (slc a2 a1 ((a2.length : Int))) fun l1 => i_projected_l2 l1 FU ((l1.length : Int)) 0 x1
theorem i_projected_ok {a1 : Int} {a2 : LQ} {a3 : Int} {r : LF × Bool} (h : i_projected a1 a2 a3 = some r) :
    Spec Try.prog 78 [.agg [.int .i64 a1, .sl (encL EIIII a2) a2.length], .int .i64 a3] [] (.tup [.own 0 r.1.length, .bool r.2]) [.row 77 5 (encL EIIIII r.1)] := by
 unfold i_projected at h; refine SO Try.func78 rfl Try.ntmps78 fun C hN hρ => ?_; simp only [st0, tmps0, Nat.zero_add, Nat.reduceAdd]; refine AN hN ?_; refine AR hN fun K hK => ?_; obtain ⟨x1, h1, h⟩ := bO_inv h; simp only [EV, seval]; refine rC_p (i_BasisState_ok h1) (by simp only [AL, EV, seval]) (le_d rfl) (site_1 (by simp only [EV, seval])) ?_; simp only [EV, seval]; refine hK _ _ _ ?_; clear hK K; refine AW_cutK (fun S => ∃ (v8 : LF), S = ⟨mkT [(6, .own 32 v8.length)], mkR [(32, .row 77 5 (encL EIIIII v8))], 64⟩ ∧ i_projected_j1 v8 = some r) ?_ ?_
 ·refine AR hN fun K hK => ?_; obtain ⟨l1, h2, h⟩ := bO_inv h; obtain ⟨⟨h3a, h3b, h3c⟩, h3d, h3e⟩ := slc_E EIIIIl h2; (try simp only [EV, seval] at h3d); (try simp only [EV, seval] at h3e); (try simp only [EV, seval] at h3a); (try simp only [EV, seval] at h3b); (try simp only [EV, seval] at h3c); simp only [EV, seval, h3a, h3b, h3c, h3d, h3e]; refine hK _ _ _ ?_; clear hK K; refine AW_block ?_; refine AW_loopF (fun n S => ∃ (v5 v6 : Int) (v7 : LF), S = ⟨mkT [(6, .own 32 v7.length), (19, .sl (encL EIIII l1) l1.length), (20, .int .i64 v5), (21, .int .i64 v6)], mkR [(32, .row 77 5 (encL EIIIII v7))], 64⟩ ∧ i_projected_l2 l1 n v5 v6 v7 = some r) FU ?_ ?_ ?_
  ·refine cutL ⟨_, _, _, rfl, h⟩ (Le_can [(32, some 1136)] [] hρ (by kernel_rfl) ?_ ?_)
   ·simp only [AL, EV, seval, h3a, h3b, h3c, h3d, h3e]
   ·simp only [AL, EV, seval, h3a, h3b, h3c, h3d, h3e]
  ·rintro S ⟨_, _, _, _, h⟩; rw [i_projected_l2] at h; cases h
  ·rintro n1 S ⟨v5, v6, v7, rfl, h⟩; rw [i_projected_l2] at h; refine AN hN ?_; refine AW_seq ?_; refine AB h (fun hc5 h => ?_) fun hc5 h => ?_
   ·refine AW_skip (AK ?_); refine AW_seq ?_; refine AW_block ?_; refine AR hN fun K hK => ?_; obtain ⟨q3, h10, h⟩ := bO_inv h; obtain ⟨⟨h11a, h11b⟩, h11c⟩ := geti_E EIIIIl h10; (try simp only [EV, seval] at h11c); simp only [EV, seval, h11a, h11b, h11c]; refine hK _ _ _ ?_; clear hK K; refine AR hN fun K hK => ?_; obtain ⟨x4, h12, h⟩ := bO_inv h; simp only [EV, seval]; refine rC_l (i_ProjectState_ok h12) (by simp only [AL, EV, seval]) (by simp only [AL, EF, and_self]) (le_d rfl) (site_1 (by simp only [EV, seval])) ?_; simp only [EV, seval]; refine hK _ _ _ ?_; clear hK K; refine AW_seq ?_; refine AN hN ?_; refine AB h (fun hc6 h => ?_) fun hc6 h => ?_
    ·refine AN hN ?_; injection h with h; subst h; exact AX (b' := 64) [(4, .own 32 0), (5, .bool false)] [(32, .row 77 5 (encL EIIIII ([])))] [(32, none)] [] hρ (EQ [32])
    ·refine AW_skip (AK ?_); refine AS hN fun K hK => ?_; simp only [EV, seval]; refine hK _ _ _ (show AW _ _ _ _ _ from ?_); refine AS hN fun K hK => ?_; simp only [EV, seval]; exact hK _ _ _ (AC ⟨_, _, _, rfl, h⟩ [(32, some 2144)] [] hρ)
   ·exact AW_exit (AC ⟨_, rfl, h⟩ [(32, some 32)] [] hρ)
 ·rintro S ⟨v8, rfl, h⟩; unfold i_projected_j1 at h; refine AN hN ?_; injection h with h; subst h; exact AX (b' := 64) [(4, .own 32 v8.length), (5, .bool true)] [(32, .row 77 5 (encL EIIIII v8))] [(32, some 32)] [] hρ (EQ [32])
/- impl.isZero -/
def i_isZero_j4 (v14 v15 : Int) (kl3 : Int → Int → Option Bool) : Option Bool :=
  kl3 v14 (IntKind.wrap .i64 (v15 + 1))
def i_isZero_l4 (v14 v15 : Int) (kl3 : Int → Int → Option Bool) (q9 : LF) : Nat → Int → Int → Option Bool
  | 0, _, _ => none
  | n4 + 1, v19, v20 =>
  br (decide (v20 < v19)) (bO (geti q9 v20) fun q12 => br (!((q12.1 == 0) && ((q12.2.1 == 0) && ((q12.2.2.1 == 0) && ((q12.2.2.2.1 == 0) && (q12.2.2.2.2 == 0)))))) (some false) ((i_isZero_l4 v14 v15 kl3 q9 n4) v19 (IntKind.wrap .i64 (v20 + 1)))) (i_isZero_j4 v14 v15 kl3)
def i_isZero_j1 : Option Bool :=
  some true
def i_isZero_l1 (a2 : List (LF)) : Nat → Int → Int → Option Bool
  | 0, _, _ => none
  | n3 + 1, v14, v15 =>
  br (decide (v15 < v14)) (bO (geti a2 v15) fun q9 => i_isZero_l4 v14 v15 (i_isZero_l1 a2 n3) q9 FU ((q9.length : Int)) 0) (i_isZero_j1)
def i_isZero (a1 : Int) (a2 : List (LF)) : Option Bool :=
  i_isZero_l1 a2 FU ((a2.length : Int)) 0
theorem i_isZero_ok {a1 : Int} {a2 : List (LF)} {r : Bool} (h : i_isZero a1 a2 = some r) :
    Spec Try.prog 79 [.agg [.int .i64 a1, .sl (encL ELIIIIIE a2) a2.length]] [] (.bool r) [] := by
 unfold i_isZero at h; refine SO Try.func79 rfl Try.ntmps79 fun C hN hρ => ?_; simp only [st0, tmps0, Nat.zero_add, Nat.reduceAdd]; refine AN hN ?_; refine AW_cutK (fun S => S = ⟨mkT [], mkR [], 64⟩ ∧ i_isZero_j1 = some r) ?_ ?_
 ·refine AN hN ?_; refine AW_block ?_; refine AW_loopF (fun n S => ∃ (v14 v15 : Int), S = ⟨mkT [(8, .sl (encL ELIIIIIE a2) a2.length), (9, .int .i64 v14), (10, .int .i64 v15)], mkR [], 64⟩ ∧ i_isZero_l1 a2 n v14 v15 = some r) FU ?_ ?_ ?_
  ·exact AC ⟨_, _, rfl, h⟩ [] [] hρ
  ·rintro S ⟨_, _, _, h⟩; rw [i_isZero_l1] at h; cases h
  ·rintro n3 S ⟨v14, v15, rfl, h⟩; rw [i_isZero_l1] at h; refine AN hN ?_; refine AW_seq ?_; refine AB h (fun hc15 h => ?_) fun hc15 h => ?_
   ·refine AW_skip (AK ?_); refine AW_cutK (fun S => S = ⟨mkT [(8, .sl (encL ELIIIIIE a2) a2.length), (9, .int .i64 v14), (10, .int .i64 v15)], mkR [], 64⟩ ∧ i_isZero_j4 v14 v15 (i_isZero_l1 a2 n3) = some r) ?_ ?_
    ·refine AW_block ?_; refine AR hN fun K hK => ?_; obtain ⟨q9, h17, h⟩ := bO_inv h; obtain ⟨⟨h18a, h18b⟩, h18c⟩ := geti_E ELIIIIIEl h17; (try simp only [EV, seval] at h18c); simp only [EV, seval, h18a, h18b, h18c]; refine hK _ _ _ ?_; clear hK K; refine AN hN ?_; refine AW_block ?_; refine AW_loopF (fun n S => ∃ (v19 v20 : Int), S = ⟨mkT [(8, .sl (encL ELIIIIIE a2) a2.length), (9, .int .i64 v14), (10, .int .i64 v15), (14, .sl (encL EIIIII q9) q9.length), (15, .int .i64 v19), (16, .int .i64 v20)], mkR [], 64⟩ ∧ i_isZero_l4 v14 v15 (i_isZero_l1 a2 n3) q9 n v19 v20 = some r) FU ?_ ?_ ?_
     ·exact AC ⟨_, _, rfl, h⟩ [] [] hρ
     ·rintro S ⟨_, _, _, h⟩; rw [i_isZero_l4] at h; cases h
     ·rintro n4 S ⟨v19, v20, rfl, h⟩; rw [i_isZero_l4] at h; refine AN hN ?_; refine AW_seq ?_; refine AB h (fun hc20 h => ?_) fun hc20 h => ?_
      ·refine AW_skip (AK ?_); refine AW_seq ?_; refine AW_block ?_; refine AR hN fun K hK => ?_; obtain ⟨q12, h23, h⟩ := bO_inv h; obtain ⟨⟨h24a, h24b⟩, h24c⟩ := geti_E EIIIIIl h23; (try simp only [EV, seval] at h24c); simp only [EV, seval, h24a, h24b, h24c]; refine hK _ _ _ ?_; clear hK K; refine AN hN ?_; refine AB h (fun hc21 h => ?_) fun hc21 h => ?_
       ·refine AN hN ?_; injection h with h; subst h; exact AX (b' := 64) [(2, .bool false)] [] [] [] hρ (EQ [])
       ·refine AW_skip (AK ?_); refine AS hN fun K hK => ?_; simp only [EV, seval]; exact hK _ _ _ (AC ⟨_, _, rfl, h⟩ [] [] hρ)
      ·exact AW_exit (AC ⟨rfl, h⟩ [] [] hρ)
    ·rintro S ⟨rfl, h⟩; unfold i_isZero_j4 at h; refine AS hN fun K hK => ?_; simp only [EV, seval]; exact hK _ _ _ (AC ⟨_, _, rfl, h⟩ [] [] hρ)
   ·exact AW_exit (AC ⟨rfl, h⟩ [] [] hρ)
 ·rintro S ⟨rfl, h⟩; unfold i_isZero_j1 at h; refine AN hN ?_; injection h with h; subst h; exact AX (b' := 64) [(2, .bool true)] [] [] [] hρ (EQ [])
/- impl.ConjZOmega -/
def i_ConjZOmega (a1 a2 a3 a4 : Int) : Option (Int × Int × Int × Int) :=
  bO (i_IsValidZOmega a1 a2 a3 a4) fun x1 => br (!x1) (some (0, 0, 0, 0)) (some (a1, IntKind.wrap .i64 (0 - a4), IntKind.wrap .i64 (0 - a3), IntKind.wrap .i64 (0 - a2)))
theorem i_ConjZOmega_ok {a1 a2 a3 a4 : Int} {r : Int × Int × Int × Int} (h : i_ConjZOmega a1 a2 a3 a4 = some r) :
    Spec Try.prog 194 [.agg [.int .i64 a1, .int .i64 a2, .int .i64 a3, .int .i64 a4]] [] (.agg [.int .i64 r.1, .int .i64 r.2.1, .int .i64 r.2.2.1, .int .i64 r.2.2.2]) [] := by
 unfold i_ConjZOmega at h; refine SO Try.func194 rfl Try.ntmps194 fun C hN hρ => ?_; simp only [st0, tmps0, Nat.zero_add, Nat.reduceAdd]; refine AN hN ?_; refine AW_seq ?_; obtain ⟨x1, h1, h⟩ := bO_inv h; refine AP hN (i_IsValidZOmega_ok h1) ?_; refine AB h (fun hc1 h => ?_) fun hc1 h => ?_
 ·refine AN hN ?_; injection h with h; subst h; exact AX (b' := 64) [(2, .ptr 32 0)] [(32, .box 75 [.int .i64 0, .int .i64 0, .int .i64 0, .int .i64 0])] [(32, some 80)] [] hρ (EQ [])
 ·refine AW_skip (AK ?_); refine AN hN ?_; injection h with h; subst h; exact AX (b' := 64) [(2, .ptr 32 0)] [(32, .box 75 [.int .i64 a1, .int .i64 (IntKind.wrap .i64 (0 - a4)), .int .i64 (IntKind.wrap .i64 (0 - a3)), .int .i64 (IntKind.wrap .i64 (0 - a2))])] [(32, some 80)] [] hρ (EQ [])
/- impl.ConjDOmega -/
def i_ConjDOmega (a1 a2 a3 a4 a5 : Int) : Option (Int × Int × Int × Int × Int) :=
  bO (i_IsValidDOmega a1 a2 a3 a4 a5) fun x1 => br (!x1) (some (0, 0, 0, 0, 0)) (bO (i_ConjZOmega a1 a2 a3 a4) fun x2 => some (x2.1, x2.2.1, x2.2.2.1, x2.2.2.2, a5))
theorem i_ConjDOmega_ok {a1 a2 a3 a4 a5 : Int} {r : Int × Int × Int × Int × Int} (h : i_ConjDOmega a1 a2 a3 a4 a5 = some r) :
    Spec Try.prog 164 [.agg [.int .i64 a1, .int .i64 a2, .int .i64 a3, .int .i64 a4, .int .i64 a5]] [] (.agg [.int .i64 r.1, .int .i64 r.2.1, .int .i64 r.2.2.1, .int .i64 r.2.2.2.1, .int .i64 r.2.2.2.2]) [] := by
 unfold i_ConjDOmega at h; refine SO Try.func164 rfl Try.ntmps164 fun C hN hρ => ?_; simp only [st0, tmps0, Nat.zero_add, Nat.reduceAdd]; refine AN hN ?_; refine AW_seq ?_; obtain ⟨x1, h1, h⟩ := bO_inv h; refine AP hN (i_IsValidDOmega_ok h1) ?_; refine AB h (fun hc1 h => ?_) fun hc1 h => ?_
 ·refine AN hN ?_; injection h with h; subst h; exact AX (b' := 64) [(2, .ptr 32 0)] [(32, .box 77 [.int .i64 0, .int .i64 0, .int .i64 0, .int .i64 0, .int .i64 0])] [(32, some 80)] [] hρ (EQ [])
 ·refine AW_skip (AK ?_); obtain ⟨x2, h2, h⟩ := bO_inv h; refine AP hN (i_ConjZOmega_ok h2) ?_; injection h with h; subst h; exact AX (b' := 64) [(2, .ptr 32 0)] [(32, .box 77 [.int .i64 x2.1, .int .i64 x2.2.1, .int .i64 x2.2.2.1, .int .i64 x2.2.2.2, .int .i64 a5])] [(32, some 80)] [] hρ (EQ [])
/- impl.InnerProduct -/
def i_InnerProduct_j2 (a2 : LF) (v10 : LF) : Option (Int × Int × Int × Int × Int × Bool) :=
  bO (i_dot v10 a2) fun x11 => some (x11.1, x11.2.1, x11.2.2.1, x11.2.2.2.1, x11.2.2.2.2.1, x11.2.2.2.2.2)
def i_InnerProduct_l1 (a1 : LF) (a2 : LF) : Nat → Int → Int → (LF) → Option (Int × Int × Int × Int × Int × Bool)
  | 0, _, _, _ => none
  | n1 + 1, v7, v8, v9 =>
  br (decide (v8 < v7)) (bO (geti a1 v8) fun q3 => bO (i_ConjDOmega q3.1 q3.2.1 q3.2.2.1 q3.2.2.2.1 q3.2.2.2.2) fun x10 => gd (decide (v9.length + ([(x10.1, x10.2.1, x10.2.2.1, x10.2.2.2.1, x10.2.2.2.2)]).length ≤ 16777216)) ((i_InnerProduct_l1 a1 a2 n1) v7 (IntKind.wrap .i64 (v8 + 1)) (v9 ++ ([(x10.1, x10.2.1, x10.2.2.1, x10.2.2.2.1, x10.2.2.2.2)])))) (i_InnerProduct_j2 a2 v9)
def i_InnerProduct_j1 (a1 : LF) (a2 : LF) (v1 : Bool) : Option (Int × Int × Int × Int × Int × Bool) :=
  br v1 (some (0, 0, 0, 0, 0, false)) (i_InnerProduct_l1 a1 a2 FU ((a1.length : Int)) 0 ([] : LF))
def i_InnerProduct (a1 : LF) (a2 : LF) : Option (Int × Int × Int × Int × Int × Bool) :=
  bO (i_IsValidState a1) fun x1 => bO (br (!x1) (some true) (bO (i_IsValidState a2) fun x2 => some (!x2))) fun x3 => bO (br x3 (some true) (some (((a1.length : Int)) != ((a2.length : Int))))) fun x4 => i_InnerProduct_j1 a1 a2 x4
theorem i_InnerProduct_ok {a1 : LF} {a2 : LF} {r : Int × Int × Int × Int × Int × Bool} (h : i_InnerProduct a1 a2 = some r) :
    Spec Try.prog 124 [.sl (encL EIIIII a1) a1.length, .sl (encL EIIIII a2) a2.length] [] (.tup [.agg [.int .i64 r.1, .int .i64 r.2.1, .int .i64 r.2.2.1, .int .i64 r.2.2.2.1, .int .i64 r.2.2.2.2.1], .bool r.2.2.2.2.2]) [] := by
 unfold i_InnerProduct at h; refine SO Try.func124 rfl Try.ntmps124 fun C hN hρ => ?_; simp only [st0, tmps0, Nat.zero_add, Nat.reduceAdd]; refine AN hN ?_; refine AW_seq ?_; refine AJ (fun S => ∃ (v1 : Bool), S = ⟨mkT [(0, .sl (encL EIIIII a1) a1.length), (1, .sl (encL EIIIII a2) a2.length), (4, .ptr 32 0), (25, .bool v1)], mkR [(32, .box 77 [.int .i64 0, .int .i64 0, .int .i64 0, .int .i64 0, .int .i64 0])], 64⟩ ∧ i_InnerProduct_j1 a1 a2 v1 = some r) hN ?_ ?_
 ·intro K hK; obtain ⟨x1, h1, h⟩ := bO_inv h; simp only [EV, seval]; refine CP (i_IsValidState_ok h1) ?_; obtain ⟨x3, hv1, h⟩ := bO_inv h; rcases br_inv hv1 with ⟨hc1, hv1⟩ | ⟨hc1, hv1⟩
  ·cases hv1; obtain ⟨x5, hv3, h⟩ := bO_inv h; replace hv3 := br_t hv3; cases hv3; (try dsimp only at h); simp only [EV, seval, hc1]; refine hK _ _ _ (show cutK _ _ _ from cutL ⟨_, rfl, h⟩ (Le_can [(32, some 64)] [] hρ (by kernel_rfl) ?_ ?_))
   ·simp only [AL, EV, seval, hc1]
   ·simp only [AL, EV, seval, hc1]
  ·obtain ⟨x6, h3, hv1⟩ := bO_inv hv1; simp only [EV, seval, hc1]; refine rC_p (i_IsValidState_ok h3) (by simp only [AL, EV, seval, hc1]) (le_d rfl) (no_j rfl) ?_; cases hv1; obtain ⟨x7, hv4, h⟩ := bO_inv h; rcases br_inv hv4 with ⟨hc3, hv4⟩ | ⟨hc3, hv4⟩
   ·cases hv4; simp only [EV, seval, hc1, hc3]; refine hK _ _ _ (show cutK _ _ _ from cutL ⟨_, rfl, h⟩ (Le_can [(32, some 64)] [] hρ (by kernel_rfl) ?_ ?_))
    ·simp only [AL, EV, seval, hc1, hc3]
    ·simp only [AL, EV, seval, hc1, hc3]
   ·cases hv4; simp only [EV, seval, hc1, hc3]; refine hK _ _ _ (show cutK _ _ _ from cutL ⟨_, rfl, h⟩ (Le_can [(32, some 64)] [] hρ (by kernel_rfl) ?_ ?_))
    ·simp only [AL, EV, seval, hc1, hc3]
    ·simp only [AL, EV, seval, hc1, hc3]
 ·rintro S ⟨v1, rfl, h⟩; unfold i_InnerProduct_j1 at h; refine AB h (fun hc4 h => ?_) fun hc4 h => ?_
  ·refine AN hN ?_; injection h with h; subst h; exact AX (b' := 64) [(4, .ptr 32 0), (5, .bool false)] [(32, .box 77 [.int .i64 0, .int .i64 0, .int .i64 0, .int .i64 0, .int .i64 0])] [(32, some 32)] [] hρ (EQ [])
  ·refine AW_skip (AK ?_); refine AN hN ?_; refine AW_cutK (fun S => ∃ (v10 : LF), S = ⟨mkT [(1, .sl (encL EIIIII a2) a2.length), (4, .ptr 32 0), (6, .own 33 v10.length)], mkR [(32, .box 77 [.int .i64 0, .int .i64 0, .int .i64 0, .int .i64 0, .int .i64 0]), (33, .row 77 5 (encL EIIIII v10))], 64⟩ ∧ i_InnerProduct_j2 a2 v10 = some r) ?_ ?_
   ·refine AN hN ?_; refine AW_block ?_; refine AW_loopF (fun n S => ∃ (v7 v8 : Int) (v9 : LF), S = ⟨mkT [(1, .sl (encL EIIIII a2) a2.length), (4, .ptr 32 0), (6, .own 33 v9.length), (28, .sl (encL EIIIII a1) a1.length), (29, .int .i64 v7), (30, .int .i64 v8)], mkR [(32, .box 77 [.int .i64 0, .int .i64 0, .int .i64 0, .int .i64 0, .int .i64 0]), (33, .row 77 5 (encL EIIIII v9))], 64⟩ ∧ i_InnerProduct_l1 a1 a2 n v7 v8 v9 = some r) FU ?_ ?_ ?_
    ·exact AC ⟨_, _, _, rfl, h⟩ [(32, some 32), (33, some 64)] [] hρ
    ·rintro S ⟨_, _, _, _, h⟩; rw [i_InnerProduct_l1] at h; cases h
    ·rintro n1 S ⟨v7, v8, v9, rfl, h⟩; rw [i_InnerProduct_l1] at h; refine AN hN ?_; refine AW_seq ?_; refine AB h (fun hc7 h => ?_) fun hc7 h => ?_
     ·refine AW_skip (AK ?_); refine AW_seq ?_; refine AW_block ?_; refine AR hN fun K hK => ?_; obtain ⟨q3, h12, h⟩ := bO_inv h; obtain ⟨⟨h13a, h13b⟩, h13c⟩ := geti_E EIIIIIl h12; (try simp only [EV, seval] at h13c); simp only [EV, seval, h13a, h13b, h13c]; refine hK _ _ _ ?_; clear hK K; refine AS hN fun K hK => ?_; obtain ⟨x10, h14, h⟩ := bO_inv h; simp only [EV, seval]; refine CP (i_ConjDOmega_ok h14) ?_; obtain ⟨h15, h⟩ := gd_inv h; replace h15 := of_decide_eq_true h15; (try simp only [EV, seval] at h15); simp only [EV, seval, h15]; refine hK _ _ _ (show AW _ _ _ _ _ from ?_); refine AS hN fun K hK => ?_; simp only [EV, seval]; exact hK _ _ _ (AC ⟨_, _, _, rfl, h⟩ [(32, some 32), (33, some 2176)] [] hρ)
     ·exact AW_exit (AC ⟨_, rfl, h⟩ [(32, some 32), (33, some 33)] [] hρ)
   ·rintro S ⟨v10, rfl, h⟩; unfold i_InnerProduct_j2 at h; refine AR hN fun K hK => ?_; obtain ⟨x11, h16, h⟩ := bO_inv h; simp only [EV, seval]; refine rC_l (i_dot_ok h16) (by simp only [AL, EV, seval]) (by simp only [AL, EF, and_self]) (le_d rfl) (no_j rfl) ?_; simp only [EV, seval]; refine hK _ _ _ ?_; clear hK K; refine AN hN ?_; injection h with h; subst h; exact AX (b' := 64) [(4, .ptr 32 0), (5, .bool x11.2.2.2.2.2)] [(32, .box 77 [.int .i64 x11.1, .int .i64 x11.2.1, .int .i64 x11.2.2.1, .int .i64 x11.2.2.2.1, .int .i64 x11.2.2.2.2.1])] [(32, some 32)] [] hρ (EQ [])
/- impl.normed -/
def i_normed_j1 : Option (LF × Bool) :=
  some ([], false)
def i_normed_l1 : Nat → Int → (LF) → Option (LF × Bool)
  | 0, _, _ => none
  | n1 + 1, v7, v8 =>
  br (decide (v7 ≤ 4)) (bO (i_InnerProduct v8 v8) fun x9 => br (!x9.2.2.2.2.2) (some ([], false)) (bO (i_OneDOmega) fun x10 => br (((x9.1 == x10.1) && ((x9.2.1 == x10.2.1) && ((x9.2.2.1 == x10.2.2.1) && ((x9.2.2.2.1 == x10.2.2.2.1) && (x9.2.2.2.2.1 == x10.2.2.2.2)))))) (some (v8, true)) (bO (i_root) fun x11 => bO (i_ScaleState v8 x11.1 x11.2.1 x11.2.2.1 x11.2.2.2 0) fun x12 => br (!x12.2) (some ([], false)) ((i_normed_l1 n1) (IntKind.wrap .i64 (v7 + 1)) x12.1)))) (i_normed_j1)
def i_normed (a1 : LF) : Option (LF × Bool) :=
  i_normed_l1 FU 0 a1
theorem i_normed_ok {a1 : LF} {r : LF × Bool} (h : i_normed a1 = some r) :
    Spec Try.prog 80 [.own 0 a1.length] [.row 77 5 (encL EIIIII a1)] (.tup [.own 1 r.1.length, .bool r.2]) [.gone, .row 77 5 (encL EIIIII r.1)] := by
 unfold i_normed at h; refine SO Try.func80 rfl Try.ntmps80 fun C hN hρ => ?_; simp only [st0, tmps0, Nat.zero_add, Nat.reduceAdd]; refine AN hN ?_; refine AW_cutK (fun S => S = ⟨mkT [], mkR [(0, .gone)], 64⟩ ∧ i_normed_j1 = some r) ?_ ?_
 ·refine AN hN ?_; refine AW_block ?_; refine AW_loopF (fun n S => ∃ (v7 : Int) (v8 : LF), S = ⟨mkT [(0, .own 32 v8.length), (4, .int .i64 v7)], mkR [(0, .gone), (32, .row 77 5 (encL EIIIII v8))], 64⟩ ∧ i_normed_l1 n v7 v8 = some r) FU ?_ ?_ ?_
  ·exact AC ⟨_, _, rfl, h⟩ [(0, some 0), (32, some 0)] [] hρ
  ·rintro S ⟨_, _, _, h⟩; rw [i_normed_l1] at h; cases h
  ·rintro n1 S ⟨v7, v8, rfl, h⟩; rw [i_normed_l1] at h; refine AW_seq ?_; refine AN hN ?_; refine AB h (fun hc9 h => ?_) fun hc9 h => ?_
   ·refine AW_skip (AK ?_); refine AW_seq ?_; refine AW_block ?_; refine AR hN fun K hK => ?_; obtain ⟨x9, h9, h⟩ := bO_inv h; simp only [EV, seval]; refine rC_l (i_InnerProduct_ok h9) (by simp only [AL, EV, seval]) (by simp only [AL, EF, and_self]) (le_d rfl) (no_j rfl) ?_; simp only [EV, seval]; refine hK _ _ _ ?_; clear hK K; refine AW_seq ?_; refine AN hN ?_; refine AB h (fun hc10 h => ?_) fun hc10 h => ?_
    ·refine AN hN ?_; injection h with h; subst h; exact AX (b' := 64) [(2, .own 32 0), (3, .bool false)] [(0, .gone), (32, .row 77 5 (encL EIIIII ([])))] [(0, some 0), (32, none)] [] hρ (EQ [0, 32])
    ·refine AW_skip (AK ?_); refine AW_seq ?_; obtain ⟨x10, h10, h⟩ := bO_inv h; refine AP hN (i_OneDOmega_ok h10) ?_; refine AB h (fun hc11 h => ?_) fun hc11 h => ?_
     ·refine AN hN ?_; injection h with h; subst h; exact AX (b' := 64) [(2, .own 32 v8.length), (3, .bool true)] [(0, .gone), (32, .row 77 5 (encL EIIIII v8))] [(0, some 0), (32, some 32)] [] hρ (EQ [0, 32])
     ·refine AW_skip (AK ?_); refine AR hN fun K hK => ?_; obtain ⟨x11, h11, h⟩ := bO_inv h; simp only [EV, seval]; refine CP (i_root_ok h11) ?_; obtain ⟨x12, h12, h⟩ := bO_inv h; simp only [EV, seval]; refine rC_l (i_ScaleState_ok h12) (by simp only [AL, EV, seval]) (by simp only [AL, EF, and_self]) (le_d rfl) (site_1 (by simp only [EV, seval])) ?_; simp only [EV, seval]; refine hK _ _ _ ?_; clear hK K; refine AW_seq ?_; refine AN hN ?_; refine AB h (fun hc12 h => ?_) fun hc12 h => ?_
      ·refine AN hN ?_; injection h with h; subst h; exact AX (b' := 64) [(2, .own 32 0), (3, .bool false)] [(0, .gone), (32, .row 77 5 (encL EIIIII ([])))] [(0, some 0), (32, none)] [] hρ (EQ [0, 32])
      ·refine AW_skip (AK ?_); refine AS hN fun K hK => ?_; simp only [EV, seval]; refine hK _ _ _ (show AW _ _ _ _ _ from ?_); refine AS hN fun K hK => ?_; simp only [EV, seval]; exact hK _ _ _ (AC ⟨_, _, rfl, h⟩ [(0, some 0), (32, some 4208)] [] hρ)
   ·exact AW_exit (AC ⟨rfl, h⟩ [(0, some 0)] [] hρ)
 ·rintro S ⟨rfl, h⟩; unfold i_normed_j1 at h; refine AN hN ?_; injection h with h; subst h; exact AX (b' := 64) [(2, .own 32 0), (3, .bool false)] [(0, .gone), (32, .row 77 5 (encL EIIIII ([])))] [(0, some 0), (32, none)] [] hρ (EQ [0, 32])
/- impl.StabilizerState -/
def i_StabilizerState_j1 : Option (LF × Bool) :=
  some ([], false)
def i_StabilizerState_l1 (a1 : Int) (a2 : LQ) : Nat → Int → Option (LF × Bool)
  | 0, _ => none
  | n1 + 1, v2 =>
  gd (decide (¬ a1 < 0)) (br (decide (v2 < (IntKind.wrap .i64 (1 * 2 ^ min (Int.toNat a1) (IntKind.bits .i64))))) (bO (i_projected a1 a2 v2) fun x8 => br (!x8.2) (some ([], false)) (bO (i_isZero 0 ([x8.1])) fun x9 => br (!x9) (bO (i_normed x8.1) fun x10 => some (x10.1, x10.2)) ((i_StabilizerState_l1 a1 a2 n1) (IntKind.wrap .i64 (v2 + 1))))) (i_StabilizerState_j1))
def i_StabilizerState (a1 : Int) (a2 : LQ) : Option (LF × Bool) :=
  bO (i_IsValidTableau a1 a2) fun x1 => br (!x1) (some ([], false)) (i_StabilizerState_l1 a1 a2 FU 0)
theorem i_StabilizerState_ok {a1 : Int} {a2 : LQ} {r : LF × Bool} (h : i_StabilizerState a1 a2 = some r) :
    Spec Try.prog 36 [.agg [.int .i64 a1, .sl (encL EIIII a2) a2.length]] [] (.tup [.own 0 r.1.length, .bool r.2]) [.row 77 5 (encL EIIIII r.1)] := by
 unfold i_StabilizerState at h; refine SO Try.func36 rfl Try.ntmps36 fun C hN hρ => ?_; simp only [st0, tmps0, Nat.zero_add, Nat.reduceAdd]; refine AN hN ?_; refine AW_seq ?_; obtain ⟨x1, h1, h⟩ := bO_inv h; refine AP hN (i_IsValidTableau_ok h1) ?_; refine AB h (fun hc1 h => ?_) fun hc1 h => ?_
 ·refine AN hN ?_; injection h with h; subst h; exact AX (b' := 64) [(2, .own 32 0), (3, .bool false)] [(32, .row 77 5 (encL EIIIII ([])))] [(32, none)] [] hρ (EQ [32])
 ·refine AW_skip (AK ?_); refine AW_cutK (fun S => S = ⟨mkT [], mkR [], 64⟩ ∧ i_StabilizerState_j1 = some r) ?_ ?_
  ·refine AN hN ?_; refine AW_block ?_; refine AW_loopF (fun n S => ∃ (v2 : Int), S = ⟨mkT [(1, .ptr 32 0), (4, .int .i64 v2)], mkR [(32, .box 45 [.int .i64 a1, .sl (encL EIIII a2) a2.length])], 64⟩ ∧ i_StabilizerState_l1 a1 a2 n v2 = some r) FU ?_ ?_ ?_
   ·exact AC ⟨_, rfl, h⟩ [(32, some 64)] [] hρ
   ·rintro S ⟨_, _, h⟩; rw [i_StabilizerState_l1] at h; cases h
   ·rintro n1 S ⟨v2, rfl, h⟩; rw [i_StabilizerState_l1] at h; refine AW_seq ?_; refine AR hN fun K hK => ?_; obtain ⟨h10, h⟩ := gd_inv h; replace h10 := of_decide_eq_true h10; simp only [EV, seval, h10]; refine hK _ _ _ ?_; clear hK K; refine AW_condK (a := .bool (decide (v2 < (IntKind.wrap .i64 (1 * 2 ^ min (Int.toNat a1) (IntKind.bits .i64)))))) (by simp only [EV, seval, h10]) (brK h (fun hc8 h => ?_) (fun hc8 h => ?_))
    ·refine AW_skip (AK ?_); refine AW_seq ?_; refine AW_block ?_; refine AR hN fun K hK => ?_; obtain ⟨x8, h11, h⟩ := bO_inv h; simp only [EV, seval]; refine rC_p (i_projected_ok h11) (by simp only [AL, EV, seval]) (le_d rfl) (site_1 (by simp only [EV, seval])) ?_; simp only [EV, seval]; refine hK _ _ _ ?_; clear hK K; refine AW_seq ?_; refine AN hN ?_; refine AB h (fun hc9 h => ?_) fun hc9 h => ?_
     ·refine AN hN ?_; injection h with h; subst h; exact AX (b' := 64) [(2, .own 32 0), (3, .bool false)] [(32, .row 77 5 (encL EIIIII ([])))] [(32, none)] [] hρ (EQ [32])
     ·refine AW_skip (AK ?_); refine AR hN fun K hK => ?_; obtain ⟨x9, h12, h⟩ := bO_inv h; simp only [EV, seval]; refine rR_n (i_isZero_ok h12) (by simp only [AL, EV, seval]) (by simp only [AL, EF, and_self]) (no_j rfl) ?_; simp only [EV, seval]; refine hK _ _ _ ?_; clear hK K; refine AB h (fun hc10 h => ?_) fun hc10 h => ?_
      ·refine AR hN fun K hK => ?_; obtain ⟨x10, h13, h⟩ := bO_inv h; simp only [EV, seval]; refine rR_p [1120] (i_normed_ok h13) (by simp only [AL, EV, seval]) (by simp only [AL, EV, seval]) (by kernel_rfl) (by simp only [EV, solidO, List.mem_cons, List.not_mem_nil, or_false, forall_eq_or_imp, forall_eq, seval]) (le_d rfl) (le_d rfl) (site_1 (by simp only [EV, seval])) ?_; simp only [EV, seval]; refine hK _ _ _ ?_; clear hK K; refine AN hN ?_; injection h with h; subst h; exact AX (b' := 64) [(2, .own 32 x10.1.length), (3, .bool x10.2)] [(32, .row 77 5 (encL EIIIII x10.1))] [(32, some 4176)] [] hρ (EQ [32])
      ·refine AW_skip (AK ?_); refine AS hN fun K hK => ?_; simp only [EV, seval]; exact hK _ _ _ (AC ⟨_, rfl, h⟩ [(32, some 32)] [] hρ)
    ·refine AW_exit (show cutK _ _ _ from cutL ⟨rfl, h⟩ (Le_can [] [] hρ (by kernel_rfl) ?_ ?_))
     ·simp only [AL, EV, seval, h10]
     ·simp only [AL, EV, seval, h10]
  ·rintro S ⟨rfl, h⟩; unfold i_StabilizerState_j1 at h; refine AN hN ?_; injection h with h; subst h; exact AX (b' := 64) [(2, .own 32 0), (3, .bool false)] [(32, .row 77 5 (encL EIIIII ([])))] [(32, none)] [] hρ (EQ [32])
/- spec.l27From -/
def s_l27From_j1 (v5 : LF) : Option (LF × Bool) :=
  some (v5, true)
def s_l27From_l1 (a1 : Int) (a2 : LQ) : Nat → Int → (LF) → Option (LF × Bool)
  | 0, _, _ => none
  | n1 + 1, v3, v4 =>
  br (decide (v3 < a1)) (bO (geti a2 (IntKind.wrap .i64 (a1 + v3))) fun q3 => bO (s_ProjectState q3.1 q3.2.1 q3.2.2.1 q3.2.2.2 v4) fun x4 => br (!x4.2) (some ([], false)) ((s_l27From_l1 a1 a2 n1) (IntKind.wrap .i64 (v3 + 1)) x4.1)) (s_l27From_j1 v4)
def s_l27From (a1 : Int) (a2 : LQ) (a3 : Int) : Option (LF × Bool) :=
  bO (s_BasisState a1 a3) fun x1 => s_l27From_l1 a1 a2 FU 0 x1
theorem s_l27From_ok {a1 : Int} {a2 : LQ} {a3 : Int} {r : LF × Bool} (h : s_l27From a1 a2 a3 = some r) :
    Spec Try.prog 74 [.agg [.int .i64 a1, .sl (encL EIIII a2) a2.length], .int .i64 a3] [] (.tup [.own 0 r.1.length, .bool r.2]) [.row 77 5 (encL EIIIII r.1)] := by
 unfold s_l27From at h; refine SO Try.func74 rfl Try.ntmps74 fun C hN hρ => ?_; simp only [st0, tmps0, Nat.zero_add, Nat.reduceAdd]; refine AN hN ?_; refine AR hN fun K hK => ?_; obtain ⟨x1, h1, h⟩ := bO_inv h; simp only [EV, seval]; refine rC_p (s_BasisState_ok h1) (by simp only [AL, EV, seval]) (le_d rfl) (site_1 (by simp only [EV, seval])) ?_; simp only [EV, seval]; refine hK _ _ _ ?_; clear hK K; refine AW_cutK (fun S => ∃ (v5 : LF), S = ⟨mkT [(6, .own 32 v5.length)], mkR [(32, .row 77 5 (encL EIIIII v5))], 64⟩ ∧ s_l27From_j1 v5 = some r) ?_ ?_
 ·refine AN hN ?_; refine AW_block ?_; refine AW_loopF (fun n S => ∃ (v3 : Int) (v4 : LF), S = ⟨mkT [(2, .ptr 32 0), (6, .own 33 v4.length), (7, .int .i64 v3)], mkR [(32, .box 45 [.int .i64 a1, .sl (encL EIIII a2) a2.length]), (33, .row 77 5 (encL EIIIII v4))], 64⟩ ∧ s_l27From_l1 a1 a2 n v3 v4 = some r) FU ?_ ?_ ?_
  ·exact AC ⟨_, _, rfl, h⟩ [(32, some 64), (33, some 1136)] [] hρ
  ·rintro S ⟨_, _, _, h⟩; rw [s_l27From_l1] at h; cases h
  ·rintro n1 S ⟨v3, v4, rfl, h⟩; rw [s_l27From_l1] at h; refine AW_seq ?_; refine AN hN ?_; refine AB h (fun hc5 h => ?_) fun hc5 h => ?_
   ·refine AW_skip (AK ?_); refine AW_seq ?_; refine AW_block ?_; refine AR hN fun K hK => ?_; obtain ⟨q3, h8, h⟩ := bO_inv h; obtain ⟨⟨h9a, h9b⟩, h9c⟩ := geti_E EIIIIl h8; (try simp only [EV, seval] at h9c); obtain ⟨x4, h10, h⟩ := bO_inv h; simp only [EV, seval, h9a, h9b, h9c]; refine rC_l (s_ProjectState_ok h10) (by simp only [AL, EV, seval, h9a, h9b, h9c]) (by simp only [AL, EF, and_self]) (le_d rfl) (site_1 (by simp only [EV, seval])) ?_; simp only [EV, seval, h9a, h9b, h9c]; refine hK _ _ _ ?_; clear hK K; refine AW_seq ?_; refine AN hN ?_; refine AB h (fun hc6 h => ?_) fun hc6 h => ?_
    ·refine AN hN ?_; injection h with h; subst h; exact AX (b' := 64) [(4, .own 32 0), (5, .bool false)] [(32, .row 77 5 (encL EIIIII ([])))] [(32, some 3136)] [] hρ (EQ [32])
    ·refine AW_skip (AK ?_); refine AS hN fun K hK => ?_; simp only [EV, seval]; refine hK _ _ _ (show AW _ _ _ _ _ from ?_); refine AS hN fun K hK => ?_; simp only [EV, seval]; exact hK _ _ _ (AC ⟨_, _, rfl, h⟩ [(32, some 32), (33, some 1232)] [] hρ)
   ·exact AW_exit (AC ⟨_, rfl, h⟩ [(32, some 33)] [] hρ)
 ·rintro S ⟨v5, rfl, h⟩; unfold s_l27From_j1 at h; refine AN hN ?_; injection h with h; subst h; exact AX (b' := 64) [(4, .own 32 v5.length), (5, .bool true)] [(32, .row 77 5 (encL EIIIII v5))] [(32, some 32)] [] hρ (EQ [32])
/- spec.l27None -/
def s_l27None_j1 : Option Bool :=
  some true
def s_l27None_l1 (a1 : LF) : Nat → Int → Option Bool
  | 0, _ => none
  | n1 + 1, v2 =>
  br (decide (v2 < ((a1.length : Int)))) (bO (geti a1 v2) fun q3 => br (!((q3.1 == 0) && ((q3.2.1 == 0) && ((q3.2.2.1 == 0) && ((q3.2.2.2.1 == 0) && (q3.2.2.2.2 == 0)))))) (some false) ((s_l27None_l1 a1 n1) (IntKind.wrap .i64 (v2 + 1)))) (s_l27None_j1)
def s_l27None (a1 : LF) : Option Bool :=
  s_l27None_l1 a1 FU 0
theorem s_l27None_ok {a1 : LF} {r : Bool} (h : s_l27None a1 = some r) :
    Spec Try.prog 75 [.sl (encL EIIIII a1) a1.length] [] (.bool r) [] := by
 unfold s_l27None at h; refine SO Try.func75 rfl Try.ntmps75 fun C hN hρ => ?_; simp only [st0, tmps0, Nat.zero_add, Nat.reduceAdd]; refine AN hN ?_; refine AW_cutK (fun S => S = ⟨mkT [], mkR [], 64⟩ ∧ s_l27None_j1 = some r) ?_ ?_
 ·refine AN hN ?_; refine AW_block ?_; refine AW_loopF (fun n S => ∃ (v2 : Int), S = ⟨mkT [(0, .sl (encL EIIIII a1) a1.length), (3, .int .i64 v2)], mkR [], 64⟩ ∧ s_l27None_l1 a1 n v2 = some r) FU ?_ ?_ ?_
  ·exact AC ⟨_, rfl, h⟩ [] [] hρ
  ·rintro S ⟨_, _, h⟩; rw [s_l27None_l1] at h; cases h
  ·rintro n1 S ⟨v2, rfl, h⟩; rw [s_l27None_l1] at h; refine AW_seq ?_; refine AN hN ?_; refine AB h (fun hc5 h => ?_) fun hc5 h => ?_
   ·refine AW_skip (AK ?_); refine AW_seq ?_; refine AW_block ?_; refine AR hN fun K hK => ?_; obtain ⟨q3, h5, h⟩ := bO_inv h; obtain ⟨⟨h6a, h6b⟩, h6c⟩ := geti_E EIIIIIl h5; (try simp only [EV, seval] at h6c); simp only [EV, seval, h6a, h6b, h6c]; refine hK _ _ _ ?_; clear hK K; refine AW_condK (a := .bool (!((q3.1 == 0) && ((q3.2.1 == 0) && ((q3.2.2.1 == 0) && ((q3.2.2.2.1 == 0) && (q3.2.2.2.2 == 0))))))) (by simp only [EV, seval, h6a, h6b, h6c]) (brK h (fun hc6 h => ?_) (fun hc6 h => ?_))
    ·refine AN hN ?_; injection h with h; subst h; exact AX (b' := 64) [(2, .bool false)] [] [] [] hρ (EQ [])
    ·refine AW_skip (AK ?_); refine AS hN fun K hK => ?_; simp only [EV, seval]; exact hK _ _ _ (AC ⟨_, rfl, h⟩ [] [] hρ)
   ·exact AW_exit (AC ⟨rfl, h⟩ [] [] hρ)
 ·rintro S ⟨rfl, h⟩; unfold s_l27None_j1 at h; refine AN hN ?_; injection h with h; subst h; exact AX (b' := 64) [(2, .bool true)] [] [] [] hρ (EQ [])
/- spec.ConjZOmega -/
def s_ConjZOmega (a1 a2 a3 a4 : Int) : Option (Int × Int × Int × Int) :=
  bO (s_IsValidZOmega a1 a2 a3 a4) fun x1 => br (!x1) (some (0, 0, 0, 0)) (some (a1, IntKind.wrap .i64 (0 - a4), IntKind.wrap .i64 (0 - a3), IntKind.wrap .i64 (0 - a2)))
theorem s_ConjZOmega_ok {a1 a2 a3 a4 : Int} {r : Int × Int × Int × Int} (h : s_ConjZOmega a1 a2 a3 a4 = some r) :
    Spec Try.prog 190 [.agg [.int .i64 a1, .int .i64 a2, .int .i64 a3, .int .i64 a4]] [] (.agg [.int .i64 r.1, .int .i64 r.2.1, .int .i64 r.2.2.1, .int .i64 r.2.2.2]) [] := by
 unfold s_ConjZOmega at h; refine SO Try.func190 rfl Try.ntmps190 fun C hN hρ => ?_; simp only [st0, tmps0, Nat.zero_add, Nat.reduceAdd]; refine AN hN ?_; refine AW_seq ?_; obtain ⟨x1, h1, h⟩ := bO_inv h; refine AP hN (s_IsValidZOmega_ok h1) ?_; refine AB h (fun hc1 h => ?_) fun hc1 h => ?_
 ·refine AN hN ?_; injection h with h; subst h; exact AX (b' := 64) [(2, .ptr 32 0)] [(32, .box 75 [.int .i64 0, .int .i64 0, .int .i64 0, .int .i64 0])] [(32, some 80)] [] hρ (EQ [])
 ·refine AW_skip (AK ?_); refine AN hN ?_; injection h with h; subst h; exact AX (b' := 64) [(2, .ptr 32 0)] [(32, .box 75 [.int .i64 a1, .int .i64 (IntKind.wrap .i64 (0 - a4)), .int .i64 (IntKind.wrap .i64 (0 - a3)), .int .i64 (IntKind.wrap .i64 (0 - a2))])] [(32, some 80)] [] hρ (EQ [])
/- spec.ConjDOmega -/
def s_ConjDOmega (a1 a2 a3 a4 a5 : Int) : Option (Int × Int × Int × Int × Int) :=
  bO (s_IsValidDOmega a1 a2 a3 a4 a5) fun x1 => br (!x1) (some (0, 0, 0, 0, 0)) (bO (s_ConjZOmega a1 a2 a3 a4) fun x2 => some (x2.1, x2.2.1, x2.2.2.1, x2.2.2.2, a5))
theorem s_ConjDOmega_ok {a1 a2 a3 a4 a5 : Int} {r : Int × Int × Int × Int × Int} (h : s_ConjDOmega a1 a2 a3 a4 a5 = some r) :
    Spec Try.prog 159 [.agg [.int .i64 a1, .int .i64 a2, .int .i64 a3, .int .i64 a4, .int .i64 a5]] [] (.agg [.int .i64 r.1, .int .i64 r.2.1, .int .i64 r.2.2.1, .int .i64 r.2.2.2.1, .int .i64 r.2.2.2.2]) [] := by
 unfold s_ConjDOmega at h; refine SO Try.func159 rfl Try.ntmps159 fun C hN hρ => ?_; simp only [st0, tmps0, Nat.zero_add, Nat.reduceAdd]; refine AN hN ?_; refine AW_seq ?_; obtain ⟨x1, h1, h⟩ := bO_inv h; refine AP hN (s_IsValidDOmega_ok h1) ?_; refine AB h (fun hc1 h => ?_) fun hc1 h => ?_
 ·refine AN hN ?_; injection h with h; subst h; exact AX (b' := 64) [(2, .ptr 32 0)] [(32, .box 77 [.int .i64 0, .int .i64 0, .int .i64 0, .int .i64 0, .int .i64 0])] [(32, some 80)] [] hρ (EQ [])
 ·refine AW_skip (AK ?_); obtain ⟨x2, h2, h⟩ := bO_inv h; refine AP hN (s_ConjZOmega_ok h2) ?_; injection h with h; subst h; exact AX (b' := 64) [(2, .ptr 32 0)] [(32, .box 77 [.int .i64 x2.1, .int .i64 x2.2.1, .int .i64 x2.2.2.1, .int .i64 x2.2.2.2, .int .i64 a5])] [(32, some 80)] [] hρ (EQ [])
/- spec.InnerProduct -/
def s_InnerProduct_j5 (v10 : Int) (kl1 : Int → Int → Int → Int → Int → Int → Option (Int × Int × Int × Int × Int × Bool)) (x18 : Int × Int × Int × Int × Int × Bool) (v16 : Bool) : Option (Int × Int × Int × Int × Int × Bool) :=
  br v16 (some (0, 0, 0, 0, 0, false)) (kl1 (IntKind.wrap .i64 (v10 + 1)) x18.1 x18.2.1 x18.2.2.1 x18.2.2.2.1 x18.2.2.2.2.1)
def s_InnerProduct_j2 (v17 v18 v19 v20 v21 : Int) : Option (Int × Int × Int × Int × Int × Bool) :=
  some (v17, v18, v19, v20, v21, true)
def s_InnerProduct_l1 (a1 : LF) (a2 : LF) : Nat → Int → Int → Int → Int → Int → Int → Option (Int × Int × Int × Int × Int × Bool)
  | 0, _, _, _, _, _, _ => none
  | n1 + 1, v10, v11, v12, v13, v14, v15 =>
  br (decide (v10 < ((a2.length : Int)))) (bO (geti a1 v10) fun q5 => bO (s_ConjDOmega q5.1 q5.2.1 q5.2.2.1 q5.2.2.2.1 q5.2.2.2.2) fun x16 => bO (geti a2 v10) fun q6 => bO (s_MulDOmega x16.1 x16.2.1 x16.2.2.1 x16.2.2.2.1 x16.2.2.2.2 q6.1 q6.2.1 q6.2.2.1 q6.2.2.2.1 q6.2.2.2.2) fun x17 => bO (s_AddDOmega v11 v12 v13 v14 v15 x17.1 x17.2.1 x17.2.2.1 x17.2.2.2.1 x17.2.2.2.2.1) fun x18 => bO (br (!x17.2.2.2.2.2) (some true) (some (!x18.2.2.2.2.2))) fun x19 => s_InnerProduct_j5 v10 (s_InnerProduct_l1 a1 a2 n1) x18 x19) (s_InnerProduct_j2 v11 v12 v13 v14 v15)
def s_InnerProduct_j1 (a1 : LF) (a2 : LF) (v1 : Bool) : Option (Int × Int × Int × Int × Int × Bool) :=
  br v1 (some (0, 0, 0, 0, 0, false)) (s_InnerProduct_l1 a1 a2 FU 0 0 0 0 0 0)
def s_InnerProduct (a1 : LF) (a2 : LF) : Option (Int × Int × Int × Int × Int × Bool) :=
  bO (s_IsValidState a1) fun x1 => bO (br (!x1) (some true) (bO (s_IsValidState a2) fun x2 => some (!x2))) fun x3 => bO (br x3 (some true) (some (((a1.length : Int)) != ((a2.length : Int))))) fun x4 => s_InnerProduct_j1 a1 a2 x4
theorem s_InnerProduct_ok {a1 : LF} {a2 : LF} {r : Int × Int × Int × Int × Int × Bool} (h : s_InnerProduct a1 a2 = some r) :
    Spec Try.prog 118 [.sl (encL EIIIII a1) a1.length, .sl (encL EIIIII a2) a2.length] [] (.tup [.agg [.int .i64 r.1, .int .i64 r.2.1, .int .i64 r.2.2.1, .int .i64 r.2.2.2.1, .int .i64 r.2.2.2.2.1], .bool r.2.2.2.2.2]) [] := by
 unfold s_InnerProduct at h; refine SO Try.func118 rfl Try.ntmps118 fun C hN hρ => ?_; simp only [st0, tmps0, Nat.zero_add, Nat.reduceAdd]; refine AN hN ?_; refine AW_seq ?_; refine AJ (fun S => ∃ (v1 : Bool), S = ⟨mkT [(0, .sl (encL EIIIII a1) a1.length), (1, .sl (encL EIIIII a2) a2.length), (4, .ptr 32 0), (26, .bool v1)], mkR [(32, .box 77 [.int .i64 0, .int .i64 0, .int .i64 0, .int .i64 0, .int .i64 0])], 64⟩ ∧ s_InnerProduct_j1 a1 a2 v1 = some r) hN ?_ ?_
 ·intro K hK; obtain ⟨x1, h1, h⟩ := bO_inv h; simp only [EV, seval]; refine CP (s_IsValidState_ok h1) ?_; obtain ⟨x3, hv1, h⟩ := bO_inv h; rcases br_inv hv1 with ⟨hc1, hv1⟩ | ⟨hc1, hv1⟩
  ·cases hv1; obtain ⟨x5, hv3, h⟩ := bO_inv h; replace hv3 := br_t hv3; cases hv3; (try dsimp only at h); simp only [EV, seval, hc1]; refine hK _ _ _ (show cutK _ _ _ from cutL ⟨_, rfl, h⟩ (Le_can [(32, some 64)] [] hρ (by kernel_rfl) ?_ ?_))
   ·simp only [AL, EV, seval, hc1]
   ·simp only [AL, EV, seval, hc1]
  ·obtain ⟨x6, h3, hv1⟩ := bO_inv hv1; simp only [EV, seval, hc1]; refine rC_p (s_IsValidState_ok h3) (by simp only [AL, EV, seval, hc1]) (le_d rfl) (no_j rfl) ?_; cases hv1; obtain ⟨x7, hv4, h⟩ := bO_inv h; rcases br_inv hv4 with ⟨hc3, hv4⟩ | ⟨hc3, hv4⟩
   ·cases hv4; simp only [EV, seval, hc1, hc3]; refine hK _ _ _ (show cutK _ _ _ from cutL ⟨_, rfl, h⟩ (Le_can [(32, some 64)] [] hρ (by kernel_rfl) ?_ ?_))
    ·simp only [AL, EV, seval, hc1, hc3]
    ·simp only [AL, EV, seval, hc1, hc3]
   ·cases hv4; simp only [EV, seval, hc1, hc3]; refine hK _ _ _ (show cutK _ _ _ from cutL ⟨_, rfl, h⟩ (Le_can [(32, some 64)] [] hρ (by kernel_rfl) ?_ ?_))
    ·simp only [AL, EV, seval, hc1, hc3]
    ·simp only [AL, EV, seval, hc1, hc3]
 ·rintro S ⟨v1, rfl, h⟩; unfold s_InnerProduct_j1 at h; refine AB h (fun hc4 h => ?_) fun hc4 h => ?_
  ·refine AN hN ?_; injection h with h; subst h; exact AX (b' := 64) [(4, .ptr 32 0), (5, .bool false)] [(32, .box 77 [.int .i64 0, .int .i64 0, .int .i64 0, .int .i64 0, .int .i64 0])] [(32, some 32)] [] hρ (EQ [])
  ·refine AW_skip (AK ?_); refine AN hN ?_; refine AW_cutK (fun S => ∃ (v17 v18 v19 v20 v21 : Int), S = ⟨mkT [(4, .ptr 32 0), (6, .ptr 33 0)], mkR [(32, .box 77 [.int .i64 0, .int .i64 0, .int .i64 0, .int .i64 0, .int .i64 0]), (33, .box 77 [.int .i64 v17, .int .i64 v18, .int .i64 v19, .int .i64 v20, .int .i64 v21])], 64⟩ ∧ s_InnerProduct_j2 v17 v18 v19 v20 v21 = some r) ?_ ?_
   ·refine AN hN ?_; refine AW_block ?_; refine AW_loopF (fun n S => ∃ (v10 v11 v12 v13 v14 v15 : Int), S = ⟨mkT [(0, .sl (encL EIIIII a1) a1.length), (1, .sl (encL EIIIII a2) a2.length), (4, .ptr 32 0), (6, .ptr 33 0), (7, .int .i64 v10)], mkR [(32, .box 77 [.int .i64 0, .int .i64 0, .int .i64 0, .int .i64 0, .int .i64 0]), (33, .box 77 [.int .i64 v11, .int .i64 v12, .int .i64 v13, .int .i64 v14, .int .i64 v15])], 64⟩ ∧ s_InnerProduct_l1 a1 a2 n v10 v11 v12 v13 v14 v15 = some r) FU ?_ ?_ ?_
    ·exact AC ⟨_, _, _, _, _, _, rfl, h⟩ [(32, some 32), (33, some 80)] [] hρ
    ·rintro S ⟨_, _, _, _, _, _, _, h⟩; rw [s_InnerProduct_l1] at h; cases h
    ·rintro n1 S ⟨v10, v11, v12, v13, v14, v15, rfl, h⟩; rw [s_InnerProduct_l1] at h; refine AW_seq ?_; refine AN hN ?_; refine AB h (fun hc11 h => ?_) fun hc11 h => ?_
     ·refine AW_skip (AK ?_); refine AW_seq ?_; refine AW_block ?_; refine AR hN fun K hK => ?_; obtain ⟨q5, h18, h⟩ := bO_inv h; obtain ⟨⟨h19a, h19b⟩, h19c⟩ := geti_E EIIIIIl h18; (try simp only [EV, seval] at h19c); obtain ⟨x16, h20, h⟩ := bO_inv h; simp only [EV, seval, h19a, h19b, h19c]; refine rC_p (s_ConjDOmega_ok h20) (by simp only [AL, EV, seval, h19a, h19b, h19c]) (le_d rfl) (no_j rfl) ?_; obtain ⟨q6, h21, h⟩ := bO_inv h; obtain ⟨⟨h22a, h22b⟩, h22c⟩ := geti_E EIIIIIl h21; (try simp only [EV, seval] at h22c); obtain ⟨x17, h23, h⟩ := bO_inv h; simp only [EV, seval, h19a, h19b, h19c, h22a, h22b, h22c]; refine rC_p (s_MulDOmega_ok h23) (by simp only [AL, EV, seval, h19a, h19b, h19c, h22a, h22b, h22c]) (le_d rfl) (no_j rfl) ?_; simp only [EV, seval, h19a, h19b, h19c, h22a, h22b, h22c]; refine hK _ _ _ ?_; clear hK K; obtain ⟨x18, h24, h⟩ := bO_inv h; refine AP hN (s_AddDOmega_ok h24) ?_; refine AW_seq ?_; refine AJ (fun S => ∃ (v16 : Bool), S = ⟨mkT [(0, .sl (encL EIIIII a1) a1.length), (1, .sl (encL EIIIII a2) a2.length), (4, .ptr 32 0), (6, .ptr 33 0), (7, .int .i64 v10), (10, .ptr 34 0), (59, .bool v16)], mkR [(32, .box 77 [.int .i64 0, .int .i64 0, .int .i64 0, .int .i64 0, .int .i64 0]), (33, .box 77 [.int .i64 v11, .int .i64 v12, .int .i64 v13, .int .i64 v14, .int .i64 v15]), (34, .box 77 [.int .i64 x18.1, .int .i64 x18.2.1, .int .i64 x18.2.2.1, .int .i64 x18.2.2.2.1, .int .i64 x18.2.2.2.2.1])], 64⟩ ∧ s_InnerProduct_j5 v10 (s_InnerProduct_l1 a1 a2 n1) x18 v16 = some r) hN ?_ ?_
      ·intro K hK; obtain ⟨x19, hv7, h⟩ := bO_inv h; rcases br_inv hv7 with ⟨hc12, hv7⟩ | ⟨hc12, hv7⟩
       ·cases hv7; simp only [EV, seval, hc12]; refine hK _ _ _ (show cutK _ _ _ from cutL ⟨_, rfl, h⟩ (Le_can [(32, some 32), (33, some 33), (34, some 2208)] [] hρ (by kernel_rfl) ?_ ?_))
        ·simp only [AL, EV, seval, hc12]
        ·simp only [AL, EV, seval, hc12]
       ·cases hv7; simp only [EV, seval, hc12]; refine hK _ _ _ (show cutK _ _ _ from cutL ⟨_, rfl, h⟩ (Le_can [(32, some 32), (33, some 33), (34, some 2208)] [] hρ (by kernel_rfl) ?_ ?_))
        ·simp only [AL, EV, seval, hc12]
        ·simp only [AL, EV, seval, hc12]
      ·rintro S ⟨v16, rfl, h⟩; unfold s_InnerProduct_j5 at h; refine AB h (fun hc13 h => ?_) fun hc13 h => ?_
       ·refine AN hN ?_; injection h with h; subst h; exact AX (b' := 64) [(4, .ptr 32 0), (5, .bool false)] [(32, .box 77 [.int .i64 0, .int .i64 0, .int .i64 0, .int .i64 0, .int .i64 0])] [(32, some 32)] [] hρ (EQ [])
       ·refine AW_skip (AK ?_); refine AS hN fun K hK => ?_; simp only [EV, seval]; refine hK _ _ _ (show AW _ _ _ _ _ from ?_); refine AS hN fun K hK => ?_; simp only [EV, seval]; exact hK _ _ _ (AC ⟨_, _, _, _, _, _, rfl, h⟩ [(32, some 32), (33, some 33)] [] hρ)
     ·exact AW_exit (AC ⟨_, _, _, _, _, rfl, h⟩ [(32, some 32), (33, some 33)] [] hρ)
   ·rintro S ⟨v17, v18, v19, v20, v21, rfl, h⟩; unfold s_InnerProduct_j2 at h; refine AN hN ?_; injection h with h; subst h; exact AX (b' := 64) [(4, .ptr 32 0), (5, .bool true)] [(32, .box 77 [.int .i64 v17, .int .i64 v18, .int .i64 v19, .int .i64 v20, .int .i64 v21])] [(32, some 32)] [] hρ (EQ [])
/- spec.l27Whole -/
def s_l27Whole_j4 (x3 : Int × Int × Int × Int × Int × Bool) (v5 : LF) (v6 : Int) (kl1 : (LF) → Int → Option (LF × Bool)) (v7 : Bool) : Option (LF × Bool) :=
  br v7 (some (v5, true)) (bO (s_ScaleState v5 x3.1 x3.2.1 x3.2.2.1 x3.2.2.2.1 x3.2.2.2.2.1) fun x16 => br (!x16.2) (some ([], false)) (kl1 x16.1 (IntKind.wrap .i64 (v6 + 1))))
def s_l27Whole_j1 : Option (LF × Bool) :=
  some ([], false)
def s_l27Whole_l1 (x3 : Int × Int × Int × Int × Int × Bool) : Nat → (LF) → Int → Option (LF × Bool)
  | 0, _, _ => none
  | n1 + 1, v5, v6 =>
  br (decide (v6 ≤ 4)) (bO (s_InnerProduct v5 v5) fun x12 => bO (br x12.2.2.2.2.2 (bO (s_OneDOmega) fun x13 => some (((x12.1 == x13.1) && ((x12.2.1 == x13.2.1) && ((x12.2.2.1 == x13.2.2.1) && ((x12.2.2.2.1 == x13.2.2.2.1) && (x12.2.2.2.2.1 == x13.2.2.2.2))))))) (some false)) fun x14 => s_l27Whole_j4 x3 v5 v6 (s_l27Whole_l1 x3 n1) x14) (s_l27Whole_j1)
def s_l27Whole (a1 : LF) : Option (LF × Bool) :=
  bO (s_InvSqrt2Power 1) fun x1 => bO (s_InvSqrt2Power 1) fun x2 => bO (s_AddDOmega x1.1 x1.2.1 x1.2.2.1 x1.2.2.2.1 x1.2.2.2.2 x2.1 x2.2.1 x2.2.2.1 x2.2.2.2.1 x2.2.2.2.2) fun x3 => s_l27Whole_l1 x3 FU a1 0
theorem s_l27Whole_ok {a1 : LF} {r : LF × Bool} (h : s_l27Whole a1 = some r) :
    Spec Try.prog 76 [.sl (encL EIIIII a1) a1.length] [] (.tup [.sl (encL EIIIII r.1) r.1.length, .bool r.2]) [] := by
 unfold s_l27Whole at h; refine SO Try.func76 rfl Try.ntmps76 fun C hN hρ => ?_; simp only [st0, tmps0, Nat.zero_add, Nat.reduceAdd]; refine AN hN ?_; refine AR hN fun K hK => ?_; obtain ⟨x1, h1, h⟩ := bO_inv h; simp only [EV, seval]; refine CP (s_InvSqrt2Power_ok h1) ?_; obtain ⟨x2, h2, h⟩ := bO_inv h; simp only [EV, seval]; refine CP (s_InvSqrt2Power_ok h2) ?_; obtain ⟨x3, h3, h⟩ := bO_inv h; simp only [EV, seval]; refine CP (s_AddDOmega_ok h3) ?_; simp only [EV, seval]; refine hK _ _ _ ?_; clear hK K; refine AW_cutK (fun S => S = ⟨mkT [], mkR [], 64⟩ ∧ s_l27Whole_j1 = some r) ?_ ?_
 ·refine AN hN ?_; refine AW_block ?_; refine AW_loopF (fun n S => ∃ (v5 : LF) (v6 : Int), S = ⟨mkT [(0, .sl (encL EIIIII v5) v5.length), (4, .ptr 32 0), (6, .int .i64 v6)], mkR [(32, .box 77 [.int .i64 x3.1, .int .i64 x3.2.1, .int .i64 x3.2.2.1, .int .i64 x3.2.2.2.1, .int .i64 x3.2.2.2.2.1])], 64⟩ ∧ s_l27Whole_l1 x3 n v5 v6 = some r) FU ?_ ?_ ?_
  ·exact AC ⟨_, _, rfl, h⟩ [(32, some 1184)] [] hρ
  ·rintro S ⟨_, _, _, h⟩; rw [s_l27Whole_l1] at h; cases h
  ·rintro n1 S ⟨v5, v6, rfl, h⟩; rw [s_l27Whole_l1] at h; refine AW_seq ?_; refine AN hN ?_; refine AB h (fun hc9 h => ?_) fun hc9 h => ?_
   ·refine AW_skip (AK ?_); refine AW_seq ?_; refine AW_block ?_; obtain ⟨x12, h10, h⟩ := bO_inv h; refine AP hN (s_InnerProduct_ok h10) ?_; refine AW_seq ?_; refine AJ (fun S => ∃ (v7 : Bool), S = ⟨mkT [(0, .sl (encL EIIIII v5) v5.length), (4, .ptr 32 0), (6, .int .i64 v6), (32, .bool v7)], mkR [(32, .box 77 [.int .i64 x3.1, .int .i64 x3.2.1, .int .i64 x3.2.2.1, .int .i64 x3.2.2.2.1, .int .i64 x3.2.2.2.2.1])], 64⟩ ∧ s_l27Whole_j4 x3 v5 v6 (s_l27Whole_l1 x3 n1) v7 = some r) hN ?_ ?_
    ·intro K hK; obtain ⟨x14, hv3, h⟩ := bO_inv h; rcases br_inv hv3 with ⟨hc10, hv3⟩ | ⟨hc10, hv3⟩
     ·obtain ⟨x15, h12, hv3⟩ := bO_inv hv3; simp only [EV, seval, hc10]; refine rC_p (s_OneDOmega_ok h12) (by simp only [AL, EV, seval, hc10]) (le_d rfl) (no_j rfl) ?_; cases hv3; simp only [EV, seval, hc10]; refine hK _ _ _ (show cutK _ _ _ from cutL ⟨_, rfl, h⟩ (Le_can [(32, some 32)] [] hρ (by kernel_rfl) ?_ ?_))
      ·simp only [AL, EV, seval, hc10]
      ·simp only [AL, EV, seval, hc10]
     ·cases hv3; simp only [EV, seval, hc10]; refine hK _ _ _ (show cutK _ _ _ from cutL ⟨_, rfl, h⟩ (Le_can [(32, some 32)] [] hρ (by kernel_rfl) ?_ ?_))
      ·simp only [AL, EV, seval, hc10]
      ·simp only [AL, EV, seval, hc10]
    ·rintro S ⟨v7, rfl, h⟩; unfold s_l27Whole_j4 at h; refine AB h (fun hc11 h => ?_) fun hc11 h => ?_
     ·refine AN hN ?_; injection h with h; subst h; exact AX (b' := 64) [(2, .sl (encL EIIIII v5) v5.length), (3, .bool true)] [] [] [] hρ (EQ [])
     ·refine AW_skip (AK ?_); refine AR hN fun K hK => ?_; obtain ⟨x16, h13, h⟩ := bO_inv h; simp only [EV, seval]; refine rC_p (s_ScaleState_ok h13) (by simp only [AL, EV, seval]) (le_d rfl) (site_1 (by simp only [EV, seval])) ?_; simp only [EV, seval]; refine hK _ _ _ ?_; clear hK K; refine AW_seq ?_; refine AN hN ?_; refine AB h (fun hc12 h => ?_) fun hc12 h => ?_
      ·refine AN hN ?_; injection h with h; subst h; exact AX (b' := 64) [(2, .sl (encL EIIIII ([])) 0), (3, .bool false)] [] [] [2112] hρ (EQ [])
      ·refine AW_skip (AK ?_); refine AS hN fun K hK => ?_; simp only [EV, seval]; refine hK _ _ _ (show AW _ _ _ _ _ from ?_); refine AS hN fun K hK => ?_; simp only [EV, seval]; exact hK _ _ _ (AC ⟨_, _, rfl, h⟩ [(32, some 32)] [96] hρ)
   ·exact AW_exit (AC ⟨rfl, h⟩ [] [] hρ)
 ·rintro S ⟨rfl, h⟩; unfold s_l27Whole_j1 at h; refine AN hN ?_; injection h with h; subst h; exact AX (b' := 64) [(2, .sl (encL EIIIII ([])) 0), (3, .bool false)] [] [] [64] hρ (EQ [])
/- spec.StabilizerState -/
def s_StabilizerState_j1 : Option (LF × Bool) :=
  some ([], false)
def s_StabilizerState_j4 (a1 : Int) (a2 : LQ) (v4 : Int) (kl1 : Int → Option (LF × Bool)) (v5 : Bool) : Option (LF × Bool) :=
  br v5 (bO (s_l27From a1 a2 v4) fun x13 => br (!x13.2) (some ([], false)) (bO (s_l27None x13.1) fun x14 => br (!x14) (bO (s_l27Whole x13.1) fun x15 => some (x15.1, x15.2)) (kl1 (IntKind.wrap .i64 (v4 + 1))))) (s_StabilizerState_j1)
def s_StabilizerState_l1 (a1 : Int) (a2 : LQ) : Nat → Int → Option (LF × Bool)
  | 0, _ => none
  | n1 + 1, v4 =>
  bO (s_IsValidTableau a1 a2) fun x11 => bO (br x11 (gd (decide (¬ (IntKind.wrap .u64 a1) < 0)) (some (decide (v4 < (IntKind.wrap .i64 (1 * 2 ^ min (Int.toNat (IntKind.wrap .u64 a1)) (IntKind.bits .i64))))))) (some false)) fun x12 => s_StabilizerState_j4 a1 a2 v4 (s_StabilizerState_l1 a1 a2 n1) x12
def s_StabilizerState (a1 : Int) (a2 : LQ) : Option (LF × Bool) :=
  s_StabilizerState_l1 a1 a2 FU 0
theorem s_StabilizerState_ok {a1 : Int} {a2 : LQ} {r : LF × Bool} (h : s_StabilizerState a1 a2 = some r) :
    Spec Try.prog 35 [.agg [.int .i64 a1, .sl (encL EIIII a2) a2.length]] [] (.tup [.sl (encL EIIIII r.1) r.1.length, .bool r.2]) [] := by
 unfold s_StabilizerState at h; refine SO Try.func35 rfl Try.ntmps35 fun C hN hρ => ?_; simp only [st0, tmps0, Nat.zero_add, Nat.reduceAdd]; refine AN hN ?_; refine AW_cutK (fun S => S = ⟨mkT [], mkR [], 64⟩ ∧ s_StabilizerState_j1 = some r) ?_ ?_
 ·refine AN hN ?_; refine AW_block ?_; refine AW_loopF (fun n S => ∃ (v4 : Int), S = ⟨mkT [(1, .ptr 32 0), (4, .int .i64 v4)], mkR [(32, .box 45 [.int .i64 a1, .sl (encL EIIII a2) a2.length])], 64⟩ ∧ s_StabilizerState_l1 a1 a2 n v4 = some r) FU ?_ ?_ ?_
  ·exact AC ⟨_, rfl, h⟩ [(32, some 64)] [] hρ
  ·rintro S ⟨_, _, h⟩; rw [s_StabilizerState_l1] at h; cases h
  ·rintro n1 S ⟨v4, rfl, h⟩; rw [s_StabilizerState_l1] at h; refine AW_seq ?_; refine AJ (fun S => ∃ (v5 : Bool), S = ⟨mkT [(1, .ptr 32 0), (4, .int .i64 v4), (16, .bool v5)], mkR [(32, .box 45 [.int .i64 a1, .sl (encL EIIII a2) a2.length])], 64⟩ ∧ s_StabilizerState_j4 a1 a2 v4 (s_StabilizerState_l1 a1 a2 n1) v5 = some r) hN ?_ ?_
   ·intro K hK; obtain ⟨x11, h11, h⟩ := bO_inv h; simp only [EV, seval]; refine CP (s_IsValidTableau_ok h11) ?_; obtain ⟨x12, hv3, h⟩ := bO_inv h; rcases br_inv hv3 with ⟨hc9, hv3⟩ | ⟨hc9, hv3⟩
    ·obtain ⟨h13, hv3⟩ := gd_inv hv3; replace h13 := of_decide_eq_true h13; cases hv3; simp only [EV, seval, hc9, h13]; refine hK _ _ _ (show cutK _ _ _ from cutL ⟨_, rfl, h⟩ (Le_can [(32, some 32)] [] hρ (by kernel_rfl) ?_ ?_))
     ·simp only [AL, EV, seval, hc9, h13]
     ·simp only [AL, EV, seval, hc9, h13]
    ·cases hv3; simp only [EV, seval, hc9]; refine hK _ _ _ (show cutK _ _ _ from cutL ⟨_, rfl, h⟩ (Le_can [(32, some 32)] [] hρ (by kernel_rfl) ?_ ?_))
     ·simp only [AL, EV, seval, hc9]
     ·simp only [AL, EV, seval, hc9]
   ·rintro S ⟨v5, rfl, h⟩; unfold s_StabilizerState_j4 at h; refine AB h (fun hc10 h => ?_) fun hc10 h => ?_
    ·refine AW_skip (AK ?_); refine AW_seq ?_; refine AW_block ?_; refine AR hN fun K hK => ?_; obtain ⟨x13, h14, h⟩ := bO_inv h; simp only [EV, seval]; refine rC_p (s_l27From_ok h14) (by simp only [AL, EV, seval]) (le_d rfl) (site_1 (by simp only [EV, seval])) ?_; simp only [EV, seval]; refine hK _ _ _ ?_; clear hK K; refine AW_seq ?_; refine AN hN ?_; refine AB h (fun hc11 h => ?_) fun hc11 h => ?_
     ·refine AN hN ?_; injection h with h; subst h; exact AX (b' := 64) [(2, .sl (encL EIIIII ([])) 0), (3, .bool false)] [] [] [2112] hρ (EQ [])
     ·refine AW_skip (AK ?_); refine AR hN fun K hK => ?_; obtain ⟨x14, h15, h⟩ := bO_inv h; simp only [EV, seval]; refine rC_l (s_l27None_ok h15) (by simp only [AL, EV, seval]) (by simp only [AL, EF, and_self]) (le_d rfl) (no_j rfl) ?_; simp only [EV, seval]; refine hK _ _ _ ?_; clear hK K; refine AB h (fun hc12 h => ?_) fun hc12 h => ?_
      ·refine AW_le (Le_can (lt := [(5, .sl (encL EIIIII x13.1) x13.1.length)]) (lr := []) (b' := 3152) [] [96] hρ (by kernel_rfl) ?_ ?_) ?_
       ·simp only [AL, EV, seval]
       ·simp only [AL, EV, seval]
       obtain ⟨x15, h16, h⟩ := bO_inv h; refine AP hN (s_l27Whole_ok h16) ?_; injection h with h; subst h; exact AX (b' := 64) [(2, .sl (encL EIIIII x15.1) x15.1.length), (3, .bool x15.2)] [] [] [] hρ (EQ [])
      ·refine AW_skip (AK ?_); refine AS hN fun K hK => ?_; simp only [EV, seval]; exact hK _ _ _ (AC ⟨_, rfl, h⟩ [(32, some 32)] [] hρ)
    ·exact AW_exit (AC ⟨rfl, h⟩ [] [] hρ)
 ·rintro S ⟨rfl, h⟩; unfold s_StabilizerState_j1 at h; refine AN hN ?_; injection h with h; subst h; exact AX (b' := 64) [(2, .sl (encL EIIIII ([])) 0), (3, .bool false)] [] [] [64] hρ (EQ [])
end Go.Proofs.Ytflfodcgoffjkaa
/- Models of functions, and that the functions do what the models say; printed by a program. -/
namespace Go.Proofs.Ytflfodcgoffjkaa
open Go.RowKit
set_option maxRecDepth 100000
set_option linter.unusedVariables false
set_option linter.unusedSimpArgs false
set_option linter.defProp false
set_option maxHeartbeats 4000000
/- laws.eqZOmega -/
def l_eqZOmega (a1 a2 a3 a4 a5 a6 a7 a8 : Int) : Option Bool :=
  br (a1 != a5) (some false) (br (a2 != a6) (some false) (br (a3 != a7) (some false) (br (a4 != a8) (some false) (some true))))
theorem l_eqZOmega_ok {a1 a2 a3 a4 a5 a6 a7 a8 : Int} {r : Bool} (h : l_eqZOmega a1 a2 a3 a4 a5 a6 a7 a8 = some r) :
    Spec Try.prog 128 [.agg [.int .i64 a1, .int .i64 a2, .int .i64 a3, .int .i64 a4], .agg [.int .i64 a5, .int .i64 a6, .int .i64 a7, .int .i64 a8]] [] (.bool r) [] := by
 unfold l_eqZOmega at h; refine SO Try.func128 rfl Try.ntmps128 fun C hN hρ => ?_; simp only [st0, tmps0, Nat.zero_add, Nat.reduceAdd]; refine AN hN ?_; refine AW_seq ?_; refine AN hN ?_; refine AB h (fun hc1 h => ?_) fun hc1 h => ?_
 ·refine AN hN ?_; injection h with h; subst h; exact AX (b' := 64) [(4, .bool false)] [] [] [] hρ (EQ [])
 ·refine AW_skip (AK ?_); refine AW_seq ?_; refine AN hN ?_; refine AB h (fun hc2 h => ?_) fun hc2 h => ?_
  ·refine AN hN ?_; injection h with h; subst h; exact AX (b' := 64) [(4, .bool false)] [] [] [] hρ (EQ [])
  ·refine AW_skip (AK ?_); refine AW_seq ?_; refine AN hN ?_; refine AB h (fun hc3 h => ?_) fun hc3 h => ?_
   ·refine AN hN ?_; injection h with h; subst h; exact AX (b' := 64) [(4, .bool false)] [] [] [] hρ (EQ [])
   ·refine AW_skip (AK ?_); refine AW_seq ?_; refine AN hN ?_; refine AB h (fun hc4 h => ?_) fun hc4 h => ?_
    ·refine AN hN ?_; injection h with h; subst h; exact AX (b' := 64) [(4, .bool false)] [] [] [] hρ (EQ [])
    ·refine AW_skip (AK ?_); refine AN hN ?_; injection h with h; subst h; exact AX (b' := 64) [(4, .bool true)] [] [] [] hρ (EQ [])
/- laws.eqDOmega -/
def l_eqDOmega (a1 a2 a3 a4 a5 a6 a7 a8 a9 a10 : Int) : Option Bool :=
  bO (l_eqZOmega a1 a2 a3 a4 a6 a7 a8 a9) fun x1 => br (!x1) (some false) (br (a5 != a10) (some false) (some true))
theorem l_eqDOmega_ok {a1 a2 a3 a4 a5 a6 a7 a8 a9 a10 : Int} {r : Bool} (h : l_eqDOmega a1 a2 a3 a4 a5 a6 a7 a8 a9 a10 = some r) :
    Spec Try.prog 81 [.agg [.int .i64 a1, .int .i64 a2, .int .i64 a3, .int .i64 a4, .int .i64 a5], .agg [.int .i64 a6, .int .i64 a7, .int .i64 a8, .int .i64 a9, .int .i64 a10]] [] (.bool r) [] := by
 unfold l_eqDOmega at h; refine SO Try.func81 rfl Try.ntmps81 fun C hN hρ => ?_; simp only [st0, tmps0, Nat.zero_add, Nat.reduceAdd]; refine AN hN ?_; refine AW_seq ?_; obtain ⟨x1, h1, h⟩ := bO_inv h; refine AP hN (l_eqZOmega_ok h1) ?_; refine AB h (fun hc1 h => ?_) fun hc1 h => ?_
 ·refine AN hN ?_; injection h with h; subst h; exact AX (b' := 64) [(4, .bool false)] [] [] [] hρ (EQ [])
 ·refine AW_skip (AK ?_); refine AW_seq ?_; refine AN hN ?_; refine AB h (fun hc2 h => ?_) fun hc2 h => ?_
  ·refine AN hN ?_; injection h with h; subst h; exact AX (b' := 64) [(4, .bool false)] [] [] [] hρ (EQ [])
  ·refine AW_skip (AK ?_); refine AN hN ?_; injection h with h; subst h; exact AX (b' := 64) [(4, .bool true)] [] [] [] hρ (EQ [])
/- laws.eqDOmegaS -/
def l_eqDOmegaS_j1 : Option Bool :=
  some true
def l_eqDOmegaS_l1 (a1 : LF) (a2 : LF) : Nat → Int → Option Bool
  | 0, _ => none
  | n1 + 1, v2 =>
  br (decide (v2 < ((a1.length : Int)))) (bO (geti a1 v2) fun q5 => bO (geti a2 v2) fun q6 => bO (l_eqDOmega q5.1 q5.2.1 q5.2.2.1 q5.2.2.2.1 q5.2.2.2.2 q6.1 q6.2.1 q6.2.2.1 q6.2.2.2.1 q6.2.2.2.2) fun x3 => br (!x3) (some false) ((l_eqDOmegaS_l1 a1 a2 n1) (IntKind.wrap .i64 (v2 + 1)))) (l_eqDOmegaS_j1)
def l_eqDOmegaS (a1 : LF) (a2 : LF) : Option Bool :=
  br (((a1.length : Int)) != ((a2.length : Int))) (some false) (l_eqDOmegaS_l1 a1 a2 FU 0)
theorem l_eqDOmegaS_ok {a1 : LF} {a2 : LF} {r : Bool} (h : l_eqDOmegaS a1 a2 = some r) :
    Spec Try.prog 37 [.sl (encL EIIIII a1) a1.length, .sl (encL EIIIII a2) a2.length] [] (.bool r) [] := by
 unfold l_eqDOmegaS at h; refine SO Try.func37 rfl Try.ntmps37 fun C hN hρ => ?_; simp only [st0, tmps0, Nat.zero_add, Nat.reduceAdd]; refine AN hN ?_; refine AW_seq ?_; refine AN hN ?_; refine AB h (fun hc1 h => ?_) fun hc1 h => ?_
 ·refine AN hN ?_; injection h with h; subst h; exact AX (b' := 64) [(4, .bool false)] [] [] [] hρ (EQ [])
 ·refine AW_skip (AK ?_); refine AW_cutK (fun S => S = ⟨mkT [], mkR [], 64⟩ ∧ l_eqDOmegaS_j1 = some r) ?_ ?_
  ·refine AN hN ?_; refine AW_block ?_; refine AW_loopF (fun n S => ∃ (v2 : Int), S = ⟨mkT [(0, .sl (encL EIIIII a1) a1.length), (1, .sl (encL EIIIII a2) a2.length), (5, .int .i64 v2)], mkR [], 64⟩ ∧ l_eqDOmegaS_l1 a1 a2 n v2 = some r) FU ?_ ?_ ?_
   ·exact AC ⟨_, rfl, h⟩ [] [] hρ
   ·rintro S ⟨_, _, h⟩; rw [l_eqDOmegaS_l1] at h; cases h
   ·rintro n1 S ⟨v2, rfl, h⟩; rw [l_eqDOmegaS_l1] at h; refine AW_seq ?_; refine AN hN ?_; refine AB h (fun hc6 h => ?_) fun hc6 h => ?_
    ·refine AW_skip (AK ?_); refine AW_seq ?_; refine AW_block ?_; refine AR hN fun K hK => ?_; obtain ⟨q5, h11, h⟩ := bO_inv h; obtain ⟨⟨h12a, h12b⟩, h12c⟩ := geti_E EIIIIIl h11; (try simp only [EV, seval] at h12c); obtain ⟨q6, h13, h⟩ := bO_inv h; obtain ⟨⟨h14a, h14b⟩, h14c⟩ := geti_E EIIIIIl h13; (try simp only [EV, seval] at h14c); obtain ⟨x3, h15, h⟩ := bO_inv h; simp only [EV, seval, h12a, h12b, h12c, h14a, h14b, h14c]; refine rC_p (l_eqDOmega_ok h15) (by simp only [AL, EV, seval, h12a, h12b, h12c, h14a, h14b, h14c]) (le_d rfl) (no_j rfl) ?_; simp only [EV, seval, h12a, h12b, h12c, h14a, h14b, h14c]; refine hK _ _ _ ?_; clear hK K; refine AW_condK (a := .bool (!x3)) (by simp only [EV, seval, h12a, h12b, h12c, h14a, h14b, h14c]) (brK h (fun hc7 h => ?_) (fun hc7 h => ?_))
     ·refine AN hN ?_; injection h with h; subst h; exact AX (b' := 64) [(4, .bool false)] [] [] [] hρ (EQ [])
     ·refine AW_skip (AK ?_); refine AS hN fun K hK => ?_; simp only [EV, seval]; exact hK _ _ _ (AC ⟨_, rfl, h⟩ [] [] hρ)
    ·exact AW_exit (AC ⟨rfl, h⟩ [] [] hρ)
  ·rintro S ⟨rfl, h⟩; unfold l_eqDOmegaS_j1 at h; refine AN hN ?_; injection h with h; subst h; exact AX (b' := 64) [(4, .bool true)] [] [] [] hρ (EQ [])
/- laws.markDOmegaS -/
def l_markDOmegaS_j1 (v7 : LF) (v8 : Int) : Option (Int × LF) :=
  some (v8, v7)
def l_markDOmegaS_l1 : Nat → (LF) → Int → Int → Option (Int × LF)
  | 0, _, _, _ => none
  | n1 + 1, v4, v5, v6 =>
  br (decide (v6 < ((v4.length : Int)))) (bO (geti v4 v6) fun q11 => bO (geti (v4.set (Int.toNat v6) ((v5, q11.2.1, q11.2.2.1, q11.2.2.2.1, q11.2.2.2.2))) v6) fun q12 => bO (geti ((v4.set (Int.toNat v6) ((v5, q11.2.1, q11.2.2.1, q11.2.2.2.1, q11.2.2.2.2))).set (Int.toNat v6) ((q12.1, IntKind.wrap .i64 (v5 + 1), q12.2.2.1, q12.2.2.2.1, q12.2.2.2.2))) v6) fun q13 => bO (geti (((v4.set (Int.toNat v6) ((v5, q11.2.1, q11.2.2.1, q11.2.2.2.1, q11.2.2.2.2))).set (Int.toNat v6) ((q12.1, IntKind.wrap .i64 (v5 + 1), q12.2.2.1, q12.2.2.2.1, q12.2.2.2.2))).set (Int.toNat v6) ((q13.1, q13.2.1, IntKind.wrap .i64 ((IntKind.wrap .i64 (v5 + 1)) + 1), q13.2.2.2.1, q13.2.2.2.2))) v6) fun q14 => bO (geti ((((v4.set (Int.toNat v6) ((v5, q11.2.1, q11.2.2.1, q11.2.2.2.1, q11.2.2.2.2))).set (Int.toNat v6) ((q12.1, IntKind.wrap .i64 (v5 + 1), q12.2.2.1, q12.2.2.2.1, q12.2.2.2.2))).set (Int.toNat v6) ((q13.1, q13.2.1, IntKind.wrap .i64 ((IntKind.wrap .i64 (v5 + 1)) + 1), q13.2.2.2.1, q13.2.2.2.2))).set (Int.toNat v6) ((q14.1, q14.2.1, q14.2.2.1, IntKind.wrap .i64 ((IntKind.wrap .i64 ((IntKind.wrap .i64 (v5 + 1)) + 1)) + 1), q14.2.2.2.2))) v6) fun q15 => (l_markDOmegaS_l1 n1) (((((v4.set (Int.toNat v6) ((v5, q11.2.1, q11.2.2.1, q11.2.2.2.1, q11.2.2.2.2))).set (Int.toNat v6) ((q12.1, IntKind.wrap .i64 (v5 + 1), q12.2.2.1, q12.2.2.2.1, q12.2.2.2.2))).set (Int.toNat v6) ((q13.1, q13.2.1, IntKind.wrap .i64 ((IntKind.wrap .i64 (v5 + 1)) + 1), q13.2.2.2.1, q13.2.2.2.2))).set (Int.toNat v6) ((q14.1, q14.2.1, q14.2.2.1, IntKind.wrap .i64 ((IntKind.wrap .i64 ((IntKind.wrap .i64 (v5 + 1)) + 1)) + 1), q14.2.2.2.2))).set (Int.toNat v6) ((q15.1, q15.2.1, q15.2.2.1, q15.2.2.2.1, IntKind.wrap .i64 ((IntKind.wrap .i64 ((IntKind.wrap .i64 ((IntKind.wrap .i64 (v5 + 1)) + 1)) + 1)) + 1)))) (IntKind.wrap .i64 ((IntKind.wrap .i64 ((IntKind.wrap .i64 ((IntKind.wrap .i64 ((IntKind.wrap .i64 (v5 + 1)) + 1)) + 1)) + 1)) + 1)) (IntKind.wrap .i64 (v6 + 1))) (l_markDOmegaS_j1 v4 v5)
def l_markDOmegaS (a1 : LF) (a2 : Int) : Option (Int × LF) :=
  l_markDOmegaS_l1 FU a1 a2 0
theorem l_markDOmegaS_ok {a1 : LF} {a2 : Int} {r : Int × LF} (h : l_markDOmegaS a1 a2 = some r) :
    Spec Try.prog 38 [.own 0 a1.length, .int .i64 a2] [.row 77 5 (encL EIIIII a1)] (.int .i64 r.1) [.row 77 5 (encL EIIIII r.2)] := by
 unfold l_markDOmegaS at h; refine SO Try.func38 rfl Try.ntmps38 fun C hN hρ => ?_; simp only [st0, tmps0, Nat.zero_add, Nat.reduceAdd]; refine AN hN ?_; refine AW_cutK (fun S => ∃ (v7 : LF) (v8 : Int), S = ⟨mkT [(1, .int .i64 v8)], mkR [(0, .row 77 5 (encL EIIIII v7))], 64⟩ ∧ l_markDOmegaS_j1 v7 v8 = some r) ?_ ?_
 ·refine AN hN ?_; refine AW_block ?_; refine AW_loopF (fun n S => ∃ (v4 : LF) (v5 v6 : Int), S = ⟨mkT [(0, .own 0 v4.length), (1, .int .i64 v5), (5, .int .i64 v6)], mkR [(0, .row 77 5 (encL EIIIII v4))], 64⟩ ∧ l_markDOmegaS_l1 n v4 v5 v6 = some r) FU ?_ ?_ ?_
  ·exact AC ⟨_, _, _, rfl, h⟩ [(0, some 0)] [] hρ
  ·rintro S ⟨_, _, _, _, h⟩; rw [l_markDOmegaS_l1] at h; cases h
  ·rintro n1 S ⟨v4, v5, v6, rfl, h⟩; rw [l_markDOmegaS_l1] at h; refine AW_seq ?_; refine AN hN ?_; refine AB h (fun hc3 h => ?_) fun hc3 h => ?_
   ·refine AW_skip (AK ?_); refine AW_seq ?_; refine AW_block ?_; refine AR hN fun K hK => ?_; obtain ⟨q11, h31, h⟩ := bO_inv h; obtain ⟨⟨h32a, h32b⟩, h32c⟩ := geti_E EIIIIIl h31; (try simp only [EV, seval] at h32c); have h33 := set_E EIIIIIl ((v5, q11.2.1, q11.2.2.1, q11.2.2.2.1, q11.2.2.2.2)) 0 [.int .i64 v5] h31 (Nat.le_of_ble_eq_true rfl) rfl; obtain ⟨h33a, h33b⟩ := h33; (try simp only [EV, seval] at h33a); (try simp only [EV, seval] at h33b); simp only [EV, seval, h32a, h32b, h32c, h33a, h33b]; refine hK _ _ _ ?_; clear hK K; refine AN hN ?_; refine AR hN fun K hK => ?_; obtain ⟨q12, h34, h⟩ := bO_inv h; obtain ⟨⟨h35a, h35b⟩, h35c⟩ := geti_E EIIIIIl h34; (try simp only [EV, seval] at h35c); (try simp only [EV, seval] at h35b); have h36 := set_E EIIIIIl ((q12.1, IntKind.wrap .i64 (v5 + 1), q12.2.2.1, q12.2.2.2.1, q12.2.2.2.2)) 1 [.int .i64 (IntKind.wrap .i64 (v5 + 1))] h34 (Nat.le_of_ble_eq_true rfl) rfl; obtain ⟨h36a, h36b⟩ := h36; (try simp only [EV, seval] at h36a); (try simp only [EV, seval] at h36b); simp only [EV, seval, h35a, h35b, h35c, h36a, h36b]; refine hK _ _ _ ?_; clear hK K; refine AN hN ?_; refine AR hN fun K hK => ?_; obtain ⟨q13, h37, h⟩ := bO_inv h; obtain ⟨⟨h38a, h38b⟩, h38c⟩ := geti_E EIIIIIl h37; (try simp only [EV, seval] at h38c); (try simp only [EV, seval] at h38b); have h39 := set_E EIIIIIl ((q13.1, q13.2.1, IntKind.wrap .i64 ((IntKind.wrap .i64 (v5 + 1)) + 1), q13.2.2.2.1, q13.2.2.2.2)) 2 [.int .i64 (IntKind.wrap .i64 ((IntKind.wrap .i64 (v5 + 1)) + 1))] h37 (Nat.le_of_ble_eq_true rfl) rfl; obtain ⟨h39a, h39b⟩ := h39; (try simp only [EV, seval] at h39a); (try simp only [EV, seval] at h39b); simp only [EV, seval, h38a, h38b, h38c, h39a, h39b]; refine hK _ _ _ ?_; clear hK K; refine AN hN ?_; refine AR hN fun K hK => ?_; obtain ⟨q14, h40, h⟩ := bO_inv h; obtain ⟨⟨h41a, h41b⟩, h41c⟩ := geti_E EIIIIIl h40; (try simp only [EV, seval] at h41c); (try simp only [EV, seval] at h41b); have h42 := set_E EIIIIIl ((q14.1, q14.2.1, q14.2.2.1, IntKind.wrap .i64 ((IntKind.wrap .i64 ((IntKind.wrap .i64 (v5 + 1)) + 1)) + 1), q14.2.2.2.2)) 3 [.int .i64 (IntKind.wrap .i64 ((IntKind.wrap .i64 ((IntKind.wrap .i64 (v5 + 1)) + 1)) + 1))] h40 (Nat.le_of_ble_eq_true rfl) rfl; obtain ⟨h42a, h42b⟩ := h42; (try simp only [EV, seval] at h42a); (try simp only [EV, seval] at h42b); simp only [EV, seval, h41a, h41b, h41c, h42a, h42b]; refine hK _ _ _ ?_; clear hK K; refine AN hN ?_; refine AR hN fun K hK => ?_; obtain ⟨q15, h43, h⟩ := bO_inv h; obtain ⟨⟨h44a, h44b⟩, h44c⟩ := geti_E EIIIIIl h43; (try simp only [EV, seval] at h44c); (try simp only [EV, seval] at h44b); have h45 := set_E EIIIIIl ((q15.1, q15.2.1, q15.2.2.1, q15.2.2.2.1, IntKind.wrap .i64 ((IntKind.wrap .i64 ((IntKind.wrap .i64 ((IntKind.wrap .i64 (v5 + 1)) + 1)) + 1)) + 1))) 4 [.int .i64 (IntKind.wrap .i64 ((IntKind.wrap .i64 ((IntKind.wrap .i64 ((IntKind.wrap .i64 (v5 + 1)) + 1)) + 1)) + 1))] h43 (Nat.le_of_ble_eq_true rfl) rfl; obtain ⟨h45a, h45b⟩ := h45; (try simp only [EV, seval] at h45a); (try simp only [EV, seval] at h45b); simp only [EV, seval, h44a, h44b, h44c, h45a, h45b]; refine hK _ _ _ ?_; clear hK K; refine AS hN fun K hK => ?_; simp only [EV, seval]; refine hK _ _ _ (show AW _ _ _ _ _ from ?_); refine AS hN fun K hK => ?_; simp only [EV, seval]; exact hK _ _ _ (AC ⟨_, _, _, rfl, h⟩ [(0, some 0)] [] hρ)
   ·exact AW_exit (AC ⟨_, _, rfl, h⟩ [(0, some 0)] [] hρ)
 ·rintro S ⟨v7, v8, rfl, h⟩; unfold l_markDOmegaS_j1 at h; refine AN hN ?_; injection h with h; subst h; exact AX (b' := 64) [(4, .int .i64 v8)] [(0, .row 77 5 (encL EIIIII v7))] [(0, some 0)] [] hρ (EQ [0])
/- laws.heldDOmegaS -/
def l_heldDOmegaS_j1 (v5 : Int) : Option Int :=
  some v5
def l_heldDOmegaS_l1 (a1 : LF) : Nat → Int → Int → Option Int
  | 0, _, _ => none
  | n1 + 1, v3, v4 =>
  br (decide (v4 < ((a1.length : Int)))) (bO (geti a1 v4) fun q3 => br (q3.1 != v3) (some (-1)) (br (q3.2.1 != (IntKind.wrap .i64 (v3 + 1))) (some (-1)) (br (q3.2.2.1 != (IntKind.wrap .i64 ((IntKind.wrap .i64 (v3 + 1)) + 1))) (some (-1)) (br (q3.2.2.2.1 != (IntKind.wrap .i64 ((IntKind.wrap .i64 ((IntKind.wrap .i64 (v3 + 1)) + 1)) + 1))) (some (-1)) (br (q3.2.2.2.2 != (IntKind.wrap .i64 ((IntKind.wrap .i64 ((IntKind.wrap .i64 ((IntKind.wrap .i64 (v3 + 1)) + 1)) + 1)) + 1))) (some (-1)) ((l_heldDOmegaS_l1 a1 n1) (IntKind.wrap .i64 ((IntKind.wrap .i64 ((IntKind.wrap .i64 ((IntKind.wrap .i64 ((IntKind.wrap .i64 (v3 + 1)) + 1)) + 1)) + 1)) + 1)) (IntKind.wrap .i64 (v4 + 1)))))))) (l_heldDOmegaS_j1 v3)
def l_heldDOmegaS (a1 : LF) (a2 : Int) : Option Int :=
  l_heldDOmegaS_l1 a1 FU a2 0
theorem l_heldDOmegaS_ok {a1 : LF} {a2 r : Int} (h : l_heldDOmegaS a1 a2 = some r) :
    Spec Try.prog 39 [.sl (encL EIIIII a1) a1.length, .int .i64 a2] [] (.int .i64 r) [] := by
 unfold l_heldDOmegaS at h; refine SO Try.func39 rfl Try.ntmps39 fun C hN hρ => ?_; simp only [st0, tmps0, Nat.zero_add, Nat.reduceAdd]; refine AN hN ?_; refine AW_cutK (fun S => ∃ (v5 : Int), S = ⟨mkT [(1, .int .i64 v5)], mkR [], 64⟩ ∧ l_heldDOmegaS_j1 v5 = some r) ?_ ?_
 ·refine AN hN ?_; refine AW_block ?_; refine AW_loopF (fun n S => ∃ (v3 v4 : Int), S = ⟨mkT [(0, .sl (encL EIIIII a1) a1.length), (1, .int .i64 v3), (5, .int .i64 v4)], mkR [], 64⟩ ∧ l_heldDOmegaS_l1 a1 n v3 v4 = some r) FU ?_ ?_ ?_
  ·exact AC ⟨_, _, rfl, h⟩ [] [] hρ
  ·rintro S ⟨_, _, _, h⟩; rw [l_heldDOmegaS_l1] at h; cases h
  ·rintro n1 S ⟨v3, v4, rfl, h⟩; rw [l_heldDOmegaS_l1] at h; refine AW_seq ?_; refine AN hN ?_; refine AB h (fun hc13 h => ?_) fun hc13 h => ?_
   ·refine AW_skip (AK ?_); refine AW_seq ?_; refine AW_block ?_; refine AW_seq ?_; refine AR hN fun K hK => ?_; obtain ⟨q3, h5, h⟩ := bO_inv h; obtain ⟨⟨h6a, h6b⟩, h6c⟩ := geti_E EIIIIIl h5; (try simp only [EV, seval] at h6c); simp only [EV, seval, h6a, h6b, h6c]; refine hK _ _ _ ?_; clear hK K; refine AW_condK (a := .bool (q3.1 != v3)) (by simp only [EV, seval, h6a, h6b, h6c]) (brK h (fun hc14 h => ?_) (fun hc14 h => ?_))
    ·refine AN hN ?_; injection h with h; subst h; exact AX (b' := 64) [(4, .int .i64 (-1))] [] [] [] hρ (EQ [])
    ·refine AW_skip (AK ?_); refine AN hN ?_; refine AW_seq ?_; refine AR hN fun K hK => ?_; simp only [EV, seval, h6a, h6b, h6c]; refine hK _ _ _ ?_; clear hK K; refine AW_condK (a := .bool (q3.2.1 != (IntKind.wrap .i64 (v3 + 1)))) (by simp only [EV, seval, h6a, h6b, h6c]) (brK h (fun hc15 h => ?_) (fun hc15 h => ?_))
     ·refine AN hN ?_; injection h with h; subst h; exact AX (b' := 64) [(4, .int .i64 (-1))] [] [] [] hρ (EQ [])
     ·refine AW_skip (AK ?_); refine AN hN ?_; refine AW_seq ?_; refine AR hN fun K hK => ?_; simp only [EV, seval, h6a, h6b, h6c]; refine hK _ _ _ ?_; clear hK K; refine AW_condK (a := .bool (q3.2.2.1 != (IntKind.wrap .i64 ((IntKind.wrap .i64 (v3 + 1)) + 1)))) (by simp only [EV, seval, h6a, h6b, h6c]) (brK h (fun hc16 h => ?_) (fun hc16 h => ?_))
      ·refine AN hN ?_; injection h with h; subst h; exact AX (b' := 64) [(4, .int .i64 (-1))] [] [] [] hρ (EQ [])
      ·refine AW_skip (AK ?_); refine AN hN ?_; refine AW_seq ?_; refine AR hN fun K hK => ?_; simp only [EV, seval, h6a, h6b, h6c]; refine hK _ _ _ ?_; clear hK K; refine AW_condK (a := .bool (q3.2.2.2.1 != (IntKind.wrap .i64 ((IntKind.wrap .i64 ((IntKind.wrap .i64 (v3 + 1)) + 1)) + 1)))) (by simp only [EV, seval, h6a, h6b, h6c]) (brK h (fun hc17 h => ?_) (fun hc17 h => ?_))
       ·refine AN hN ?_; injection h with h; subst h; exact AX (b' := 64) [(4, .int .i64 (-1))] [] [] [] hρ (EQ [])
       ·refine AW_skip (AK ?_); refine AN hN ?_; refine AW_seq ?_; refine AR hN fun K hK => ?_; simp only [EV, seval, h6a, h6b, h6c]; refine hK _ _ _ ?_; clear hK K; refine AW_condK (a := .bool (q3.2.2.2.2 != (IntKind.wrap .i64 ((IntKind.wrap .i64 ((IntKind.wrap .i64 ((IntKind.wrap .i64 (v3 + 1)) + 1)) + 1)) + 1)))) (by simp only [EV, seval, h6a, h6b, h6c]) (brK h (fun hc18 h => ?_) (fun hc18 h => ?_))
        ·refine AN hN ?_; injection h with h; subst h; exact AX (b' := 64) [(4, .int .i64 (-1))] [] [] [] hρ (EQ [])
        ·refine AW_skip (AK ?_); refine AS hN fun K hK => ?_; simp only [EV, seval]; refine hK _ _ _ (show AW _ _ _ _ _ from ?_); refine AS hN fun K hK => ?_; simp only [EV, seval]; exact hK _ _ _ (AC ⟨_, _, rfl, h⟩ [] [] hρ)
   ·exact AW_exit (AC ⟨_, rfl, h⟩ [] [] hρ)
 ·rintro S ⟨v5, rfl, h⟩; unfold l_heldDOmegaS_j1 at h; refine AN hN ?_; injection h with h; subst h; exact AX (b' := 64) [(4, .int .i64 v5)] [] [] [] hρ (EQ [])
end Go.Proofs.Ytflfodcgoffjkaa
