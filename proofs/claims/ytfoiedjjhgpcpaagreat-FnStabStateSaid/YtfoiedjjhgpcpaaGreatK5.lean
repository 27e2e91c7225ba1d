/- Joined texts: Mu Mv. -/
import Derived.Test.YtfoiedjjhgpcpaaGreatK1
/- Models of functions, and that the functions do what the models say; printed by a program. -/
namespace Go.Proofs.YtfoiedjjhgpcpaaGreat
open Go.RowKit
set_option maxRecDepth 100000
set_option linter.unusedVariables false
set_option linter.unusedSimpArgs false
set_option linter.defProp false
set_option maxHeartbeats 4000000
/- spec.l14One -/
def s_l14One (a1 a2 : Int) : Option (Int × Int × Int × Int) :=
  some (a1, a2, 0, 0)
theorem s_l14One_ok {a1 a2 : Int} {r : Int × Int × Int × Int} (h : s_l14One a1 a2 = some r) :
    Spec Tryz.prog 119 [.int .i64 a1, .int .i64 a2] [] (.agg [.int .i64 r.1, .int .i64 r.2.1, .int .i64 r.2.2.1, .int .i64 r.2.2.2]) [] := by
 unfold s_l14One at h; refine SO Tryz.func119 rfl Tryz.ntmps119 fun C hN hρ => ?_; simp only [st0, tmps0, Nat.zero_add, Nat.reduceAdd]; refine AN hN ?_; refine AN hN ?_; injection h with h; subst h; exact AX (b' := 64) [(4, .ptr 32 0)] [(32, .box 79 [.int .i64 a1, .int .i64 a2, .int .i64 0, .int .i64 0])] [(32, some 64)] [] hρ (EQ [])
/- laws.big -/
def l_big (a1 : List Int) : Option Bool :=
  some (decide (1048576 < ((a1.length : Int))))
theorem l_big_ok {a1 : List Int} {r : Bool} (h : l_big a1 = some r) :
    Spec Tryz.prog 5 [.sl (encL EB a1) a1.length] [] (.bool r) [] := by
 unfold l_big at h; refine SO Tryz.func5 rfl Tryz.ntmps5 fun C hN hρ => ?_; simp only [st0, tmps0, Nat.zero_add, Nat.reduceAdd]; refine AN hN ?_; refine AN hN ?_; injection h with h; subst h; exact AX (b' := 64) [(2, .bool (decide (1048576 < ((a1.length : Int)))))] [] [] [] hρ (EQ [])
/- spec.InverseGate -/
def s_InverseGate_j1 (a2 a3 a4 v1 : Int) : Option (Int × Int × Int × Int) :=
  some (v1, a2, a3, a4)
def s_InverseGate (a1 a2 a3 a4 : Int) : Option (Int × Int × Int × Int) :=
  br (a1 == 5) (s_InverseGate_j1 a2 a3 a4 6) (br (a1 == 6) (s_InverseGate_j1 a2 a3 a4 5) (br (a1 == 7) (s_InverseGate_j1 a2 a3 a4 8) (br (a1 == 8) (s_InverseGate_j1 a2 a3 a4 7) (s_InverseGate_j1 a2 a3 a4 a1))))
theorem s_InverseGate_ok {a1 a2 a3 a4 : Int} {r : Int × Int × Int × Int} (h : s_InverseGate a1 a2 a3 a4 = some r) :
    Spec Tryz.prog 97 [.agg [.int .i64 a1, .int .i64 a2, .int .i64 a3, .int .i64 a4]] [] (.agg [.int .i64 r.1, .int .i64 r.2.1, .int .i64 r.2.2.1, .int .i64 r.2.2.2]) [] := by
 unfold s_InverseGate at h; refine SO Tryz.func97 rfl Tryz.ntmps97 fun C hN hρ => ?_; simp only [st0, tmps0, Nat.zero_add, Nat.reduceAdd]; refine AN hN ?_; refine AW_cutK (fun S => ∃ (v1 : Int), S = ⟨mkT [(1, .ptr 32 0), (2, .ptr 33 0)], mkR [(32, .box 79 [.int .i64 v1, .int .i64 a2, .int .i64 a3, .int .i64 a4]), (33, .box 79 [.int .i64 0, .int .i64 0, .int .i64 0, .int .i64 0])], 64⟩ ∧ s_InverseGate_j1 a2 a3 a4 v1 = some r) ?_ ?_
 ·refine AN hN ?_; refine AW_block ?_; refine AN hN ?_; refine AB h (fun hc1 h => ?_) fun hc1 h => ?_
  ·refine AS hN fun K hK => ?_; simp only [EV, seval]; exact hK _ _ _ (AC ⟨_, rfl, h⟩ [(32, some 64), (33, some 80)] [] hρ)
  ·refine AN hN ?_; refine AB h (fun hc2 h => ?_) fun hc2 h => ?_
   ·refine AS hN fun K hK => ?_; simp only [EV, seval]; exact hK _ _ _ (AC ⟨_, rfl, h⟩ [(32, some 64), (33, some 80)] [] hρ)
   ·refine AN hN ?_; refine AB h (fun hc3 h => ?_) fun hc3 h => ?_
    ·refine AS hN fun K hK => ?_; simp only [EV, seval]; exact hK _ _ _ (AC ⟨_, rfl, h⟩ [(32, some 64), (33, some 80)] [] hρ)
    ·refine AN hN ?_; refine AB h (fun hc4 h => ?_) fun hc4 h => ?_
     ·refine AS hN fun K hK => ?_; simp only [EV, seval]; exact hK _ _ _ (AC ⟨_, rfl, h⟩ [(32, some 64), (33, some 80)] [] hρ)
     ·refine AW_skip (show cutK _ _ _ from cutL ⟨_, rfl, h⟩ (Le_can [(32, some 64), (33, some 80)] [] hρ (by kernel_rfl) ?_ ?_))
      ·simp only [AL, EV, seval]
      ·simp only [AL, EV, seval]
 ·rintro S ⟨v1, rfl, h⟩; unfold s_InverseGate_j1 at h; refine AN hN ?_; injection h with h; subst h; exact AX (b' := 64) [(2, .ptr 32 0)] [(32, .box 79 [.int .i64 v1, .int .i64 a2, .int .i64 a3, .int .i64 a4])] [(32, some 33)] [] hρ (EQ [])
end Go.Proofs.YtfoiedjjhgpcpaaGreat
/- Models of functions, and that the functions do what the models say; printed by a program. -/
namespace Go.Proofs.YtfoiedjjhgpcpaaGreat
open Go.RowKit
set_option maxRecDepth 100000
set_option linter.unusedVariables false
set_option linter.unusedSimpArgs false
set_option linter.defProp false
set_option maxHeartbeats 4000000
/- spec.l26Copy -/
def s_l26Copy (a1 : Int) (a2 : LQ) : Option (Int × LQ) :=
  gd (decide (([] : LQ).length + a2.length ≤ 16777216)) (some (a1, a2))
theorem s_l26Copy_ok {a1 : Int} {a2 : LQ} {r : Int × LQ} (h : s_l26Copy a1 a2 = some r) :
    Spec Tryz.prog 94 [.agg [.int .i64 a1, .sl (encL EIIII a2) a2.length]] [] (.agg [.int .i64 r.1, .own 0 r.2.length]) [.row 34 4 (encL EIIII r.2)] := by
 unfold s_l26Copy at h; refine SO Tryz.func94 rfl Tryz.ntmps94 fun C hN hρ => ?_; simp only [st0, tmps0, Nat.zero_add, Nat.reduceAdd]; refine AN hN ?_; refine AW_rsT (BR := BR) [(1, [64]), (5, [1120, 1168])] (by kernel_rfl) FM (by rw [hN]; kernel_rfl) (by kernel_rfl) ?_; intro K hK; obtain ⟨h1, h⟩ := gd_inv h; replace h1 := of_decide_eq_true h1; (try simp only [EV, seval] at h1); have h2 := encL_len EIIIIl a2; simp only [AE, AT, TY, EN, seval, h1, h2]; refine hK _ _ _ ?_; clear hK K; injection h with h; subst h; refine AW_le (Le_can (lt := [(2, .ptr 32 0)]) (lr := [(32, .box 26 [.int .i64 a1, .own 33 a2.length]), (33, .row 34 4 (encL EIIII a2))]) (b' := 64) [(32, some 80), (33, some 1168)] [] hρ (by kernel_rfl) ?_ ?_) (AW_ret (end_q [33] (.inr rfl) (by kernel_rfl) (by kernel_rfl) ?_))
 ·simp only [AL, EV, seval, h1, h2]
 ·simp only [AL, EV, seval, h1, h2]
 ·simp only [EV, Tryz.results94, seval]
/- spec.l11Inverse -/
def s_l11Inverse_j1 (v5 : LQ) : Option (LQ) :=
  some v5
def s_l11Inverse_l1 (a1 : LQ) : Nat → Int → (LQ) → Option (LQ)
  | 0, _, _ => none
  | n1 + 1, v3, v4 =>
  br (decide (0 ≤ v3)) (bO (geti a1 v3) fun q2 => bO (s_InverseGate q2.1 q2.2.1 q2.2.2.1 q2.2.2.2) fun x2 => gd (decide (v4.length + ([(x2.1, x2.2.1, x2.2.2.1, x2.2.2.2)]).length ≤ 16777216)) ((s_l11Inverse_l1 a1 n1) (IntKind.wrap .i64 (v3 - 1)) (v4 ++ ([(x2.1, x2.2.1, x2.2.2.1, x2.2.2.2)])))) (s_l11Inverse_j1 v4)
def s_l11Inverse (a1 : LQ) : Option (LQ) :=
  s_l11Inverse_l1 a1 FU (IntKind.wrap .i64 (((a1.length : Int)) - 1)) ([] : LQ)
theorem s_l11Inverse_ok {a1 : LQ} {r : LQ} (h : s_l11Inverse a1 = some r) :
    Spec Tryz.prog 46 [.sl (encL EIIII a1) a1.length] [] (.own 0 r.length) [.row 79 4 (encL EIIII r)] := by
 unfold s_l11Inverse at h; refine SO Tryz.func46 rfl Tryz.ntmps46 fun C hN hρ => ?_; simp only [st0, tmps0, Nat.zero_add, Nat.reduceAdd]; refine AN hN ?_; refine AN hN ?_; refine AW_cutK (fun S => ∃ (v5 : LQ), S = ⟨mkT [(3, .own 32 v5.length)], mkR [(32, .row 79 4 (encL EIIII v5))], 64⟩ ∧ s_l11Inverse_j1 v5 = some r) ?_ ?_
 ·refine AN hN ?_; refine AW_block ?_; refine AW_loopF (fun n S => ∃ (v3 : Int) (v4 : LQ), S = ⟨mkT [(0, .sl (encL EIIII a1) a1.length), (3, .own 32 v4.length), (4, .int .i64 v3)], mkR [(32, .row 79 4 (encL EIIII v4))], 64⟩ ∧ s_l11Inverse_l1 a1 n v3 v4 = some r) FU ?_ ?_ ?_
  ·exact AC ⟨_, _, rfl, h⟩ [(32, some 1088)] [] hρ
  ·rintro S ⟨_, _, _, h⟩; rw [s_l11Inverse_l1] at h; cases h
  ·rintro n1 S ⟨v3, v4, rfl, h⟩; rw [s_l11Inverse_l1] at h; refine AW_seq ?_; refine AN hN ?_; refine AB h (fun hc2 h => ?_) fun hc2 h => ?_
   ·refine AW_skip (AK ?_); refine AW_seq ?_; refine AW_block ?_; refine AS hN fun K hK => ?_; obtain ⟨q2, h5, h⟩ := bO_inv h; obtain ⟨⟨h6a, h6b⟩, h6c⟩ := geti_E EIIIIl h5; (try simp only [EV, seval] at h6c); obtain ⟨x2, h7, h⟩ := bO_inv h; simp only [EV, seval, h6a, h6b, h6c]; refine rC_p (s_InverseGate_ok h7) (by simp only [AL, EV, seval, h6a, h6b, h6c]) (le_d rfl) (no_j rfl) ?_; obtain ⟨h8, h⟩ := gd_inv h; replace h8 := of_decide_eq_true h8; (try simp only [EV, seval] at h8); simp only [EV, seval, h6a, h6b, h6c, h8]; refine hK _ _ _ (show AW _ _ _ _ _ from ?_); refine AS hN fun K hK => ?_; simp only [EV, seval]; exact hK _ _ _ (AC ⟨_, _, rfl, h⟩ [(32, some 1200)] [] hρ)
   ·exact AW_exit (AC ⟨_, rfl, h⟩ [(32, some 32)] [] hρ)
 ·rintro S ⟨v5, rfl, h⟩; unfold s_l11Inverse_j1 at h; refine AN hN ?_; injection h with h; subst h; exact AX (b' := 64) [(2, .own 32 v5.length)] [(32, .row 79 4 (encL EIIII v5))] [(32, some 32)] [] hρ (EQ [32])
end Go.Proofs.YtfoiedjjhgpcpaaGreat
