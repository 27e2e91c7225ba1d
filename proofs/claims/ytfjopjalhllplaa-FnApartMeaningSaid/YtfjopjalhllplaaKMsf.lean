/- Models of functions, and that the functions do what the models say; printed by a program. -/
import Derived.Test.YtfjopjalhllplaaK1
import Derived.Test.YtfjopjalhllplaaKMrv
import Derived.Test.YtfjopjalhllplaaKMsb
import Derived.Test.YtfjopjalhllplaaKMse
namespace Go.Proofs.Ytfjopjalhllplaa
open Go.RowKit
set_option maxRecDepth 100000
set_option linter.unusedVariables false
set_option linter.unusedSimpArgs false
set_option linter.defProp false
set_option maxHeartbeats 4000000
/- spec.SimulatePrefix -/
def s_SimulatePrefix_j1 (v9 : List (Int × List (LF))) : Option (List (Int × List (LF)) × Bool) :=
  some (v9, true)
def s_SimulatePrefix_j4 (a4 : List (Int × Int × Int × Int × Int × Int × Int × Int)) (v6 : Int) (v7 : List (Int × List (LF))) (kl1 : Int → (List (Int × List (LF))) → Option (List (Int × List (LF)) × Bool)) (v8 : Bool) : Option (List (Int × List (LF)) × Bool) :=
  br v8 (bO (geti a4 v6) fun q3 => bO (s_l23Step v7 q3.1 q3.2.1 q3.2.2.1 q3.2.2.2.1 q3.2.2.2.2.1 q3.2.2.2.2.2.1 q3.2.2.2.2.2.2.1 q3.2.2.2.2.2.2.2) fun x8 => br (!x8.2) (some ([], false)) (kl1 (IntKind.wrap .i64 (v6 + 1)) x8.1)) (s_SimulatePrefix_j1 v7)
def s_SimulatePrefix_l1 (a4 : List (Int × Int × Int × Int × Int × Int × Int × Int)) (a5 : Int) : Nat → Int → (List (Int × List (LF))) → Option (List (Int × List (LF)) × Bool)
  | 0, _, _ => none
  | n1 + 1, v6, v7 =>
  bO (br (decide (v6 < ((a4.length : Int)))) (some (decide (v6 < a5))) (some false)) fun x7 => s_SimulatePrefix_j4 a4 v6 v7 (s_SimulatePrefix_l1 a4 a5 n1) x7
def s_SimulatePrefix (a1 a2 a3 : Int) (a4 : List (Int × Int × Int × Int × Int × Int × Int × Int)) (a5 : Int) : Option (List (Int × List (LF)) × Bool) :=
  bO (s_IsValidRoutine a1 a2 a3 a4) fun x1 => br (!x1) (some ([], false)) (bO (s_InitialBranch a1 a2) fun x2 => s_SimulatePrefix_l1 a4 a5 FU 0 ([(x2.1, x2.2)]))
theorem s_SimulatePrefix_ok {a1 a2 a3 : Int} {a4 : List (Int × Int × Int × Int × Int × Int × Int × Int)} {a5 : Int} {r : List (Int × List (LF)) × Bool} (h : s_SimulatePrefix a1 a2 a3 a4 a5 = some r) :
    Spec Try.prog 28 [.agg [.int .i64 a1, .int .i64 a2, .int .i64 a3, .sl (encL EIIIIIIII a4) a4.length], .int .i64 a5] [] (.tup [.own 0 r.1.length, .bool r.2]) [.row 38 2 (encL EILLIIIIIEE r.1)] := by
 unfold s_SimulatePrefix at h; refine SO Try.func28 rfl Try.ntmps28 fun C hN hρ => ?_; simp only [st0, tmps0, Nat.zero_add, Nat.reduceAdd]; refine AN hN ?_; refine AW_seq ?_; obtain ⟨x1, h1, h⟩ := bO_inv h; refine AP hN (s_IsValidRoutine_ok h1) ?_; refine AB h (fun hc1 h => ?_) fun hc1 h => ?_
 ·refine AN hN ?_; injection h with h; subst h; exact AX (b' := 64) [(4, .own 32 0), (5, .bool false)] [(32, .row 38 2 (encL EILLIIIIIEE ([])))] [(32, some 2112)] [] hρ (EQ [32])
 ·refine AW_skip (AK ?_); refine AR hN fun K hK => ?_; obtain ⟨x2, h2, h⟩ := bO_inv h; simp only [EV, seval]; refine rC_p (Spec.can (ret2 := .agg [.int .i64 x2.1, .sl (encL ELIIIIIE x2.2) x2.2.length]) (mem2 := []) (s_InitialBranch_ok h2) [] [0] (by kernel_rfl) (by simp only [AL, EV, seval]) (by simp only [AL, EV, seval])) (by simp only [AL, EV, seval]) (le_d rfl) (no_j rfl) ?_; simp only [EV, seval]; refine hK _ _ _ ?_; clear hK K; refine AW_cutK (fun S => ∃ (v9 : List (Int × List (LF))), S = ⟨mkT [(6, .own 32 v9.length)], mkR [(32, .row 38 2 (encL EILLIIIIIEE v9))], 64⟩ ∧ s_SimulatePrefix_j1 v9 = some r) ?_ ?_
  ·refine AN hN ?_; refine AW_block ?_; refine AW_loopF (fun n S => ∃ (v6 : Int) (v7 : List (Int × List (LF))), S = ⟨mkT [(1, .int .i64 a5), (2, .ptr 32 0), (6, .own 33 v7.length), (7, .int .i64 v6)], mkR [(32, .box 57 [.int .i64 a1, .int .i64 a2, .int .i64 a3, .sl (encL EIIIIIIII a4) a4.length]), (33, .row 38 2 (encL EILLIIIIIEE v7))], 64⟩ ∧ s_SimulatePrefix_l1 a4 a5 n v6 v7 = some r) FU ?_ ?_ ?_
   ·exact AC ⟨_, _, rfl, h⟩ [(32, some 64), (33, some 2192)] [] hρ
   ·rintro S ⟨_, _, _, h⟩; rw [s_SimulatePrefix_l1] at h; cases h
   ·rintro n1 S ⟨v6, v7, rfl, h⟩; rw [s_SimulatePrefix_l1] at h; refine AW_seq ?_; refine AJ (fun S => ∃ (v8 : Bool), S = ⟨mkT [(1, .int .i64 a5), (2, .ptr 32 0), (6, .own 33 v7.length), (7, .int .i64 v6), (29, .bool v8)], mkR [(32, .box 57 [.int .i64 a1, .int .i64 a2, .int .i64 a3, .sl (encL EIIIIIIII a4) a4.length]), (33, .row 38 2 (encL EILLIIIIIEE v7))], 64⟩ ∧ s_SimulatePrefix_j4 a4 v6 v7 (s_SimulatePrefix_l1 a4 a5 n1) v8 = some r) hN ?_ ?_
    ·intro K hK; obtain ⟨x7, hv3, h⟩ := bO_inv h; rcases br_inv hv3 with ⟨hc8, hv3⟩ | ⟨hc8, hv3⟩
     ·cases hv3; simp only [EV, seval, hc8]; refine hK _ _ _ (show cutK _ _ _ from cutL ⟨_, rfl, h⟩ (Le_can [(32, some 32), (33, some 33)] [] hρ (by kernel_rfl) ?_ ?_))
      ·simp only [AL, EV, seval, hc8]
      ·simp only [AL, EV, seval, hc8]
     ·cases hv3; simp only [EV, seval, hc8]; refine hK _ _ _ (show cutK _ _ _ from cutL ⟨_, rfl, h⟩ (Le_can [(32, some 32), (33, some 33)] [] hρ (by kernel_rfl) ?_ ?_))
      ·simp only [AL, EV, seval, hc8]
      ·simp only [AL, EV, seval, hc8]
    ·rintro S ⟨v8, rfl, h⟩; unfold s_SimulatePrefix_j4 at h; refine AB h (fun hc9 h => ?_) fun hc9 h => ?_
     ·refine AW_skip (AK ?_); refine AW_seq ?_; refine AW_block ?_; refine AW_le (Le_can (lt := [(1, .int .i64 a5), (2, .ptr 32 0), (6, .sl (encL EILLIIIIIEE v7) v7.length), (7, .int .i64 v6)]) (lr := [(32, .box 57 [.int .i64 a1, .int .i64 a2, .int .i64 a3, .sl (encL EIIIIIIII a4) a4.length])]) (b' := 80) [(32, some 32)] [33] hρ (by kernel_rfl) ?_ ?_) ?_
      ·simp only [AL, EV, seval]
      ·simp only [AL, EV, seval]
      refine AR hN fun K hK => ?_; obtain ⟨q3, h9, h⟩ := bO_inv h; obtain ⟨⟨h10a, h10b⟩, h10c⟩ := geti_E EIIIIIIIIl h9; (try simp only [EV, seval] at h10c); obtain ⟨x8, h11, h⟩ := bO_inv h; simp only [EV, seval, h10a, h10b, h10c]; refine rC_p (s_l23Step_ok h11) (by simp only [AL, EV, seval, h10a, h10b, h10c]) (le_d rfl) (site_1 (by simp only [EV, seval])) ?_; simp only [EV, seval, h10a, h10b, h10c]; refine hK _ _ _ ?_; clear hK K; refine AW_seq ?_; refine AN hN ?_; refine AB h (fun hc10 h => ?_) fun hc10 h => ?_
      ·refine AN hN ?_; injection h with h; subst h; exact AX (b' := 64) [(4, .own 32 0), (5, .bool false)] [(32, .row 38 2 (encL EILLIIIIIEE ([])))] [(32, some 2128)] [] hρ (EQ [32])
      ·refine AW_skip (AK ?_); refine AS hN fun K hK => ?_; simp only [EV, seval]; refine hK _ _ _ (show AW _ _ _ _ _ from ?_); refine AS hN fun K hK => ?_; simp only [EV, seval]; exact hK _ _ _ (AC ⟨_, _, rfl, h⟩ [(32, some 32), (33, some 176)] [] hρ)
     ·exact AW_exit (AC ⟨_, rfl, h⟩ [(32, some 33)] [] hρ)
  ·rintro S ⟨v9, rfl, h⟩; unfold s_SimulatePrefix_j1 at h; refine AN hN ?_; injection h with h; subst h; exact AX (b' := 64) [(4, .own 32 v9.length), (5, .bool true)] [(32, .row 38 2 (encL EILLIIIIIEE v9))] [(32, some 32)] [] hρ (EQ [32])
/- spec.Simulate -/
def s_Simulate (a1 a2 a3 : Int) (a4 : List (Int × Int × Int × Int × Int × Int × Int × Int)) : Option (List (Int × List (LF)) × Bool) :=
  bO (s_SimulatePrefix a1 a2 a3 a4 ((a4.length : Int))) fun x1 => some (x1.1, x1.2)
theorem s_Simulate_ok {a1 a2 a3 : Int} {a4 : List (Int × Int × Int × Int × Int × Int × Int × Int)} {r : List (Int × List (LF)) × Bool} (h : s_Simulate a1 a2 a3 a4 = some r) :
    Spec Try.prog 19 [.agg [.int .i64 a1, .int .i64 a2, .int .i64 a3, .sl (encL EIIIIIIII a4) a4.length]] [] (.tup [.own 0 r.1.length, .bool r.2]) [.row 38 2 (encL EILLIIIIIEE r.1)] := by
 unfold s_Simulate at h; refine SO Try.func19 rfl Try.ntmps19 fun C hN hρ => ?_; simp only [st0, tmps0, Nat.zero_add, Nat.reduceAdd]; refine AN hN ?_; refine AR hN fun K hK => ?_; obtain ⟨x1, h1, h⟩ := bO_inv h; simp only [EV, seval]; refine rC_p (s_SimulatePrefix_ok h1) (by simp only [AL, EV, seval]) (le_d rfl) (site_1 (by simp only [EV, seval])) ?_; simp only [EV, seval]; refine hK _ _ _ ?_; clear hK K; injection h with h; subst h; exact AX (b' := 64) [(2, .own 32 x1.1.length), (3, .bool x1.2)] [(32, .row 38 2 (encL EILLIIIIIEE x1.1))] [(32, some 1152)] [] hρ (EQ [32])
end Go.Proofs.Ytfjopjalhllplaa
