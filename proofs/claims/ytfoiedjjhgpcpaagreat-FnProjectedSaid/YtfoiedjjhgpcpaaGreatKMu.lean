/- Models of functions, and that the functions do what the models say; printed by a program. -/
import Derived.Test.YtfoiedjjhgpcpaaGreatK1
namespace Go.Proofs.YtfoiedjjhgpcpaaGreat
open Go.RowKit
set_option maxRecDepth 100000
set_option linter.unusedVariables false
set_option linter.unusedSimpArgs false
set_option linter.defProp false
set_option maxHeartbeats 4000000
/- spec.l14One -/
def s_l14One (a1 : Int) (a2 : Int) : Option (Int × Int × Int × Int) :=
  some (a1, a2, 0, 0)
theorem s_l14One_ok {a1 : Int} {a2 : Int} {r : Int × Int × Int × Int} (h : s_l14One a1 a2 = some r) :
    Spec Tryz.prog 119 [.int .i64 a1, .int .i64 a2] [] (.agg [.int .i64 r.1, .int .i64 r.2.1, .int .i64 r.2.2.1, .int .i64 r.2.2.2]) [] := by
 unfold s_l14One at h; refine SO Tryz.func119 rfl Tryz.ntmps119 fun C hN hρ => ?_; simp only [st0, tmps0, Nat.zero_add, Nat.reduceAdd]; refine AR hN fun K hK => ?_; simp only [EV, seval]; refine hK _ _ _ ?_; clear hK K; refine AR hN fun K hK => ?_; simp only [EV, seval]; refine hK _ _ _ ?_; clear hK K; injection h with h; subst h; exact AX (b' := 64) [(4, .ptr 32 0)] [(32, .box 79 [.int .i64 a1, .int .i64 a2, .int .i64 0, .int .i64 0])] [(32, some 64)] [] hρ (EQ [] (by simp only [EV, Tryz.results119, seval]))
/- laws.big -/
def l_big (a1 : List Int) : Option Bool :=
  some (decide (1048576 < ((a1.length : Int))))
theorem l_big_ok {a1 : List Int} {r : Bool} (h : l_big a1 = some r) :
    Spec Tryz.prog 5 [.sl (encL EB a1) a1.length] [] (.bool r) [] := by
 unfold l_big at h; refine SO Tryz.func5 rfl Tryz.ntmps5 fun C hN hρ => ?_; simp only [st0, tmps0, Nat.zero_add, Nat.reduceAdd]; refine AR hN fun K hK => ?_; simp only [EV, seval]; refine hK _ _ _ ?_; clear hK K; refine AR hN fun K hK => ?_; simp only [EV, seval]; refine hK _ _ _ ?_; clear hK K; injection h with h; subst h; exact AX (b' := 64) [(2, .bool (decide (1048576 < ((a1.length : Int)))))] [] [] [] hρ (EQ [] (by simp only [EV, Tryz.results5, seval]))
/- spec.InverseGate -/
def s_InverseGate_j1 (a2 : Int) (a3 : Int) (a4 : Int) (v1 : Int) : Option (Int × Int × Int × Int) :=
  some (v1, a2, a3, a4)
def s_InverseGate (a1 : Int) (a2 : Int) (a3 : Int) (a4 : Int) : Option (Int × Int × Int × Int) :=
  br (a1 == 5) (s_InverseGate_j1 a2 a3 a4 6) (br (a1 == 6) (s_InverseGate_j1 a2 a3 a4 5) (br (a1 == 7) (s_InverseGate_j1 a2 a3 a4 8) (br (a1 == 8) (s_InverseGate_j1 a2 a3 a4 7) (s_InverseGate_j1 a2 a3 a4 a1))))
theorem s_InverseGate_ok {a1 : Int} {a2 : Int} {a3 : Int} {a4 : Int} {r : Int × Int × Int × Int} (h : s_InverseGate a1 a2 a3 a4 = some r) :
    Spec Tryz.prog 97 [.agg [.int .i64 a1, .int .i64 a2, .int .i64 a3, .int .i64 a4]] [] (.agg [.int .i64 r.1, .int .i64 r.2.1, .int .i64 r.2.2.1, .int .i64 r.2.2.2]) [] := by
 unfold s_InverseGate at h; refine SO Tryz.func97 rfl Tryz.ntmps97 fun C hN hρ => ?_; simp only [st0, tmps0, Nat.zero_add, Nat.reduceAdd]; refine AR hN fun K hK => ?_; simp only [EV, seval]; refine hK _ _ _ ?_; clear hK K; refine AW_cutK (fun S => ∃ (v1 : Int), S = ⟨mkT [(1, .ptr 32 0), (2, .ptr 33 0)], mkR [(32, .box 79 [.int .i64 v1, .int .i64 a2, .int .i64 a3, .int .i64 a4]), (33, .box 79 [.int .i64 0, .int .i64 0, .int .i64 0, .int .i64 0])], 64⟩ ∧ s_InverseGate_j1 a2 a3 a4 v1 = some r) ?_ ?_
 ·refine AR hN fun K hK => ?_; simp only [EV, seval]; refine hK _ _ _ ?_; clear hK K; refine AW_block ?_; refine AR hN fun K hK => ?_; simp only [EV, seval]; refine hK _ _ _ ?_; clear hK K; refine AB h (fun hc1 h => ?_) fun hc1 h => ?_
  ·refine AS hN fun K hK => ?_; simp only [EV, seval]; exact hK _ _ _ (AC ⟨_, rfl, h⟩ [(32, some 64), (33, some 80)] [] hρ)
  ·refine AR hN fun K hK => ?_; simp only [EV, seval]; refine hK _ _ _ ?_; clear hK K; refine AB h (fun hc2 h => ?_) fun hc2 h => ?_
   ·refine AS hN fun K hK => ?_; simp only [EV, seval]; exact hK _ _ _ (AC ⟨_, rfl, h⟩ [(32, some 64), (33, some 80)] [] hρ)
   ·refine AR hN fun K hK => ?_; simp only [EV, seval]; refine hK _ _ _ ?_; clear hK K; refine AB h (fun hc3 h => ?_) fun hc3 h => ?_
    ·refine AS hN fun K hK => ?_; simp only [EV, seval]; exact hK _ _ _ (AC ⟨_, rfl, h⟩ [(32, some 64), (33, some 80)] [] hρ)
    ·refine AR hN fun K hK => ?_; simp only [EV, seval]; refine hK _ _ _ ?_; clear hK K; refine AB h (fun hc4 h => ?_) fun hc4 h => ?_
     ·refine AS hN fun K hK => ?_; simp only [EV, seval]; exact hK _ _ _ (AC ⟨_, rfl, h⟩ [(32, some 64), (33, some 80)] [] hρ)
     ·refine AW_skip (show cutK _ _ _ from cutL ⟨_, rfl, h⟩ (Le_can [(32, some 64), (33, some 80)] [] hρ (by kernel_rfl) ?_ ?_))
      ·simp only [AL, EV, seval]
      ·simp only [AL, EV, seval]
 ·rintro S ⟨v1, rfl, h⟩; unfold s_InverseGate_j1 at h; refine AR hN fun K hK => ?_; simp only [EV, seval]; refine hK _ _ _ ?_; clear hK K; injection h with h; subst h; exact AX (b' := 64) [(2, .ptr 32 0)] [(32, .box 79 [.int .i64 v1, .int .i64 a2, .int .i64 a3, .int .i64 a4])] [(32, some 33)] [] hρ (EQ [] (by simp only [EV, Tryz.results97, seval]))
end Go.Proofs.YtfoiedjjhgpcpaaGreat
