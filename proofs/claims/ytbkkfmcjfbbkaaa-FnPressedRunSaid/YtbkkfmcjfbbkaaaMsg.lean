/- Models of functions, and that the functions do what the models say; printed by a program. -/
import Derived.Test.YtbkkfmcjfbbkaaaGn
namespace Go.Proofs.Ytbkkfmcjfbbkaaa
open Go.RowKit
set_option maxRecDepth 100000
set_option linter.unusedVariables false
set_option linter.unusedSimpArgs false
set_option linter.defProp false
/- laws.sameGates -/
def l_sameGates_j1 : Option Bool :=
  some true
def l_sameGates_l1 (a1 : LQ) (a2 : LQ) : Nat → Int → Option Bool
  | 0, _ => none
  | n1 + 1, v2 =>
  br (decide (v2 < ((a1.length : Int)))) (bO (geti a1 v2) fun q5 => bO (geti a2 v2) fun q6 => br (!((q5.1 == q6.1) && ((q5.2.1 == q6.2.1) && ((q5.2.2.1 == q6.2.2.1) && (q5.2.2.2 == q6.2.2.2))))) (some false) ((l_sameGates_l1 a1 a2 n1) (IntKind.wrap .i64 (v2 + 1)))) (l_sameGates_j1)
def l_sameGates (a1 : LQ) (a2 : LQ) : Option Bool :=
  br (((a1.length : Int)) != ((a2.length : Int))) (some false) (l_sameGates_l1 a1 a2 FU 0)
set_option maxHeartbeats 4000000 in
theorem l_sameGates_ok {a1 : LQ} {a2 : LQ} {r : Bool} (h : l_sameGates a1 a2 = some r) :
    Spec Try.prog 25 [.sl (encL EIIII a1) a1.length, .sl (encL EIIII a2) a2.length] [] (.bool r) [] := by
 unfold l_sameGates at h; refine spec_of Try.func25 rfl (by kernel_rfl) (by simp only [Try.ntmps25, List.length_cons, List.length_nil, Nat.reduceAdd, Nat.reduceLeDiff]) ?_; intro C hN hρ; rw [Try.ntmps25] at hN; unfold st0; simp only [tmps0, Nat.zero_add, Nat.reduceAdd]; refine AR hN fun K hK => ?_; simp only [EV, seval]; refine hK _ _ _ ?_; clear hK K; refine AW_seq ?_; refine AR hN fun K hK => ?_; simp only [EV, seval]; refine hK _ _ _ ?_; clear hK K; refine AW_condK (a := .bool (((a1.length : Int)) != ((a2.length : Int)))) (by simp only [EV, seval]) (brK h (fun hc1 h => ?_) (fun hc1 h => ?_))
 ·refine AR hN fun K hK => ?_; simp only [EV, seval]; refine hK _ _ _ ?_; clear hK K; injection h with h; subst h; exact AX (b' := 64) [(4, .bool false)] [] [] [] hρ (EQ [] (by simp only [EV, Try.results25, seval]))
 ·refine AW_skip (AK ?_); refine AW_cutK (fun S => S = ⟨mkT [], mkR [], 64⟩ ∧ l_sameGates_j1 = some r) ?_ ?_
  ·refine AR hN fun K hK => ?_; simp only [EV, seval]; refine hK _ _ _ ?_; clear hK K; refine AW_block ?_; refine AW_loopF (fun n S => ∃ (v2 : Int), S = ⟨mkT [(0, .sl (encL EIIII a1) a1.length), (1, .sl (encL EIIII a2) a2.length), (5, .int .i64 v2)], mkR [], 64⟩ ∧ l_sameGates_l1 a1 a2 n v2 = some r) FU ?_ ?_ ?_
   ·refine cutL ⟨_, rfl, h⟩ (Le_can [] [] hρ (by kernel_rfl) ?_ ?_)
    ·simp only [AL, EV, seval]
    ·simp only [AL, EV, seval]
   ·rintro S ⟨_, _, h⟩; rw [l_sameGates_l1] at h; cases h
   ·rintro n1 S ⟨v2, rfl, h⟩; rw [l_sameGates_l1] at h; refine AW_seq ?_; refine AR hN fun K hK => ?_; simp only [EV, seval]; refine hK _ _ _ ?_; clear hK K; refine AW_condK (a := .bool (decide (v2 < ((a1.length : Int))))) (by simp only [EV, seval]) (brK h (fun hc6 h => ?_) (fun hc6 h => ?_))
    ·refine AW_skip (AK ?_); refine AW_seq ?_; refine AW_block ?_; refine AR hN fun K hK => ?_; obtain ⟨q5, h9, h⟩ := bO_inv h; obtain ⟨⟨h10a, h10b⟩, h10c⟩ := geti_E EIIIIl h9; (try simp only [EV, seval] at h10c); obtain ⟨q6, h11, h⟩ := bO_inv h; obtain ⟨⟨h12a, h12b⟩, h12c⟩ := geti_E EIIIIl h11; (try simp only [EV, seval] at h12c); simp only [EV, seval, h10a, h10b, h10c, h12a, h12b, h12c]; refine hK _ _ _ ?_; clear hK K; refine AW_condK (a := .bool (!((q5.1 == q6.1) && ((q5.2.1 == q6.2.1) && ((q5.2.2.1 == q6.2.2.1) && (q5.2.2.2 == q6.2.2.2)))))) (by simp only [EV, seval, h10a, h10b, h10c, h12a, h12b, h12c]) (brK h (fun hc7 h => ?_) (fun hc7 h => ?_))
     ·refine AR hN fun K hK => ?_; simp only [EV, seval]; refine hK _ _ _ ?_; clear hK K; injection h with h; subst h; exact AX (b' := 64) [(4, .bool false)] [] [] [] hρ (EQ [] (by simp only [EV, Try.results25, seval]))
     ·refine AW_skip (AK ?_); refine AS hN fun K hK => ?_; simp only [EV, seval]; exact hK _ _ _ (AC ⟨_, rfl, h⟩ [] [] hρ)
    ·refine AW_exit (show cutK _ _ _ from cutL ⟨rfl, h⟩ (Le_can [] [] hρ (by kernel_rfl) ?_ ?_))
     ·simp only [AL, EV, seval]
     ·simp only [AL, EV, seval]
  ·rintro S ⟨rfl, h⟩; unfold l_sameGates_j1 at h; refine AR hN fun K hK => ?_; simp only [EV, seval]; refine hK _ _ _ ?_; clear hK K; injection h with h; subst h; exact AX (b' := 64) [(4, .bool true)] [] [] [] hρ (EQ [] (by simp only [EV, Try.results25, seval]))
end Go.Proofs.Ytbkkfmcjfbbkaaa
