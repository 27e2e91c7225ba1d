/- Models of functions, and that the functions do what the models say; printed by a program. -/
import Derived.Test.YtfoiedjjhgpcpaaK1
import Derived.Test.YtfoiedjjhgpcpaaK6b
import Derived.Test.YtfoiedjjhgpcpaaK7
namespace Go.Proofs.Ytfoiedjjhgpcpaa
open Go.RowKit
set_option maxRecDepth 100000
set_option linter.unusedVariables false
set_option linter.unusedSimpArgs false
set_option linter.defProp false
set_option maxHeartbeats 4000000
/- laws.FnExactIsStabilizedBy -/
def l_FnExactIsStabilizedBy (a1 : Int) (a2 : Int) (a3 : Int) (a4 : Int) (a5 : List (Int × Int × Int × Int × Int)) : Option Bool :=
  bO (l_szDOmegaS a5 1048576) fun x1 => br (decide (x1 < 0)) (some true) (bO (l_toPauli a1 a2 a3 a4) fun x2 => bO (l_toDOmegaS a5) fun x3 => bO (s_IsStabilizedBy x2.1 x2.2.1 x2.2.2.1 x2.2.2.2 x3) fun x4 => bO (l_toDOmegaS a5) fun x5 => bO (l_toPauli a1 a2 a3 a4) fun x6 => bO (i_IsStabilizedBy x6.1 x6.2.1 x6.2.2.1 x6.2.2.2 x5) fun x7 => br (x7 != x4) (some false) (bO (l_toDOmegaS a5) fun x8 => bO (l_eqDOmegaS x5 x8) fun x9 => br (!x9) (some false) (some true)))
theorem l_FnExactIsStabilizedBy_ok {a1 : Int} {a2 : Int} {a3 : Int} {a4 : Int} {a5 : List (Int × Int × Int × Int × Int)} {r : Bool} (h : l_FnExactIsStabilizedBy a1 a2 a3 a4 a5 = some r) :
    Spec Try.prog 3 [.agg [.int .i64 a1, .int .i64 a2, .int .i64 a3, .int .i64 a4], .sl (encL EIIIII a5) a5.length] [] (.bool r) [] := by
 unfold l_FnExactIsStabilizedBy at h; refine SO Try.func3 rfl Try.ntmps3 fun C hN hρ => ?_; simp only [st0, tmps0, Nat.zero_add, Nat.reduceAdd]; refine AR hN fun K hK => ?_; simp only [EV, seval]; refine hK _ _ _ ?_; clear hK K; refine AR hN fun K hK => ?_; simp only [EV, seval]; refine hK _ _ _ ?_; clear hK K; refine AR hN fun K hK => ?_; obtain ⟨x1, h1, h⟩ := bO_inv h; simp only [EV, seval]; refine CP (l_szDOmegaS_ok h1) ?_; simp only [EV, seval]; refine hK _ _ _ ?_; clear hK K; refine AW_seq ?_; refine AR hN fun K hK => ?_; simp only [EV, seval]; refine hK _ _ _ ?_; clear hK K; refine AB h (fun hc1 h => ?_) fun hc1 h => ?_
 ·refine AR hN fun K hK => ?_; simp only [EV, seval]; refine hK _ _ _ ?_; clear hK K; injection h with h; subst h; exact AX (b' := 64) [(4, .bool true)] [] [] [] hρ (EQ [] (by simp only [EV, Try.results3, seval]))
 ·refine AW_skip (AK ?_); refine AR hN fun K hK => ?_; obtain ⟨x2, h2, h⟩ := bO_inv h; simp only [EV, seval]; refine CP (l_toPauli_ok h2) ?_; obtain ⟨x3, h3, h⟩ := bO_inv h; simp only [EV, seval]; refine rC_p (l_toDOmegaS_ok h3) (by simp only [AL, EV, seval]) (le_d rfl) (site_1 (by simp only [EV, seval])) ?_; obtain ⟨x4, h4, h⟩ := bO_inv h; simp only [EV, seval]; refine rC_l (s_IsStabilizedBy_ok h4) (by simp only [AL, EV, seval]) (by simp only [AL, EF, and_self]) (le_d rfl) (no_j rfl) ?_; simp only [EV, seval]; refine hK _ _ _ ?_; clear hK K; refine AR hN fun K hK => ?_; obtain ⟨x5, h5, h⟩ := bO_inv h; simp only [EV, seval]; refine rC_p (l_toDOmegaS_ok h5) (by simp only [AL, EV, seval]) (le_d rfl) (site_1 (by simp only [EV, seval])) ?_; simp only [EV, seval]; refine hK _ _ _ ?_; clear hK K; refine AR hN fun K hK => ?_; obtain ⟨x6, h6, h⟩ := bO_inv h; simp only [EV, seval]; refine CP (l_toPauli_ok h6) ?_; obtain ⟨x7, h7, h⟩ := bO_inv h; simp only [EV, seval]; refine rC_l (i_IsStabilizedBy_ok h7) (by simp only [AL, EV, seval]) (by simp only [AL, EF, and_self]) (le_d rfl) (no_j rfl) ?_; simp only [EV, seval]; refine hK _ _ _ ?_; clear hK K; refine AW_seq ?_; refine AR hN fun K hK => ?_; simp only [EV, seval]; refine hK _ _ _ ?_; clear hK K; refine AB h (fun hc2 h => ?_) fun hc2 h => ?_
  ·refine AR hN fun K hK => ?_; simp only [EV, seval]; refine hK _ _ _ ?_; clear hK K; injection h with h; subst h; exact AX (b' := 64) [(4, .bool false)] [] [] [] hρ (EQ [] (by simp only [EV, Try.results3, seval]))
  ·refine AW_skip (AK ?_); refine AW_seq ?_; refine AR hN fun K hK => ?_; obtain ⟨x8, h8, h⟩ := bO_inv h; simp only [EV, seval]; refine rC_p (l_toDOmegaS_ok h8) (by simp only [AL, EV, seval]) (le_d rfl) (site_1 (by simp only [EV, seval])) ?_; obtain ⟨x9, h9, h⟩ := bO_inv h; simp only [EV, seval]; refine rC_l (l_eqDOmegaS_ok h9) (by simp only [AL, EV, seval]) (by simp only [AL, EF, and_self]) (le_d rfl) (no_j rfl) ?_; simp only [EV, seval]; refine hK _ _ _ ?_; clear hK K; refine AB h (fun hc3 h => ?_) fun hc3 h => ?_
   ·refine AR hN fun K hK => ?_; simp only [EV, seval]; refine hK _ _ _ ?_; clear hK K; injection h with h; subst h; exact AX (b' := 64) [(4, .bool false)] [] [] [] hρ (EQ [] (by simp only [EV, Try.results3, seval]))
   ·refine AW_skip (AK ?_); refine AR hN fun K hK => ?_; simp only [EV, seval]; refine hK _ _ _ ?_; clear hK K; injection h with h; subst h; exact AX (b' := 64) [(4, .bool true)] [] [] [] hρ (EQ [] (by simp only [EV, Try.results3, seval]))
end Go.Proofs.Ytfoiedjjhgpcpaa
