/- Models of functions, and that the functions do what the models say; printed by a program. -/
import Derived.Test.YtbkkfmcjfbbkaaaGn
import Derived.Test.YtbkkfmcjfbbkaaaMi
namespace Go.Proofs.Ytbkkfmcjfbbkaaa
open Go.RowKit
set_option maxRecDepth 100000
set_option linter.unusedVariables false
set_option linter.unusedSimpArgs false
set_option linter.defProp false
/- spec.WordTableau -/
def s_WordTableau (a1 : LQ) : Option (Int × LQ × Bool) :=
  bO (s_CircuitTableau 1 a1) fun x1 => some (x1.1, x1.2.1, x1.2.2)
set_option maxHeartbeats 4000000 in
theorem s_WordTableau_ok {a1 : LQ} {r : Int × LQ × Bool} (h : s_WordTableau a1 = some r) :
    Spec Try.prog 135 [.sl (encL EIIII a1) a1.length] [] (.tup [.agg [.int .i64 r.1, .own 0 r.2.1.length], .bool r.2.2]) [.row 69 4 (encL EIIII r.2.1)] := by
 unfold s_WordTableau at h; refine spec_of Try.func135 rfl (by kernel_rfl) (by simp only [Try.ntmps135, List.length_cons, List.length_nil, Nat.reduceAdd, Nat.reduceLeDiff]) ?_; intro C hN hρ; rw [Try.ntmps135] at hN; unfold st0; simp only [tmps0, Nat.zero_add, Nat.reduceAdd]; refine AR hN fun K hK => ?_; simp only [EV, seval]; refine hK _ _ _ ?_; clear hK K; refine AR hN fun K hK => ?_; obtain ⟨x1, h1, h⟩ := bO_inv h; simp only [EV, seval]; refine rC_p (s_CircuitTableau_ok h1) (by simp only [AL, EV, seval]) (le_d rfl) (site_1 (by simp only [EV, seval])) ?_; simp only [EV, seval]; refine hK _ _ _ ?_; clear hK K; injection h with h; subst h; exact AX (b' := 64) [(2, .ptr 32 0), (3, .bool x1.2.2)] [(32, .box 27 [.int .i64 x1.1, .own 33 x1.2.1.length]), (33, .row 69 4 (encL EIIII x1.2.1))] [(32, some 64), (33, some 1120)] [] hρ (EQ [33] (by simp only [EV, Try.results135, seval]))
/- impl.WordTableau -/
def i_WordTableau (a1 : LQ) : Option (Int × LQ × Bool) :=
  bO (i_CircuitTableau 1 a1) fun x1 => some (x1.1, x1.2.1, x1.2.2)
set_option maxHeartbeats 4000000 in
theorem i_WordTableau_ok {a1 : LQ} {r : Int × LQ × Bool} (h : i_WordTableau a1 = some r) :
    Spec Try.prog 92 [.sl (encL EIIII a1) a1.length] [] (.tup [.agg [.int .i64 r.1, .own 0 r.2.1.length], .bool r.2.2]) [.row 69 4 (encL EIIII r.2.1)] := by
 unfold i_WordTableau at h; refine spec_of Try.func92 rfl (by kernel_rfl) (by simp only [Try.ntmps92, List.length_cons, List.length_nil, Nat.reduceAdd, Nat.reduceLeDiff]) ?_; intro C hN hρ; rw [Try.ntmps92] at hN; unfold st0; simp only [tmps0, Nat.zero_add, Nat.reduceAdd]; refine AR hN fun K hK => ?_; simp only [EV, seval]; refine hK _ _ _ ?_; clear hK K; refine AR hN fun K hK => ?_; obtain ⟨x1, h1, h⟩ := bO_inv h; simp only [EV, seval]; refine rC_p (i_CircuitTableau_ok h1) (by simp only [AL, EV, seval]) (le_d rfl) (site_1 (by simp only [EV, seval])) ?_; simp only [EV, seval]; refine hK _ _ _ ?_; clear hK K; refine AR hN fun K hK => ?_; simp only [EV, seval]; refine hK _ _ _ ?_; clear hK K; injection h with h; subst h; exact AX (b' := 64) [(2, .ptr 32 0), (3, .bool x1.2.2)] [(32, .box 27 [.int .i64 x1.1, .own 33 x1.2.1.length]), (33, .row 69 4 (encL EIIII x1.2.1))] [(32, some 64), (33, some 1120)] [] hρ (EQ [33] (by simp only [EV, Try.results92, seval]))
end Go.Proofs.Ytbkkfmcjfbbkaaa
