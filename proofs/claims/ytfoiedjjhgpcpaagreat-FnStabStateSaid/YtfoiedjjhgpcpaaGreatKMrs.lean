/- Models of functions, and that the functions do what the models say; printed by a program. -/
import Derived.Test.YtfoiedjjhgpcpaaGreatK1
import Derived.Test.YtfoiedjjhgpcpaaGreatKMr
import Derived.Test.YtfoiedjjhgpcpaaGreatK5
namespace Go.Proofs.YtfoiedjjhgpcpaaGreat
open Go.RowKit
set_option maxRecDepth 100000
set_option linter.unusedVariables false
set_option linter.unusedSimpArgs false
set_option linter.defProp false
set_option maxHeartbeats 4000000
/- spec.SynthesizeTableau -/
def s_SynthesizeTableau (a1 : Int) (a2 : LQ) : Option (LQ × Bool) :=
  bO (s_ReduceTableau a1 a2) fun x1 => bO (s_l11Inverse x1.1) fun x2 => some (x2, x1.2)
theorem s_SynthesizeTableau_ok {a1 : Int} {a2 : LQ} {r : LQ × Bool} (h : s_SynthesizeTableau a1 a2 = some r) :
    Spec Tryz.prog 13 [.agg [.int .i64 a1, .sl (encL EIIII a2) a2.length]] [] (.tup [.own 0 r.1.length, .bool r.2]) [.row 79 4 (encL EIIII r.1)] := by
 unfold s_SynthesizeTableau at h; refine SO Tryz.func13 rfl Tryz.ntmps13 fun C hN hρ => ?_; simp only [st0, tmps0, Nat.zero_add, Nat.reduceAdd]; refine AN hN ?_; refine AR hN fun K hK => ?_; obtain ⟨x1, h1, h⟩ := bO_inv h; simp only [EV, seval]; refine rC_p (s_ReduceTableau_ok h1) (by simp only [AL, EV, seval]) (le_d rfl) (site_1 (by simp only [EV, seval])) ?_; simp only [EV, seval]; refine hK _ _ _ ?_; clear hK K; refine AR hN fun K hK => ?_; obtain ⟨x2, h2, h⟩ := bO_inv h; simp only [EV, seval]; refine rC_l (s_l11Inverse_ok h2) (by simp only [AL, EV, seval]) (by simp only [AL, EF, and_self]) (le_d rfl) (site_1 (by simp only [EV, seval])) ?_; simp only [EV, seval]; refine hK _ _ _ ?_; clear hK K; injection h with h; subst h; exact AX (b' := 64) [(2, .own 32 x2.length), (3, .bool x1.2)] [(32, .row 79 4 (encL EIIII x2))] [(32, some 2128)] [] hρ (EQ [32])
end Go.Proofs.YtfoiedjjhgpcpaaGreat
