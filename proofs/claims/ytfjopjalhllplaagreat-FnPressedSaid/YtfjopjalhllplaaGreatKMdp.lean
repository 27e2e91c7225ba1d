/- Models of functions, and that the functions do what the models say; printed by a program. -/
import Derived.Test.YtfjopjalhllplaaGreatK1
import Derived.Test.YtfjopjalhllplaaGreatKMk
import Derived.Test.YtfjopjalhllplaaGreatKMbn
namespace Go.Proofs.YtfjopjalhllplaaGreat
open Go.RowKit
set_option maxRecDepth 100000
set_option linter.unusedVariables false
set_option linter.unusedSimpArgs false
set_option linter.defProp false
set_option maxHeartbeats 4000000
/- spec.DrawShortenRuns -/
def s_DrawShortenRuns (a1 : List Int) : Option (LQ × Int) :=
  bO (s_l1New a1) fun x1 => bO (s_l11Bent x1.1 x1.2.1 x1.2.2 14) fun x2 => some (x2.2.1, x2.1)
theorem s_DrawShortenRuns_ok {a1 : List Int} {r : LQ × Int} (h : s_DrawShortenRuns a1 = some r) :
    Spec Tryz.prog 14 [.sl (encL EB a1) a1.length] [] (.tup [.own 0 r.1.length, .int .i64 r.2]) [.row 48 4 (encL EIIII r.1)] := by
 unfold s_DrawShortenRuns at h; refine SO Tryz.func14 rfl Tryz.ntmps14 fun C hN hρ => ?_; simp only [st0, tmps0, Nat.zero_add, Nat.reduceAdd]; refine AN hN ?_; refine AR hN fun K hK => ?_; obtain ⟨x1, h1, h⟩ := bO_inv h; simp only [EV, seval]; refine rC_p (s_l1New_ok h1) (by simp only [AL, EV, seval]) (le_d rfl) (site_1 (by simp only [EV, seval])) ?_; simp only [EV, seval]; refine hK _ _ _ ?_; clear hK K; refine AR hN fun K hK => ?_; obtain ⟨x2, h2, h⟩ := bO_inv h; simp only [EV, seval]; refine rR_p [1104] (s_l11Bent_ok h2) (by simp only [AL, EV, seval]) (by simp only [AL, EV, seval]) (by kernel_rfl) (by simp only [EV, solidO, List.mem_cons, List.not_mem_nil, or_false, forall_eq_or_imp, forall_eq, seval]) (le_d rfl) (le_d rfl) (site_1 (by simp only [EV, seval])) ?_; simp only [EV, seval]; refine hK _ _ _ ?_; clear hK K; refine AN hN ?_; injection h with h; subst h; exact AX (b' := 64) [(2, .own 32 x2.2.1.length), (3, .int .i64 x2.1)] [(32, .row 48 4 (encL EIIII x2.2.1))] [(32, some 2128)] [] hρ (EQ [32])
end Go.Proofs.YtfjopjalhllplaaGreat
