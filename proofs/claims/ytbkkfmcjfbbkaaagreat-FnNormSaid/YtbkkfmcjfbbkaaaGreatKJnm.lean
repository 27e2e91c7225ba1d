/- Plain law and its bridge: Norm. -/
import Derived.Test.YtbkkfmcjfbbkaaaGreatKMLnm
import Derived.Test.YtbkkfmcjfbbkaaaGreatK18
import Derived.Test.YtbkkfmcjfbbkaaaGreatK1
namespace Go.Proofs.YtbkkfmcjfbbkaaaGreat
open Go.RowKit
set_option maxRecDepth 100000
set_option linter.unusedVariables false
set_option linter.unusedSimpArgs false
theorem law_Norm (code : List Int) : l_FnNorm code = some true := by
  unfold l_FnNorm
  rw [big_eq, bO_some]
  by_cases hb : 1048576 < (code.length : Int)
  · simp only [hb, decide_true, br_true]
  simp only [hb, decide_false, br_false]
  obtain ⟨g, e2, hg⟩ := dcn_ok (code := code) (by omega)
  rw [e2, bO_some]
  by_cases hG : ∀ q ∈ g, G1 q
  · obtain ⟨c1, c2, c3, c4, c5⟩ := cnf_ok (by omega) hG
    have hlen := nf_len hG (by omega)
    have htc : tcF g ≤ g.length + g.length := by have := cnt_le 7 g; have := cnt_le 8 g; unfold tcF; omega
    have hn8 := (tB_inv c4).2.1
    obtain ⟨t1, t2⟩ := tc_nfg (fo g S0).1 c4
    obtain ⟨n1, n2⟩ := nfg_fn (y := (fo g S0).1) (by omega) c3 c4
    have nl := nfgF_len (fo g S0).1 c4
    have hcg := hc_le g
    obtain ⟨r, r1, r2⟩ := l_ap (n := 1) (by omega) (A := nfgF (fo g S0).1 (fo g S0).2) (B := g) (by omega) (by omega) (nfg_g1 c3 c4) hG (by omega) (by omega)
    have hr : r.2 = true := r2.2 (nf_sim hG (by omega))
    have hv : ((List.range (fo g S0).1.length).all (syB (fo g S0).1) && (tB 1 (fo g S0).2 && true)) = true := by rw [(sv_iff _).2 c3, c4]; rfl
    have hx : (((fo g S0).1.length : Nat) : Int) == (((fo g S0).1.length : Nat) : Int) := by simp
    have hle : decide (((fo g S0).1.length : Int) ≤ ((tcF g : Nat) : Int)) = true := decide_eq_true (by omega)
    rw [c1, c2, bO_some, bO_some]
    simp only [bne_self_eq_false, br_false, s_enf _ _ _ _ _ _ (show (fo g S0).1.length ≤ 1048576 by omega) (show (fo g S0).2.length ≤ 1048576 by omega), nfE_self, bO_some, Bool.not_true, l_FnNorm_j1, n2, r1, hr, br_true, i_nfv _ _ _ (show (fo g S0).1.length ≤ 1048576 by omega) (show (fo g S0).2.length ≤ 1048576 by omega), hv,
      l_tc (nfgF (fo g S0).1 (fo g S0).2) (by omega), t1, beq_self_eq_true, l_tc g (by omega), hle, l_FnNorm_j2]
  · obtain ⟨c1, c2⟩ := cnf_no (g := g) (by omega) hG
    rw [c1, c2, bO_some, bO_some]
    have hs := s_enf [] 0 [] [] 0 [] (by simp) (by simp)
    simp only [bne_self_eq_false, br_false, hs, nfE_self, bO_some, Bool.not_true, l_FnNorm_j1, Bool.not_false, br_true]
    rfl
theorem law_nm (A : Option Addr) (n c : Nat) (l : List Int) (w : World) (wa : IsBytesC w A n c l) :
    Calls Tryz.prog 4 #[.slice A n c] w fun e w' => e = .returned (.bool true) ∧ Below w.heap.size w w' :=
  spec_calls (l_FnNorm_ok (law_Norm l)) rfl (args1 (.plain (pv_bytes wa)))
end Go.Proofs.YtbkkfmcjfbbkaaaGreat
