/- Plain law and its bridge: NormBack. -/
import Derived.Test.YtbkkfmcjfbbkaaaGreatKMLnb
import Derived.Test.YtbkkfmcjfbbkaaaGreatK13
import Derived.Test.YtbkkfmcjfbbkaaaGreatKPen
import Derived.Test.YtbkkfmcjfbbkaaaGreatK11
import Derived.Test.YtbkkfmcjfbbkaaaGreatK1
namespace Go.Proofs.YtbkkfmcjfbbkaaaGreat
open Go.RowKit
set_option maxRecDepth 100000
set_option linter.unusedVariables false
set_option linter.unusedSimpArgs false
theorem dnb_ok {code : List Int} (h : code.length ≤ 1048576) : Ok (s_DrawNormalFormGates code) (fun r => r.2.1.length ≤ 8 ∧ r.2.2.length ≤ 20) := by
  unfold s_DrawNormalFormGates
  exact (new_ok h).bO fun c hc => (dnf_ok hc).bO fun n hn => Ok.some hn.1
theorem law_NormBack (code : List Int) : l_FnNormBack code = some true := by
  unfold l_FnNormBack
  rw [big_eq, bO_some]
  by_cases hb : 1048576 < (code.length : Int)
  · simp only [hb, decide_true, br_true]
  simp only [hb, decide_false, br_false]
  obtain ⟨x2, e2, hx2⟩ := dnb_ok (code := code) (by omega)
  obtain ⟨N, l, y⟩ := x2
  rw [e2, bO_some]
  simp only at hx2 ⊢
  obtain ⟨hl, hy⟩ := hx2
  have hs := s_nfv y N l (by omega) (by omega)
  have hi := i_nfv y N l (by omega) (by omega)
  cases hv : NV N y l with
  | false =>
    obtain ⟨h1, h2⟩ := nfg_no (y := y) (N := N) (l := l) (by omega) (by omega) hv
    unfold NV at hv
    rw [hv] at hs hi
    rw [h1, h2, bO_some, bO_some, same_self [] (by simp), bO_some]
    simp only [Bool.not_true, br_false, hi, hs, bO_some, bne_self_eq_false, l_FnNormBack_j1, Bool.not_false, br_true]
    rfl
  | true =>
    have hv' := hv
    unfold NV at hv'
    rw [hv'] at hs hi
    rw [nv_iff] at hv
    obtain ⟨v1, v2, rfl⟩ := hv
    obtain ⟨h1, h2⟩ := nfg_fn (y := y) (by omega) v1 v2
    have hlen := nfgF_len y v2
    have hg := nfg_g1 v1 v2
    obtain ⟨c1, c2, _⟩ := cnf_ok (g := nfgF y l) (by omega) hg
    have hb : fo (nfgF y l) S0 = (y, l) := back v1 v2
    rw [hb] at c1 c2
    rw [h1, h2, bO_some, bO_some, same_self (nfgF y l) (by omega), bO_some]
    simp only [Bool.not_true, br_false, hi, hs, bO_some, bne_self_eq_false, l_FnNormBack_j1, c2, br_true, i_enf y 1 l y 1 l (by omega) (by omega), s_enf y 1 l y 1 l (by omega) (by omega), nfE_self, l_FnNormBack_j2]
theorem law_nb (A : Option Addr) (n c : Nat) (l : List Int) (w : World) (wa : IsBytesC w A n c l) :
    Calls Tryz.prog 3 #[.slice A n c] w fun e w' => e = .returned (.bool true) ∧ Below w.heap.size w w' :=
  spec_calls (l_FnNormBack_ok (law_NormBack l)) rfl (args1 (.plain (pv_bytes wa)))
end Go.Proofs.YtbkkfmcjfbbkaaaGreat
