/- Plain law and its bridge: NormGate. -/
import Derived.Test.YtbkkfmcjfbbkaaaMLno
import Derived.Test.YtbkkfmcjfbbkaaaPdn
import Derived.Test.YtbkkfmcjfbbkaaaBy
namespace Go.Proofs.Ytbkkfmcjfbbkaaa
open Go.RowKit
set_option maxRecDepth 100000
set_option linter.unusedVariables false
set_option linter.unusedSimpArgs false
theorem dng_ok {code : List Int} (h : code.length ≤ 1048576) : Ok (s_DrawNormalFormApplyGate code) (fun r => r.2.1.length ≤ 8 ∧ r.2.2.1.length ≤ 20) := by
  unfold s_DrawNormalFormApplyGate
  refine (new_ok h).bO fun c hc => (dnf_ok hc).bO fun n hn => (once_ok hn.2).bO fun o ho => Ok.br (fun _ => (gbent_ok (n := 1) ho (by omega)).bO fun g hg => Ok.some hn.1) (fun _ => (below_ok ho).bO fun g hg => ?_)
  rw [show s_l14One (IntKind.wrap .i64 (1 + g.1)) 0 = some (IntKind.wrap .i64 (1 + g.1), 0, 0, 0) from rfl, bO_some]
  exact Ok.some hn.1
theorem s_ints_self (l : List Int) (hl : l.length ≤ 1048576) : s_l1Ints l l = some true := by
  unfold s_l1Ints
  simp only [bne_self_eq_false, br_false]
  rw [loop_all0 (s_l1Ints_l1 l l) l.length (fun _ => true) (by omega) (fun m k hk => ?_) (some true) (fun m => ?_), all_true]
  · rfl
  · have hlt : (k : Int) < (l.length : Int) := by omega
    rw [s_l1Ints_l1, geti_lt hk, w64s hk (by omega)]
    simp only [hlt, decide_true, br_true, bO_some, bne_self_eq_false, br_false]
  · have hlt : ¬ (l.length : Int) < (l.length : Int) := by omega
    rw [s_l1Ints_l1]
    simp only [hlt, decide_false, br_false, s_l1Ints_j1]
theorem s_enf_self (y : List Int) (N : Int) (l : List Q4) (hy : y.length ≤ 1048576) (hl : l.length ≤ 1048576) : s_EqualNormalForm y N l y N l = some true := by
  unfold s_EqualNormalForm
  rw [s_ints_self y hy, bO_some]
  simp only [br_true, s_eqT N l N l hl, beq_self_eq_true, Bool.and_self, bO_some, s_EqualNormalForm_j1]
theorem law_NormGate (code : List Int) : l_FnNormGate code = some true := by
  unfold l_FnNormGate
  rw [big_eq, bO_some]
  by_cases hb : 1048576 < (code.length : Int)
  · simp only [hb, decide_true, br_true]
  simp only [hb, decide_false, br_false]
  obtain ⟨x2, e2, hx2⟩ := dng_ok (code := code) (by omega)
  obtain ⟨N, l, y, k, a, b, c⟩ := x2
  rw [e2, bO_some]
  simp only at hx2 ⊢
  obtain ⟨hl, hy⟩ := hx2
  cases hv : (NV N y l && ivg k a b c 1) with
  | false =>
    obtain ⟨h1, h2⟩ := na_no y N l k a b c (by omega) (by omega) hv
    rw [h1, h2, bO_some, bO_some]
    simp only [bne_self_eq_false, br_false, s_enf_self y N l (by omega) (by omega), bO_some, Bool.not_true, l_FnNormGate_j1, Bool.not_false, br_true]
  | true =>
    rw [Bool.and_eq_true, nv_iff] at hv
    obtain ⟨⟨v1, v2, rfl⟩, hg⟩ := hv
    obtain ⟨h1, h2, h3, h4, h5, h6⟩ := na_ok (y := y) (l := l) (by omega) v1 v2 hg
    have hg' : ivg (invK k) a b c 1 = true := by rw [inv_ivg]; exact hg
    obtain ⟨_, g2, _⟩ := na_ok (by omega) h3 h4 hg'
    have hinv : naF (invK k) a b ((naF k a b (y, l)).1, (naF k a b (y, l)).2) = (y, l) := na_inv v1 v2 hg
    rw [hinv] at g2
    have h8 := tB_len8 h4
    rw [h1, h2, bO_some, bO_some]
    have w1 : IntKind.wrap .i64 (((naF k a b (y, l)).1.length : Int) - (y.length : Int)) = ((naF k a b (y, l)).1.length : Int) - (y.length : Int) := w64 (by omega) (by omega)
    have d1 : decide ((-1) ≤ ((naF k a b (y, l)).1.length : Int) - (y.length : Int)) = true := decide_eq_true (by omega)
    have d2 : decide (((naF k a b (y, l)).1.length : Int) - (y.length : Int) ≤ 1) = true := decide_eq_true (by omega)
    simp only [bne_self_eq_false, br_false, s_enf_self (naF k a b (y, l)).1 1 (naF k a b (y, l)).2 (by omega) (by omega), bO_some, Bool.not_true, l_FnNormGate_j1, i_inv, g2, br_true, s_enf_self y 1 l (by omega) (by omega), w1, d1, d2, l_FnNormGate_j2]
theorem law_no (A : Option Addr) (n c : Nat) (l : List Int) (w : World) (wa : IsBytesC w A n c l) :
    Calls Try.prog 3 #[.slice A n c] w fun e w' => e = .returned (.bool true) ∧ Below w.heap.size w w' :=
  spec_calls (l_FnNormGate_ok (law_NormGate l)) rfl (args1 (.plain (pv_bytes wa)))
end Go.Proofs.Ytbkkfmcjfbbkaaa
