/- Plain law and its bridge: Conjugated. -/
import Derived.Test.YtbkkfmcjfbbkaaaKMLcj
import Derived.Test.YtbkkfmcjfbbkaaaKPvm
import Derived.Test.YtbkkfmcjfbbkaaaK10
import Derived.Test.YtbkkfmcjfbbkaaaKPd
import Derived.Test.YtbkkfmcjfbbkaaaK1
namespace Go.Proofs.Ytbkkfmcjfbbkaaa
open Go.RowKit
set_option maxRecDepth 100000
set_option linter.unusedVariables false
set_option linter.unusedSimpArgs false
theorem dConj_ok {code : List Int} (h : code.length ≤ 1048576) : Ok (s_DrawConjugatePauli code) (fun _ => True) := by
  unfold s_DrawConjugatePauli
  refine (new_ok h).bO fun c hc => (below_ok hc).bO fun x hx => ?_
  have hb := hx.1.2.1 (by omega)
  obtain ⟨n, hn, hn1⟩ := nat_of (n := IntKind.wrap .i64 (1 + x.1)) (by rw [w64 (by omega) (by omega)]; omega)
  rw [hn]
  have fin : ∀ (b : List Int) (i h p0 p1 p2 p3 : Int), CurP (b, i, h) → Ok (s_DrawConjugatePauli_j1 n b i h p0 p1 p2 p3) (fun _ => True) := by
    intro b i h p0 p1 p2 p3 hc
    unfold s_DrawConjugatePauli_j1
    exact (once_ok hc).bO fun y hy => Ok.br (fun _ => (gbent_ok hy hn1).bO fun _ _ => Ok.some trivial) (fun _ => (cliff_ok hy hn1).bO fun _ _ => Ok.some trivial)
  refine (pauli_ok hx.2).bO fun p hp => (once_ok hp.2).bO fun y hy => Ok.br (fun _ => (bent_ok hy).bO fun q hq => fin _ _ _ _ _ _ _ hq) (fun _ => fin _ _ _ _ _ _ _ hy)
theorem law_Conjugated (code : List Int) : l_FnConjugated code = some true := by
  unfold l_FnConjugated
  rw [big_eq, bO_some]
  by_cases hb : 1048576 < (code.length : Int)
  · simp only [hb, decide_true, br_true]
  simp only [hb, decide_false, br_false]
  obtain ⟨x2, e2, _⟩ := dConj_ok (code := code) (by omega)
  obtain ⟨N, x, z, p, k, a, b, c⟩ := x2
  rw [e2, bO_some]
  simp only
  rw [conj_is]
  rcases conj_all N x z p k a b c with ⟨h, hp, h1, h2, he⟩ | he
  · have hq := (led h (gA h k a b) (gB h k a b) ⟨(N, x, z, p), hp, rfl⟩)
    rw [he]
    simp only [outG, bO_some, bne_self_eq_false, br_false, beq_self_eq_true, Bool.and_self, Bool.not_true, l_FnConjugated_j1]
    by_cases h3 : 3 < N
    · rw [decide_eq_true h3]
      rfl
    · rw [decide_eq_false h3]
      unfold l_FnConjugated_j2
      have hcj := cj_gate (c := c) h (by omega) h1 h2 ⟨(N, x, z, p), hp, rfl⟩
      have hkq : kq k ≤ 1 := by unfold kq; split <;> omega
      obtain ⟨m, m1, m2, m3⟩ := s_both h (L := [(k, a, b, c)]) (K := kq k) (by omega) (fun i => gzs_bd1 (by unfold hc hc; split <;> omega) i) hcj
      generalize hQ : led h (gA h k a b) (gB h k a b) ⟨(N, x, z, p), hp, rfl⟩ = Q at *
      have hi : i_PauliMatrix Q.q.1 Q.q.2.1 Q.q.2.2.1 Q.q.2.2.2 = some (pmL Q.q) := i_pm (n := Q.q.1) (x := Q.q.2.1) (z := Q.q.2.2.1) (p := Q.q.2.2.2) Q.v
      simp only [br_false, s_gm h2, bO_some, s_pm hp, m1, hi, m2, br_true, m3, l_FnConjugated_j3]
  · rw [he]
    simp only [bO_some, bne_self_eq_false, br_false, beq_self_eq_true, Bool.and_self, Bool.not_true, l_FnConjugated_j1, Bool.not_false, br_true, l_FnConjugated_j2]
theorem law_cj (A : Option Addr) (n c : Nat) (l : List Int) (w : World) (wa : IsBytesC w A n c l) :
    Calls Try.prog 10 #[.slice A n c] w fun e w' => e = .returned (.bool true) ∧ Below w.heap.size w w' :=
  spec_calls (l_FnConjugated_ok (law_Conjugated l)) rfl (args1 (.plain (pv_bytes wa)))
end Go.Proofs.Ytbkkfmcjfbbkaaa
