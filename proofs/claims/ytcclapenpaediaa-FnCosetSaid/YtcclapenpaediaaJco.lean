/- Plain law: Coset. -/
import Derived.Test.YtcclapenpaediaaMLco
import Derived.Test.YtcclapenpaediaaPcw
import Derived.Test.YtcclapenpaediaaPid
import Derived.Test.YtcclapenpaediaaPsg
import Derived.Test.YtcclapenpaediaaBy
namespace Go.Proofs.Ytcclapenpaediaa
open Go.RowKit
set_option maxRecDepth 100000
set_option linter.unusedVariables false
set_option linter.unusedSimpArgs false
theorem dcw_ok2 {code : List Int} (h : code.length ≤ 1048576) : Ok (s_DrawCliffordWord code) (fun r => r.2.length ≤ 8) := by
  unfold s_DrawCliffordWord
  refine (new_ok h).bO fun c hc => (once_ok hc).bO fun o ho => Ok.br (fun _ => (dbent_ok ho).bO fun t ht => Ok.some ht.1) (fun _ => ?_)
  unfold s_l29Cliff
  refine Ok.bO (Q := fun r => (∀ g ∈ r.1, GateOk 1 g) ∧ (r.1.length : Int) ≤ 8) ((dcirc_ok (n := 1) (most := 8) ho (by omega) (by omega)).bO fun g hg => Ok.some ⟨hg.1.2.1, hg.1.2.2⟩) fun g hg => ?_
  unfold s_WordTableau
  have h1 : 1 ≤ (1 : Int) ∧ (1 : Int) ≤ 4 := by omega
  rw [circ_ok h1 g.1 (by omega) hg.1, bO_some, bO_some]
  refine Ok.some ?_
  show (runG h1 g.1 (idT 1)).length ≤ 8
  rw [runG_len, (id_ok h1).2.2.2]
  decide
def cosOk (p : List Q4 × List Q4) : Bool := match i_CosetIndex 1 p.2 with
  | some k => decide (0 ≤ k) && ((bO (i_CosetRepresentative k) fun x7 => bO (i_WordTableau x7) fun x8 => l_FnCoset_l1 k x7 x8 (p.1, true) FU (IntKind.wrap .i64 (((x7.length : Int)) - 1)) ([] : List Q4)) == some true)
  | none => false
theorem cos_fin : (ZL.all cosOk) = true := by decide +kernel
theorem law_Coset (code : List Int) : l_FnCoset code = some true := by
  unfold l_FnCoset
  rw [big_eq, bO_some]
  by_cases hb : 1048576 < (code.length : Int)
  · simp only [hb, decide_true, br_true]
  simp only [hb, decide_false, br_false]
  unfold s_DrawCosetIndex
  obtain ⟨x2, e2, hx2⟩ := dcw_ok2 (code := code) (by omega)
  obtain ⟨N, l⟩ := x2
  rw [e2, bO_some, bO_some]
  simp only at hx2 ⊢
  obtain ⟨k, hs, hi⟩ := coset_eq N l (by omega)
  rw [hi, hs, bO_some, bO_some]
  simp only [bne_self_eq_false, br_false, bO_some, l_FnCoset_j1]
  by_cases hk : k < 0
  · simp only [hk, decide_true, br_true, hs, bO_some, beq_self_eq_true]
  · have hv : N = 1 ∧ tB 1 l = true := by
      by_cases hN : N = 1
      · subst hN
        refine ⟨rfl, ?_⟩
        rcases Bool.eq_false_or_eq_true (tB 1 l) with ht | ht
        · exact ht
        · exfalso
          unfold s_CosetIndex at hs
          rw [s_tab 1 l (by omega), ht, bO_some] at hs
          simp only [Bool.not_false, br_true, bO_some, s_CosetIndex_j1, Option.some.injEq] at hs
          omega
      · exfalso
        have hne : (N != 1) = true := by simpa using hN
        unfold s_CosetIndex at hs
        rw [s_tab N l (by omega), bO_some] at hs
        cases ht : tB N l <;> rw [ht] at hs <;> simp only [Bool.not_true, Bool.not_false, br_true, br_false, bO_some, hne, s_CosetIndex_j1, Option.some.injEq] at hs <;> omega
    obtain ⟨rfl, ht⟩ := hv
    obtain ⟨p, h1, rfl, h3⟩ := cwF_ok ht
    have e := List.all_eq_true.1 cos_fin p h1
    unfold cosOk at e
    rw [hi] at e
    simp only [Bool.and_eq_true, beq_iff_eq] at e
    obtain ⟨_, e⟩ := e
    simp only [hk, decide_false, br_false]
    obtain ⟨x7, g1, e⟩ := bO_inv e
    obtain ⟨x8, g2, e⟩ := bO_inv e
    rw [g1, bO_some, g2, bO_some, i_cw, bO_some, h3]
    exact e
theorem law_cosetl (A : Option Addr) (n c : Nat) (l : List Int) (w : World) (wa : IsBytesC w A n c l) :
    Calls Try.prog 6 #[.slice A n c] w fun e w' => e = .returned (.bool true) ∧ Below w.heap.size w w' :=
  spec_calls (l_FnCoset_ok (law_Coset l)) rfl (args1 (.plain (pv_bytes wa)))
end Go.Proofs.Ytcclapenpaediaa
