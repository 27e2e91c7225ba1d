/- 'FnExactEqualNormalForm' returns true for every input, and its arguments read afterwards as before. -/
import Derived.Test.YtpahkbajeniajaaRows
import Derived.Test.YtpahkbajeniajaaWLi
import Derived.Test.YtpahkbajeniajaaFr
import Derived.Test.YtpahkbajeniajaaFn
namespace Go.Proofs.Ytpahkbajeniajaa.fnExactEqualNormalForm
open Go.ChangeShapes Go.WideShapes Go.ChangeAt Go.RowKit Go.Joins
set_option linter.unusedVariables false


set_option maxRecDepth 100000 in
theorem lifted (os : Os) (started : os.Started) (H : Type) (enc : TypeId × Value → H) :
    ReturnsInHanded {} Try.checked os 6 .any (Rows.fnExactEqualNormalFormSpec.pre6 enc Try.prog Try.f6 Rows.fnExactEqualNormalFormRow.domain false) (Rows.fnExactEqualNormalFormSpec.post enc Try.prog Try.f6 false true false false) := by
  refine returnsInHanded_of_change (C := Try.checked) own started (by kernel_rfl) Try.func6
    (ChangeSpec.witness6 (enc := enc) (C := Try.checked) false ⟨#[], #[.agg #[.slice none 0 0, .int .i64 0, .slice none 0 0], .agg #[.slice none 0 0, .int .i64 0, .slice none 0 0]], []⟩ 8 (by kernel_rfl) (by kernel_rfl) (by kernel_rfl) (by kernel_rfl)) ?_
  intro W base args ds gs before hval0 hW hcnd _
  have hval : ∀ (j : Nat) t v, Try.f6.params[j]? = some t → args[j]? = some v → Value.okWide Try.prog W .any base t v := hval0
  have hW' := hW
  obtain ⟨p, q, hA0, hV, rfl, hfz, hnd⟩ := hW
  have hA : DataW.TrodAll enc Try.prog W 0 (fun _ => true) true Try.f6.params.toList args.toList ds p := hA0
  rw [Try.params6] at hA hval
  obtain ⟨v0, vs0, d0, ds0, p0, q0, hargs, rfl, rfl, h0, r0⟩ := trodAll_cons hA
  obtain ⟨v1, vs1, d1, ds1, p1, q1, rfl, rfl, rfl, h1, r1⟩ := trodAll_cons r0
  obtain ⟨rfl, rfl, rfl⟩ := trodAll_nil r1
  obtain rfl : args = #[v0, v1] := by cases args; simp_all
  obtain ⟨rfl, rfl⟩ := trodVars_none hV
  have k0 := h0
  have lt0 : ∀ x ∈ p0, x.block < W.heap.size := by obtain ⟨m, hm⟩ := k0; exact DataW.trod_lt m _ _ _ hm
  have k1 := h1
  have lt1 : ∀ x ∈ p1, x.block < W.heap.size := by obtain ⟨m, hm⟩ := k1; exact DataW.trod_lt m _ _ _ hm
  obtain ⟨A0, n0, c0, l0, N0, B0, m0, e0, q0, rfl, wi0, wn0, wq0⟩ := open_nf Try.underlying42 Try.underlying40 Try.underlying37 Try.underlying3 Try.underlying3 Try.underlying38 Try.underlying23 ⟨Try.underlying3, Try.underlying3, Try.underlying3, Try.underlying3⟩ ⟨rfl, rfl, rfl, rfl⟩ ⟨by kernel_rfl, by kernel_rfl, by kernel_rfl, by kernel_rfl, by kernel_rfl, by kernel_rfl, by kernel_rfl⟩ (by kernel_rfl) (hval 0 42 v0 rfl rfl) h0
  obtain ⟨A1, n1, c1, l1, N1, B1, m1, e1, q1, rfl, wi1, wn1, wq1⟩ := open_nf Try.underlying42 Try.underlying40 Try.underlying37 Try.underlying3 Try.underlying3 Try.underlying38 Try.underlying23 ⟨Try.underlying3, Try.underlying3, Try.underlying3, Try.underlying3⟩ ⟨rfl, rfl, rfl, rfl⟩ ⟨by kernel_rfl, by kernel_rfl, by kernel_rfl, by kernel_rfl, by kernel_rfl, by kernel_rfl, by kernel_rfl⟩ (by kernel_rfl) (hval 1 42 v1 rfl rfl) h1
  clear hA0 hval0
  refine (law_equalNormalForm A0 n0 c0 l0 N0 B0 m0 e0 q0 A1 n1 c1 l1 N1 B1 m1 e1 q1 W wi0 wn0 wq0 wi1 wn1 wq1).mono fun e W' ⟨he, bel⟩ => ?_
  subst he
  exact ⟨_, rfl, _, _, _, [], _, [], hW', trodAll_mk1 (shut_bool Try.underlying4 _), (trodAll_cons_mk (Below.trod laidOut (by kernel_rfl) (of_decide_eq_true (by kernel_rfl)) k0 bel lt0) (trodAll_cons_mk (Below.trod laidOut (by kernel_rfl) (of_decide_eq_true (by kernel_rfl)) k1 bel lt1) trodAll_mk0)), rfl, bel.frame _, fun h => by cases h⟩

theorem over : Rows.fnExactEqualNormalFormRow.holds Try.pinned (OpenSpec.ofChange Rows.fnExactEqualNormalFormSpec) :=
  OpenClaim.holds_of_wide 6 Try.f6 rfl rfl rfl rfl rfl rfl rfl ⟨rfl, rfl, rfl, rfl, rfl⟩ rfl rfl rfl rfl rfl (by kernel_rfl) Try.func6 (by kernel_rfl)
    (of_decide_eq_true (by kernel_rfl)) (by unfold Func.isWrapper; first | (rw [if_pos (by decide +kernel)]; kernel_rfl) | (rw [if_neg (by decide +kernel)]; exact ⟨rfl, rfl⟩))
    (fun os started H enc _ => lifted os started H enc)

theorem proved : Rows.FnExactEqualNormalFormSaid := over
#print axioms proved
end Go.Proofs.Ytpahkbajeniajaa.fnExactEqualNormalForm
