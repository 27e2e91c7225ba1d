/- 'FnExactNormalFormApplyGate' returns true for every input, and its arguments read afterwards as before. -/
import Derived.Test.YtcclapenpaediaaRows
import Derived.Test.YtcclapenpaediaaJna
import Derived.Test.YtcclapenpaediaaFr
import Derived.Test.YtcclapenpaediaaFn
namespace Go.Proofs.Ytcclapenpaediaa.fnExactNormalFormApplyGate
open Go.ChangeShapes Go.WideShapes Go.ChangeAt Go.RowKit Go.Joins
set_option linter.unusedVariables false


set_option maxRecDepth 100000 in
theorem lifted (os : Os) (started : os.Started) (H : Type) (enc : TypeId × Value → H) :
    ReturnsInHanded {} Try.checked os 12 .any (Rows.fnExactNormalFormApplyGateSpec.pre6 enc Try.prog Try.f12 Rows.fnExactNormalFormApplyGateRow.domain false) (Rows.fnExactNormalFormApplyGateSpec.post enc Try.prog Try.f12 false true false false) := by
  refine returnsInHanded_of_change (C := Try.checked) own started (by kernel_rfl) Try.func12
    (ChangeSpec.witness6 (enc := enc) (C := Try.checked) false ⟨#[], #[.agg #[.slice none 0 0, .int .i64 0, .slice none 0 0], .agg #[.int .i64 0, .int .i64 0, .int .i64 0, .int .i64 0]], []⟩ 8 (by kernel_rfl) (by kernel_rfl) (by kernel_rfl) (by kernel_rfl)) ?_
  intro W base args ds gs before hval0 hW hcnd _
  have hval : ∀ (j : Nat) t v, Try.f12.params[j]? = some t → args[j]? = some v → Value.okWide Try.prog W .any base t v := hval0
  have hW' := hW
  obtain ⟨p, q, hA0, hV, rfl, hfz, hnd⟩ := hW
  have hA : DataW.TrodAll enc Try.prog W 0 (fun _ => true) true Try.f12.params.toList args.toList ds p := hA0
  rw [Try.params12] at hA hval
  obtain ⟨v0, vs0, d0, ds0, p0, q0, hargs, rfl, rfl, h0, r0⟩ := trodAll_cons hA
  obtain ⟨v1, vs1, d1, ds1, p1, q1, rfl, rfl, rfl, h1, r1⟩ := trodAll_cons r0
  obtain ⟨rfl, rfl, rfl⟩ := trodAll_nil r1
  obtain rfl : args = #[v0, v1] := by cases args; simp_all
  obtain ⟨rfl, rfl⟩ := trodVars_none hV
  have k0 := h0
  have lt0 : ∀ x ∈ p0, x.block < W.heap.size := by obtain ⟨m, hm⟩ := k0; exact DataW.trod_lt m _ _ _ hm
  have k1 := h1
  have lt1 : ∀ x ∈ p1, x.block < W.heap.size := by obtain ⟨m, hm⟩ := k1; exact DataW.trod_lt m _ _ _ hm
  obtain ⟨A0, n0, c0, l0, N0, B0, m0, e0, q0, rfl, wi0, wn0, wq0⟩ := open_nf Try.underlying68 Try.underlying24 Try.underlying66 Try.underlying3 Try.underlying3 Try.underlying22 Try.underlying133 ⟨Try.underlying3, Try.underlying3, Try.underlying3, Try.underlying3⟩ ⟨rfl, rfl, rfl, rfl⟩ ⟨by kernel_rfl, by kernel_rfl, by kernel_rfl, by kernel_rfl, by kernel_rfl, by kernel_rfl, by kernel_rfl⟩ (by kernel_rfl) (hval 0 68 v0 rfl rfl) h0
  obtain ⟨c10, c11, c12, c13, y10, y11, y12, y13, m1, rfl, rfl, rfl, g10, g11, g12, g13⟩ := open_agg4 Try.underlying77 (by kernel_rfl) (by kernel_rfl) (hval 1 77 v1 rfl rfl) h1
  obtain ⟨a10, e10, rfl, wa10⟩ := DataW.trod_int Try.underlying3 g10
  simp only [List.cons.injEq, and_true] at e10; subst e10
  obtain ⟨a11, e11, rfl, wa11⟩ := DataW.trod_int Try.underlying3 g11
  simp only [List.cons.injEq, and_true] at e11; subst e11
  obtain ⟨a12, e12, rfl, wa12⟩ := DataW.trod_int Try.underlying3 g12
  simp only [List.cons.injEq, and_true] at e12; subst e12
  obtain ⟨a13, e13, rfl, wa13⟩ := DataW.trod_int Try.underlying3 g13
  simp only [List.cons.injEq, and_true] at e13; subst e13
  clear hA0 hval0
  refine (law_na A0 n0 c0 l0 N0 B0 m0 e0 q0 a10 a11 a12 a13 W wi0 wn0 wq0 wa10 wa11 wa12 wa13).mono fun e W' ⟨he, bel⟩ => ?_
  subst he
  exact ⟨_, rfl, _, _, _, [], _, [], hW', trodAll_mk1 (shut_bool Try.underlying4 _), (trodAll_cons_mk (Below.trod laidOut (by kernel_rfl) (of_decide_eq_true (by kernel_rfl)) k0 bel lt0) (trodAll_cons_mk (Below.trod laidOut (by kernel_rfl) (of_decide_eq_true (by kernel_rfl)) k1 bel lt1) trodAll_mk0)), rfl, bel.frame _, fun h => by cases h⟩

theorem over : Rows.fnExactNormalFormApplyGateRow.holds Try.pinned (OpenSpec.ofChange Rows.fnExactNormalFormApplyGateSpec) :=
  OpenClaim.holds_of_wide 12 Try.f12 rfl rfl rfl rfl rfl rfl rfl ⟨rfl, rfl, rfl, rfl, rfl⟩ rfl rfl rfl rfl rfl (by kernel_rfl) Try.func12 (by kernel_rfl)
    (of_decide_eq_true (by kernel_rfl)) (by unfold Func.isWrapper; first | (rw [if_pos (by decide +kernel)]; kernel_rfl) | (rw [if_neg (by decide +kernel)]; exact ⟨rfl, rfl⟩))
    (fun os started H enc _ => lifted os started H enc)

theorem proved : Rows.FnExactNormalFormApplyGateSaid := over
#print axioms proved
end Go.Proofs.Ytcclapenpaediaa.fnExactNormalFormApplyGate
