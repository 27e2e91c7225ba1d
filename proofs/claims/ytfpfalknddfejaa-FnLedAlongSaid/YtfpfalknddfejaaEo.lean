/- The engine, part 15: states in a canonical form. Over any program. -/
import Derived.Test.YtfpfalknddfejaaEn
namespace Go.Proofs.Ytfpfalknddfejaa
open Go.RowKit
set_option linter.unusedVariables false
set_option linter.unusedSimpArgs false
def mkT : List (Nat × AV) → (Nat → AV)
  | [] => fun _ => .top
  | (k, v) :: l => upd (mkT l) k v
def mkR : List (Nat × Row) → (Nat → Option Row)
  | [] => fun _ => none
  | (k, r) :: l => upd (mkR l) k (some r)
section
variable {P : Program} {C : Ctx} {Q : Exit → St → Prop} {st : St}
/-- Where ways meet. -/
theorem AW_cut {x y : Code} (J : St → Prop) (h1 : AW P C x st (thenA (fun st' => ∃ S, J S ∧ Le C st' S) Q)) (h2 : ∀ S, J S → AW P C y S Q) : AW P C (.seq x y) st Q :=
  AW_seq (AW_mono h1 fun e s h => by
    cases e with
    | normal =>
      obtain ⟨S, hJ, hL⟩ := h
      exact AW_le hL (h2 S hJ)
    | _ => exact h)
end
end Go.Proofs.Ytfpfalknddfejaa
