/-
  No cell of these rows narrows 'for every input' (looked for: loops, veiled, ifaces, maps, wideKeys, modest, calm, conditions, laid).
  DERIVED. THE GIVEN ROWS OF THIS SEAT. 12 by the template 'for every input the law returns true; each argument reads behind the call as it read before'; 0 by the template 'total and deterministic' (their statements: YtpahkbajeniajaaTotals.lean).
  GIVEN WITH THE SEED: the statements are not yours to turn. If you find one false, say at which input.
  Laid BY PROGRAM, IN A SANDBOX (cutbox-rows.mjs): the forced cells as the released guide's own fill.sh prints them over the translation ecae5988ac84a514… (all of the seat's roots in one cut). By AI agents, Wed Nov 11 2026. No macro, syntax, notation, axiom, sorry.
-/
import Derived.Test.YtpahkbajeniajaaChecked
import GoSem.Claim
import GoSem.ClaimJoined
import GoSem.ClaimMapViews
import Derived.JoinedTies
import Derived.KernelRfl
namespace Go.Proofs.Ytpahkbajeniajaa
/- THE CELL 'sum', in the pinned program and in every row, IS THE sha256 OF THE DUMP (.gsa) THAT YtpahkbajeniajaaProg.lean LOADS. Nothing in Lean hashes anything: it is a label: what it is worth is what the hold of that sum in a sandbox is worth. -/
noncomputable def Try.pinned : Pinned := { name := "ytpahkbajeniajaa", sum := "ecae5988ac84a514b47dc7eb1464dcdd7074dcdbd9ccf8b177999eace06402b9", checked := Try.checked }
namespace Rows
def none {H : Type} : Left H := { results := [], args := [] }

/-- 'laws.FnExactFormatPauli': WHATEVER THE INPUT: true; the input reads as it did. -/
def fnExactFormatPauliSpec : ChangeSpec := { name := "fnExactFormatPauli", fn := fun _ => fun
  | [d] => { results := [.lit (.bool true)], args := [d] }
  | _ => none }
def fnExactFormatPauliRow : OpenClaim := { program := "ytpahkbajeniajaa", sum := "ecae5988ac84a514b47dc7eb1464dcdd7074dcdbd9ccf8b177999eace06402b9", func := "loop.example/g00506/laws.FnExactFormatPauli", spec := "fnExactFormatPauli", apart := false }
def FnExactFormatPauliSaid : Prop := fnExactFormatPauliRow.holds Try.pinned (OpenSpec.ofChange fnExactFormatPauliSpec)

/-- ITS FALSE NEIGHBOUR: 'it returns false'. Refute it at one input. -/
def fnExactFormatPauliWrong : ChangeSpec := { name := "fnExactFormatPauli", fn := fun _ => fun
  | [d] => { results := [.lit (.bool false)], args := [d] }
  | _ => none }
def FnExactFormatPauliWrongFalsely : Prop := fnExactFormatPauliRow.holds Try.pinned (OpenSpec.ofChange fnExactFormatPauliWrong)

/-- 'laws.FnCommute': WHATEVER THE INPUT: true; the input reads as it did. -/
def fnCommuteSpec : ChangeSpec := { name := "fnCommute", fn := fun _ => fun
  | [d] => { results := [.lit (.bool true)], args := [d] }
  | _ => none }
def fnCommuteRow : OpenClaim := { program := "ytpahkbajeniajaa", sum := "ecae5988ac84a514b47dc7eb1464dcdd7074dcdbd9ccf8b177999eace06402b9", func := "loop.example/g00506/laws.FnCommute", spec := "fnCommute", apart := false }
def FnCommuteSaid : Prop := fnCommuteRow.holds Try.pinned (OpenSpec.ofChange fnCommuteSpec)

/-- ITS FALSE NEIGHBOUR: 'it returns false'. Refute it at one input. -/
def fnCommuteWrong : ChangeSpec := { name := "fnCommute", fn := fun _ => fun
  | [d] => { results := [.lit (.bool false)], args := [d] }
  | _ => none }
def FnCommuteWrongFalsely : Prop := fnCommuteRow.holds Try.pinned (OpenSpec.ofChange fnCommuteWrong)

/-- 'laws.FnHermitian': WHATEVER THE INPUT: true; the input reads as it did. -/
def fnHermitianSpec : ChangeSpec := { name := "fnHermitian", fn := fun _ => fun
  | [d] => { results := [.lit (.bool true)], args := [d] }
  | _ => none }
def fnHermitianRow : OpenClaim := { program := "ytpahkbajeniajaa", sum := "ecae5988ac84a514b47dc7eb1464dcdd7074dcdbd9ccf8b177999eace06402b9", func := "loop.example/g00506/laws.FnHermitian", spec := "fnHermitian", apart := false }
def FnHermitianSaid : Prop := fnHermitianRow.holds Try.pinned (OpenSpec.ofChange fnHermitianSpec)

/-- ITS FALSE NEIGHBOUR: 'it returns false'. Refute it at one input. -/
def fnHermitianWrong : ChangeSpec := { name := "fnHermitian", fn := fun _ => fun
  | [d] => { results := [.lit (.bool false)], args := [d] }
  | _ => none }
def FnHermitianWrongFalsely : Prop := fnHermitianRow.holds Try.pinned (OpenSpec.ofChange fnHermitianWrong)

/-- 'laws.FnExactEqualNormalForm': WHATEVER THE INPUT: true; the input reads as it did. -/
def fnExactEqualNormalFormSpec : ChangeSpec := { name := "fnExactEqualNormalForm", fn := fun _ => fun
  | [d1, d2] => { results := [.lit (.bool true)], args := [d1, d2] }
  | _ => none }
def fnExactEqualNormalFormRow : OpenClaim := { program := "ytpahkbajeniajaa", sum := "ecae5988ac84a514b47dc7eb1464dcdd7074dcdbd9ccf8b177999eace06402b9", func := "loop.example/g00506/laws.FnExactEqualNormalForm", spec := "fnExactEqualNormalForm", apart := false }
def FnExactEqualNormalFormSaid : Prop := fnExactEqualNormalFormRow.holds Try.pinned (OpenSpec.ofChange fnExactEqualNormalFormSpec)

/-- ITS FALSE NEIGHBOUR: 'it returns false'. Refute it at one input. -/
def fnExactEqualNormalFormWrong : ChangeSpec := { name := "fnExactEqualNormalForm", fn := fun _ => fun
  | [d1, d2] => { results := [.lit (.bool false)], args := [d1, d2] }
  | _ => none }
def FnExactEqualNormalFormWrongFalsely : Prop := fnExactEqualNormalFormRow.holds Try.pinned (OpenSpec.ofChange fnExactEqualNormalFormWrong)

/-- 'laws.FnExactIdentityNormalForm': WHATEVER THE INPUT: true; the input reads as it did. -/
def fnExactIdentityNormalFormSpec : ChangeSpec := { name := "fnExactIdentityNormalForm", fn := fun _ => fun
  | [] => { results := [.lit (.bool true)], args := [] }
  | _ => none }
def fnExactIdentityNormalFormRow : OpenClaim := { program := "ytpahkbajeniajaa", sum := "ecae5988ac84a514b47dc7eb1464dcdd7074dcdbd9ccf8b177999eace06402b9", func := "loop.example/g00506/laws.FnExactIdentityNormalForm", spec := "fnExactIdentityNormalForm", apart := false }
def FnExactIdentityNormalFormSaid : Prop := fnExactIdentityNormalFormRow.holds Try.pinned (OpenSpec.ofChange fnExactIdentityNormalFormSpec)

/-- ITS FALSE NEIGHBOUR: 'it returns false'. Refute it at one input. -/
def fnExactIdentityNormalFormWrong : ChangeSpec := { name := "fnExactIdentityNormalForm", fn := fun _ => fun
  | [] => { results := [.lit (.bool false)], args := [] }
  | _ => none }
def FnExactIdentityNormalFormWrongFalsely : Prop := fnExactIdentityNormalFormRow.holds Try.pinned (OpenSpec.ofChange fnExactIdentityNormalFormWrong)

/-- 'laws.FnExactIsValidTableau': WHATEVER THE INPUT: true; the input reads as it did. -/
def fnExactIsValidTableauSpec : ChangeSpec := { name := "fnExactIsValidTableau", fn := fun _ => fun
  | [d] => { results := [.lit (.bool true)], args := [d] }
  | _ => none }
def fnExactIsValidTableauRow : OpenClaim := { program := "ytpahkbajeniajaa", sum := "ecae5988ac84a514b47dc7eb1464dcdd7074dcdbd9ccf8b177999eace06402b9", func := "loop.example/g00506/laws.FnExactIsValidTableau", spec := "fnExactIsValidTableau", apart := false }
def FnExactIsValidTableauSaid : Prop := fnExactIsValidTableauRow.holds Try.pinned (OpenSpec.ofChange fnExactIsValidTableauSpec)

/-- ITS FALSE NEIGHBOUR: 'it returns false'. Refute it at one input. -/
def fnExactIsValidTableauWrong : ChangeSpec := { name := "fnExactIsValidTableau", fn := fun _ => fun
  | [d] => { results := [.lit (.bool false)], args := [d] }
  | _ => none }
def FnExactIsValidTableauWrongFalsely : Prop := fnExactIsValidTableauRow.holds Try.pinned (OpenSpec.ofChange fnExactIsValidTableauWrong)

/-- 'laws.FnExactConjugateByTableau': WHATEVER THE INPUT: true; the input reads as it did. -/
def fnExactConjugateByTableauSpec : ChangeSpec := { name := "fnExactConjugateByTableau", fn := fun _ => fun
  | [d1, d2] => { results := [.lit (.bool true)], args := [d1, d2] }
  | _ => none }
def fnExactConjugateByTableauRow : OpenClaim := { program := "ytpahkbajeniajaa", sum := "ecae5988ac84a514b47dc7eb1464dcdd7074dcdbd9ccf8b177999eace06402b9", func := "loop.example/g00506/laws.FnExactConjugateByTableau", spec := "fnExactConjugateByTableau", apart := false }
def FnExactConjugateByTableauSaid : Prop := fnExactConjugateByTableauRow.holds Try.pinned (OpenSpec.ofChange fnExactConjugateByTableauSpec)

/-- ITS FALSE NEIGHBOUR: 'it returns false'. Refute it at one input. -/
def fnExactConjugateByTableauWrong : ChangeSpec := { name := "fnExactConjugateByTableau", fn := fun _ => fun
  | [d1, d2] => { results := [.lit (.bool false)], args := [d1, d2] }
  | _ => none }
def FnExactConjugateByTableauWrongFalsely : Prop := fnExactConjugateByTableauRow.holds Try.pinned (OpenSpec.ofChange fnExactConjugateByTableauWrong)

/-- 'laws.FnExactCosetIndex': WHATEVER THE INPUT: true; the input reads as it did. -/
def fnExactCosetIndexSpec : ChangeSpec := { name := "fnExactCosetIndex", fn := fun _ => fun
  | [d] => { results := [.lit (.bool true)], args := [d] }
  | _ => none }
def fnExactCosetIndexRow : OpenClaim := { program := "ytpahkbajeniajaa", sum := "ecae5988ac84a514b47dc7eb1464dcdd7074dcdbd9ccf8b177999eace06402b9", func := "loop.example/g00506/laws.FnExactCosetIndex", spec := "fnExactCosetIndex", apart := false }
def FnExactCosetIndexSaid : Prop := fnExactCosetIndexRow.holds Try.pinned (OpenSpec.ofChange fnExactCosetIndexSpec)

/-- ITS FALSE NEIGHBOUR: 'it returns false'. Refute it at one input. -/
def fnExactCosetIndexWrong : ChangeSpec := { name := "fnExactCosetIndex", fn := fun _ => fun
  | [d] => { results := [.lit (.bool false)], args := [d] }
  | _ => none }
def FnExactCosetIndexWrongFalsely : Prop := fnExactCosetIndexRow.holds Try.pinned (OpenSpec.ofChange fnExactCosetIndexWrong)

/-- 'laws.FnExactStabilizerMeasureZ': WHATEVER THE INPUT: true; the input reads as it did. -/
def fnExactStabilizerMeasureZSpec : ChangeSpec := { name := "fnExactStabilizerMeasureZ", fn := fun _ => fun
  | [d1, d2] => { results := [.lit (.bool true)], args := [d1, d2] }
  | _ => none }
def fnExactStabilizerMeasureZRow : OpenClaim := { program := "ytpahkbajeniajaa", sum := "ecae5988ac84a514b47dc7eb1464dcdd7074dcdbd9ccf8b177999eace06402b9", func := "loop.example/g00506/laws.FnExactStabilizerMeasureZ", spec := "fnExactStabilizerMeasureZ", apart := false }
def FnExactStabilizerMeasureZSaid : Prop := fnExactStabilizerMeasureZRow.holds Try.pinned (OpenSpec.ofChange fnExactStabilizerMeasureZSpec)

/-- ITS FALSE NEIGHBOUR: 'it returns false'. Refute it at one input. -/
def fnExactStabilizerMeasureZWrong : ChangeSpec := { name := "fnExactStabilizerMeasureZ", fn := fun _ => fun
  | [d1, d2] => { results := [.lit (.bool false)], args := [d1, d2] }
  | _ => none }
def FnExactStabilizerMeasureZWrongFalsely : Prop := fnExactStabilizerMeasureZRow.holds Try.pinned (OpenSpec.ofChange fnExactStabilizerMeasureZWrong)

/-- 'laws.FnExactIsValidNormalForm': WHATEVER THE INPUT: true; the input reads as it did. -/
def fnExactIsValidNormalFormSpec : ChangeSpec := { name := "fnExactIsValidNormalForm", fn := fun _ => fun
  | [d] => { results := [.lit (.bool true)], args := [d] }
  | _ => none }
def fnExactIsValidNormalFormRow : OpenClaim := { program := "ytpahkbajeniajaa", sum := "ecae5988ac84a514b47dc7eb1464dcdd7074dcdbd9ccf8b177999eace06402b9", func := "loop.example/g00506/laws.FnExactIsValidNormalForm", spec := "fnExactIsValidNormalForm", apart := false }
def FnExactIsValidNormalFormSaid : Prop := fnExactIsValidNormalFormRow.holds Try.pinned (OpenSpec.ofChange fnExactIsValidNormalFormSpec)

/-- ITS FALSE NEIGHBOUR: 'it returns false'. Refute it at one input. -/
def fnExactIsValidNormalFormWrong : ChangeSpec := { name := "fnExactIsValidNormalForm", fn := fun _ => fun
  | [d] => { results := [.lit (.bool false)], args := [d] }
  | _ => none }
def FnExactIsValidNormalFormWrongFalsely : Prop := fnExactIsValidNormalFormRow.holds Try.pinned (OpenSpec.ofChange fnExactIsValidNormalFormWrong)

/-- 'laws.FnExactConjugatePauli': WHATEVER THE INPUT: true; the input reads as it did. -/
def fnExactConjugatePauliSpec : ChangeSpec := { name := "fnExactConjugatePauli", fn := fun _ => fun
  | [d1, d2] => { results := [.lit (.bool true)], args := [d1, d2] }
  | _ => none }
def fnExactConjugatePauliRow : OpenClaim := { program := "ytpahkbajeniajaa", sum := "ecae5988ac84a514b47dc7eb1464dcdd7074dcdbd9ccf8b177999eace06402b9", func := "loop.example/g00506/laws.FnExactConjugatePauli", spec := "fnExactConjugatePauli", apart := false }
def FnExactConjugatePauliSaid : Prop := fnExactConjugatePauliRow.holds Try.pinned (OpenSpec.ofChange fnExactConjugatePauliSpec)

/-- ITS FALSE NEIGHBOUR: 'it returns false'. Refute it at one input. -/
def fnExactConjugatePauliWrong : ChangeSpec := { name := "fnExactConjugatePauli", fn := fun _ => fun
  | [d1, d2] => { results := [.lit (.bool false)], args := [d1, d2] }
  | _ => none }
def FnExactConjugatePauliWrongFalsely : Prop := fnExactConjugatePauliRow.holds Try.pinned (OpenSpec.ofChange fnExactConjugatePauliWrong)

/-- 'laws.FnExactTableauApplyGate': WHATEVER THE INPUT: true; the input reads as it did. -/
def fnExactTableauApplyGateSpec : ChangeSpec := { name := "fnExactTableauApplyGate", fn := fun _ => fun
  | [d1, d2] => { results := [.lit (.bool true)], args := [d1, d2] }
  | _ => none }
def fnExactTableauApplyGateRow : OpenClaim := { program := "ytpahkbajeniajaa", sum := "ecae5988ac84a514b47dc7eb1464dcdd7074dcdbd9ccf8b177999eace06402b9", func := "loop.example/g00506/laws.FnExactTableauApplyGate", spec := "fnExactTableauApplyGate", apart := false }
def FnExactTableauApplyGateSaid : Prop := fnExactTableauApplyGateRow.holds Try.pinned (OpenSpec.ofChange fnExactTableauApplyGateSpec)

/-- ITS FALSE NEIGHBOUR: 'it returns false'. Refute it at one input. -/
def fnExactTableauApplyGateWrong : ChangeSpec := { name := "fnExactTableauApplyGate", fn := fun _ => fun
  | [d1, d2] => { results := [.lit (.bool false)], args := [d1, d2] }
  | _ => none }
def FnExactTableauApplyGateWrongFalsely : Prop := fnExactTableauApplyGateRow.holds Try.pinned (OpenSpec.ofChange fnExactTableauApplyGateWrong)

/- THE SECOND FORM. 'bulk': how many values and letters a reading holds, each counted each time it is reached (what is shared counts as often as it is met; a slice's spare places count too). A statement '..UptoSaid' is the law's where the arguments, and the package variables that the reading takes, are together of bulk at most 1048576: NARROWER than '..Said'. Prove '..Said' where nothing that the law and all that it calls make is longer than what came in: it says more and counts as full. Else prove '..UptoSaid'. A law counts once. -/
mutual
def uptoBulk {H : Type} : DataW H → Nat
  | .lit (.string bytes) => bytes.length + 1
  | .lit _ => 1
  | .nil => 1
  | .ptr d => uptoBulk d + 1
  | .slice elems spare => uptoBulkAll elems + uptoBulkAll spare + 1
  | .agg parts => uptoBulkAll parts + 1
  | .iface _ d => uptoBulk d + 1
  | .map entries => uptoBulkEntries entries + 1
  | .held _ => 1
def uptoBulkAll {H : Type} : List (DataW H) → Nat
  | [] => 0
  | d :: r => uptoBulk d + uptoBulkAll r
def uptoBulkEntries {H : Type} : List (Lit × DataW H) → Nat
  | [] => 0
  | x :: r => uptoBulkEntry x + uptoBulkEntries r
def uptoBulkEntry {H : Type} : Lit × DataW H → Nat
  | (.string bytes, d) => bytes.length + uptoBulk d + 1
  | (_, d) => uptoBulk d + 1
 end
def uptoSmall : (H : Type) → List (DataW H) → Bool := fun _ ds => decide (uptoBulkAll ds ≤ 1048576)
def OpenSpec.upto (s : _root_.Go.ChangeSpec) : _root_.Go.OpenSpec := { _root_.Go.OpenSpec.ofChange s with cond := some uptoSmall }

/-- 'laws.FnExactFormatPauli', WHERE WHAT IT READS IS OF BULK AT MOST 1048576: true; the input reads as it did. -/
def fnExactFormatPauliUptoRow : OpenClaim := { program := "ytpahkbajeniajaa", sum := "ecae5988ac84a514b47dc7eb1464dcdd7074dcdbd9ccf8b177999eace06402b9", func := "loop.example/g00506/laws.FnExactFormatPauli", spec := "fnExactFormatPauli", apart := false, narrowed := true }
def FnExactFormatPauliUptoSaid : Prop := fnExactFormatPauliUptoRow.holds Try.pinned (OpenSpec.upto fnExactFormatPauliSpec)

/-- 'laws.FnCommute', WHERE WHAT IT READS IS OF BULK AT MOST 1048576: true; the input reads as it did. -/
def fnCommuteUptoRow : OpenClaim := { program := "ytpahkbajeniajaa", sum := "ecae5988ac84a514b47dc7eb1464dcdd7074dcdbd9ccf8b177999eace06402b9", func := "loop.example/g00506/laws.FnCommute", spec := "fnCommute", apart := false, narrowed := true }
def FnCommuteUptoSaid : Prop := fnCommuteUptoRow.holds Try.pinned (OpenSpec.upto fnCommuteSpec)

/-- 'laws.FnHermitian', WHERE WHAT IT READS IS OF BULK AT MOST 1048576: true; the input reads as it did. -/
def fnHermitianUptoRow : OpenClaim := { program := "ytpahkbajeniajaa", sum := "ecae5988ac84a514b47dc7eb1464dcdd7074dcdbd9ccf8b177999eace06402b9", func := "loop.example/g00506/laws.FnHermitian", spec := "fnHermitian", apart := false, narrowed := true }
def FnHermitianUptoSaid : Prop := fnHermitianUptoRow.holds Try.pinned (OpenSpec.upto fnHermitianSpec)

/-- 'laws.FnExactEqualNormalForm', WHERE WHAT IT READS IS OF BULK AT MOST 1048576: true; the input reads as it did. -/
def fnExactEqualNormalFormUptoRow : OpenClaim := { program := "ytpahkbajeniajaa", sum := "ecae5988ac84a514b47dc7eb1464dcdd7074dcdbd9ccf8b177999eace06402b9", func := "loop.example/g00506/laws.FnExactEqualNormalForm", spec := "fnExactEqualNormalForm", apart := false, narrowed := true }
def FnExactEqualNormalFormUptoSaid : Prop := fnExactEqualNormalFormUptoRow.holds Try.pinned (OpenSpec.upto fnExactEqualNormalFormSpec)

/-- 'laws.FnExactIdentityNormalForm', WHERE WHAT IT READS IS OF BULK AT MOST 1048576: true; the input reads as it did. -/
def fnExactIdentityNormalFormUptoRow : OpenClaim := { program := "ytpahkbajeniajaa", sum := "ecae5988ac84a514b47dc7eb1464dcdd7074dcdbd9ccf8b177999eace06402b9", func := "loop.example/g00506/laws.FnExactIdentityNormalForm", spec := "fnExactIdentityNormalForm", apart := false, narrowed := true }
def FnExactIdentityNormalFormUptoSaid : Prop := fnExactIdentityNormalFormUptoRow.holds Try.pinned (OpenSpec.upto fnExactIdentityNormalFormSpec)

/-- 'laws.FnExactIsValidTableau', WHERE WHAT IT READS IS OF BULK AT MOST 1048576: true; the input reads as it did. -/
def fnExactIsValidTableauUptoRow : OpenClaim := { program := "ytpahkbajeniajaa", sum := "ecae5988ac84a514b47dc7eb1464dcdd7074dcdbd9ccf8b177999eace06402b9", func := "loop.example/g00506/laws.FnExactIsValidTableau", spec := "fnExactIsValidTableau", apart := false, narrowed := true }
def FnExactIsValidTableauUptoSaid : Prop := fnExactIsValidTableauUptoRow.holds Try.pinned (OpenSpec.upto fnExactIsValidTableauSpec)

/-- 'laws.FnExactConjugateByTableau', WHERE WHAT IT READS IS OF BULK AT MOST 1048576: true; the input reads as it did. -/
def fnExactConjugateByTableauUptoRow : OpenClaim := { program := "ytpahkbajeniajaa", sum := "ecae5988ac84a514b47dc7eb1464dcdd7074dcdbd9ccf8b177999eace06402b9", func := "loop.example/g00506/laws.FnExactConjugateByTableau", spec := "fnExactConjugateByTableau", apart := false, narrowed := true }
def FnExactConjugateByTableauUptoSaid : Prop := fnExactConjugateByTableauUptoRow.holds Try.pinned (OpenSpec.upto fnExactConjugateByTableauSpec)

/-- 'laws.FnExactCosetIndex', WHERE WHAT IT READS IS OF BULK AT MOST 1048576: true; the input reads as it did. -/
def fnExactCosetIndexUptoRow : OpenClaim := { program := "ytpahkbajeniajaa", sum := "ecae5988ac84a514b47dc7eb1464dcdd7074dcdbd9ccf8b177999eace06402b9", func := "loop.example/g00506/laws.FnExactCosetIndex", spec := "fnExactCosetIndex", apart := false, narrowed := true }
def FnExactCosetIndexUptoSaid : Prop := fnExactCosetIndexUptoRow.holds Try.pinned (OpenSpec.upto fnExactCosetIndexSpec)

/-- 'laws.FnExactStabilizerMeasureZ', WHERE WHAT IT READS IS OF BULK AT MOST 1048576: true; the input reads as it did. -/
def fnExactStabilizerMeasureZUptoRow : OpenClaim := { program := "ytpahkbajeniajaa", sum := "ecae5988ac84a514b47dc7eb1464dcdd7074dcdbd9ccf8b177999eace06402b9", func := "loop.example/g00506/laws.FnExactStabilizerMeasureZ", spec := "fnExactStabilizerMeasureZ", apart := false, narrowed := true }
def FnExactStabilizerMeasureZUptoSaid : Prop := fnExactStabilizerMeasureZUptoRow.holds Try.pinned (OpenSpec.upto fnExactStabilizerMeasureZSpec)

/-- 'laws.FnExactIsValidNormalForm', WHERE WHAT IT READS IS OF BULK AT MOST 1048576: true; the input reads as it did. -/
def fnExactIsValidNormalFormUptoRow : OpenClaim := { program := "ytpahkbajeniajaa", sum := "ecae5988ac84a514b47dc7eb1464dcdd7074dcdbd9ccf8b177999eace06402b9", func := "loop.example/g00506/laws.FnExactIsValidNormalForm", spec := "fnExactIsValidNormalForm", apart := false, narrowed := true }
def FnExactIsValidNormalFormUptoSaid : Prop := fnExactIsValidNormalFormUptoRow.holds Try.pinned (OpenSpec.upto fnExactIsValidNormalFormSpec)

/-- 'laws.FnExactConjugatePauli', WHERE WHAT IT READS IS OF BULK AT MOST 1048576: true; the input reads as it did. -/
def fnExactConjugatePauliUptoRow : OpenClaim := { program := "ytpahkbajeniajaa", sum := "ecae5988ac84a514b47dc7eb1464dcdd7074dcdbd9ccf8b177999eace06402b9", func := "loop.example/g00506/laws.FnExactConjugatePauli", spec := "fnExactConjugatePauli", apart := false, narrowed := true }
def FnExactConjugatePauliUptoSaid : Prop := fnExactConjugatePauliUptoRow.holds Try.pinned (OpenSpec.upto fnExactConjugatePauliSpec)

/-- 'laws.FnExactTableauApplyGate', WHERE WHAT IT READS IS OF BULK AT MOST 1048576: true; the input reads as it did. -/
def fnExactTableauApplyGateUptoRow : OpenClaim := { program := "ytpahkbajeniajaa", sum := "ecae5988ac84a514b47dc7eb1464dcdd7074dcdbd9ccf8b177999eace06402b9", func := "loop.example/g00506/laws.FnExactTableauApplyGate", spec := "fnExactTableauApplyGate", apart := false, narrowed := true }
def FnExactTableauApplyGateUptoSaid : Prop := fnExactTableauApplyGateUptoRow.holds Try.pinned (OpenSpec.upto fnExactTableauApplyGateSpec)

end Rows
end Go.Proofs.Ytpahkbajeniajaa
