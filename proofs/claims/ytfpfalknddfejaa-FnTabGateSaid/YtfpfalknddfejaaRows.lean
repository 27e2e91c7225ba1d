/-
  No cell of these rows narrows 'for every input' (looked for: loops, veiled, ifaces, maps, wideKeys, modest, calm, conditions, laid).
  DERIVED. THE GIVEN ROWS OF THIS SEAT. 12 by the template 'for every input the law returns true; each argument reads behind the call as it read before'; 0 by the template 'total and deterministic' (their statements: YtfpfalknddfejaaTotals.lean).
  GIVEN WITH THE SEED: the statements are not yours to turn. If you find one false, say at which input.
  Laid BY PROGRAM, IN A SANDBOX (cutbox-rows.mjs): the forced cells as the released guide's own fill.sh prints them over the translation 2e034050338e9676… (all of the seat's roots in one cut). By AI agents, Wed Nov 11 2026. No macro, syntax, notation, axiom, sorry.
-/
import Derived.Test.YtfpfalknddfejaaChecked
import GoSem.Claim
import GoSem.ClaimJoined
import GoSem.ClaimMapViews
import Derived.JoinedTies
import Derived.KernelRfl
namespace Go.Proofs.Ytfpfalknddfejaa
/- THE CELL 'sum', in the pinned program and in every row, IS THE sha256 OF THE DUMP (.gsa) THAT YtfpfalknddfejaaProg.lean LOADS. Nothing in Lean hashes anything: it is a label: what it is worth is what the hold of that sum in a sandbox is worth. -/
noncomputable def Try.pinned : Pinned := { name := "ytfpfalknddfejaa", sum := "2e034050338e9676a569abc520df3c52a44f13b31a398a3ac6a1aa5b9d36b6ba", checked := Try.checked }
namespace Rows
def none {H : Type} : Left H := { results := [], args := [] }

/-- 'laws.FnExactConjugateByTableau': WHATEVER THE INPUT: true; the input reads as it did. -/
def fnExactConjugateByTableauSpec : ChangeSpec := { name := "fnExactConjugateByTableau", fn := fun _ => fun
  | [d1, d2] => { results := [.lit (.bool true)], args := [d1, d2] }
  | _ => none }
def fnExactConjugateByTableauRow : OpenClaim := { program := "ytfpfalknddfejaa", sum := "2e034050338e9676a569abc520df3c52a44f13b31a398a3ac6a1aa5b9d36b6ba", func := "loop.example/g00506/laws.FnExactConjugateByTableau", spec := "fnExactConjugateByTableau", apart := false }
def FnExactConjugateByTableauSaid : Prop := fnExactConjugateByTableauRow.holds Try.pinned (OpenSpec.ofChange fnExactConjugateByTableauSpec)

/-- ITS FALSE NEIGHBOUR: 'it returns false'. Refute it at one input. -/
def fnExactConjugateByTableauWrong : ChangeSpec := { name := "fnExactConjugateByTableau", fn := fun _ => fun
  | [d1, d2] => { results := [.lit (.bool false)], args := [d1, d2] }
  | _ => none }
def FnExactConjugateByTableauWrongFalsely : Prop := fnExactConjugateByTableauRow.holds Try.pinned (OpenSpec.ofChange fnExactConjugateByTableauWrong)

/-- 'laws.FnExactCosetIndex': WHATEVER THE INPUT: true; the input reads as it did. -/
def fnExactCosetIndexSpec : ChangeSpec := { name := "fnExactCosetIndex", fn := fun _ => fun
  | [d] => { results := [.lit (.bool true)], args := [d] }
  | _ => none }
def fnExactCosetIndexRow : OpenClaim := { program := "ytfpfalknddfejaa", sum := "2e034050338e9676a569abc520df3c52a44f13b31a398a3ac6a1aa5b9d36b6ba", func := "loop.example/g00506/laws.FnExactCosetIndex", spec := "fnExactCosetIndex", apart := false }
def FnExactCosetIndexSaid : Prop := fnExactCosetIndexRow.holds Try.pinned (OpenSpec.ofChange fnExactCosetIndexSpec)

/-- ITS FALSE NEIGHBOUR: 'it returns false'. Refute it at one input. -/
def fnExactCosetIndexWrong : ChangeSpec := { name := "fnExactCosetIndex", fn := fun _ => fun
  | [d] => { results := [.lit (.bool false)], args := [d] }
  | _ => none }
def FnExactCosetIndexWrongFalsely : Prop := fnExactCosetIndexRow.holds Try.pinned (OpenSpec.ofChange fnExactCosetIndexWrong)

/-- 'laws.FnExactStabilizerMeasureZ': WHATEVER THE INPUT: true; the input reads as it did. -/
def fnExactStabilizerMeasureZSpec : ChangeSpec := { name := "fnExactStabilizerMeasureZ", fn := fun _ => fun
  | [d1, d2] => { results := [.lit (.bool true)], args := [d1, d2] }
  | _ => none }
def fnExactStabilizerMeasureZRow : OpenClaim := { program := "ytfpfalknddfejaa", sum := "2e034050338e9676a569abc520df3c52a44f13b31a398a3ac6a1aa5b9d36b6ba", func := "loop.example/g00506/laws.FnExactStabilizerMeasureZ", spec := "fnExactStabilizerMeasureZ", apart := false }
def FnExactStabilizerMeasureZSaid : Prop := fnExactStabilizerMeasureZRow.holds Try.pinned (OpenSpec.ofChange fnExactStabilizerMeasureZSpec)

/-- ITS FALSE NEIGHBOUR: 'it returns false'. Refute it at one input. -/
def fnExactStabilizerMeasureZWrong : ChangeSpec := { name := "fnExactStabilizerMeasureZ", fn := fun _ => fun
  | [d1, d2] => { results := [.lit (.bool false)], args := [d1, d2] }
  | _ => none }
def FnExactStabilizerMeasureZWrongFalsely : Prop := fnExactStabilizerMeasureZRow.holds Try.pinned (OpenSpec.ofChange fnExactStabilizerMeasureZWrong)

/-- 'laws.FnExactIsValidNormalForm': WHATEVER THE INPUT: true; the input reads as it did. -/
def fnExactIsValidNormalFormSpec : ChangeSpec := { name := "fnExactIsValidNormalForm", fn := fun _ => fun
  | [d] => { results := [.lit (.bool true)], args := [d] }
  | _ => none }
def fnExactIsValidNormalFormRow : OpenClaim := { program := "ytfpfalknddfejaa", sum := "2e034050338e9676a569abc520df3c52a44f13b31a398a3ac6a1aa5b9d36b6ba", func := "loop.example/g00506/laws.FnExactIsValidNormalForm", spec := "fnExactIsValidNormalForm", apart := false }
def FnExactIsValidNormalFormSaid : Prop := fnExactIsValidNormalFormRow.holds Try.pinned (OpenSpec.ofChange fnExactIsValidNormalFormSpec)

/-- ITS FALSE NEIGHBOUR: 'it returns false'. Refute it at one input. -/
def fnExactIsValidNormalFormWrong : ChangeSpec := { name := "fnExactIsValidNormalForm", fn := fun _ => fun
  | [d] => { results := [.lit (.bool false)], args := [d] }
  | _ => none }
def FnExactIsValidNormalFormWrongFalsely : Prop := fnExactIsValidNormalFormRow.holds Try.pinned (OpenSpec.ofChange fnExactIsValidNormalFormWrong)

/-- 'laws.FnExactConjugatePauli': WHATEVER THE INPUT: true; the input reads as it did. -/
def fnExactConjugatePauliSpec : ChangeSpec := { name := "fnExactConjugatePauli", fn := fun _ => fun
  | [d1, d2] => { results := [.lit (.bool true)], args := [d1, d2] }
  | _ => none }
def fnExactConjugatePauliRow : OpenClaim := { program := "ytfpfalknddfejaa", sum := "2e034050338e9676a569abc520df3c52a44f13b31a398a3ac6a1aa5b9d36b6ba", func := "loop.example/g00506/laws.FnExactConjugatePauli", spec := "fnExactConjugatePauli", apart := false }
def FnExactConjugatePauliSaid : Prop := fnExactConjugatePauliRow.holds Try.pinned (OpenSpec.ofChange fnExactConjugatePauliSpec)

/-- ITS FALSE NEIGHBOUR: 'it returns false'. Refute it at one input. -/
def fnExactConjugatePauliWrong : ChangeSpec := { name := "fnExactConjugatePauli", fn := fun _ => fun
  | [d1, d2] => { results := [.lit (.bool false)], args := [d1, d2] }
  | _ => none }
def FnExactConjugatePauliWrongFalsely : Prop := fnExactConjugatePauliRow.holds Try.pinned (OpenSpec.ofChange fnExactConjugatePauliWrong)

/-- 'laws.FnExactTableauApplyGate': WHATEVER THE INPUT: true; the input reads as it did. -/
def fnExactTableauApplyGateSpec : ChangeSpec := { name := "fnExactTableauApplyGate", fn := fun _ => fun
  | [d1, d2] => { results := [.lit (.bool true)], args := [d1, d2] }
  | _ => none }
def fnExactTableauApplyGateRow : OpenClaim := { program := "ytfpfalknddfejaa", sum := "2e034050338e9676a569abc520df3c52a44f13b31a398a3ac6a1aa5b9d36b6ba", func := "loop.example/g00506/laws.FnExactTableauApplyGate", spec := "fnExactTableauApplyGate", apart := false }
def FnExactTableauApplyGateSaid : Prop := fnExactTableauApplyGateRow.holds Try.pinned (OpenSpec.ofChange fnExactTableauApplyGateSpec)

/-- ITS FALSE NEIGHBOUR: 'it returns false'. Refute it at one input. -/
def fnExactTableauApplyGateWrong : ChangeSpec := { name := "fnExactTableauApplyGate", fn := fun _ => fun
  | [d1, d2] => { results := [.lit (.bool false)], args := [d1, d2] }
  | _ => none }
def FnExactTableauApplyGateWrongFalsely : Prop := fnExactTableauApplyGateRow.holds Try.pinned (OpenSpec.ofChange fnExactTableauApplyGateWrong)

/-- 'laws.FnLedAlong': WHATEVER THE INPUT: true; the input reads as it did. -/
def fnLedAlongSpec : ChangeSpec := { name := "fnLedAlong", fn := fun _ => fun
  | [d] => { results := [.lit (.bool true)], args := [d] }
  | _ => none }
def fnLedAlongRow : OpenClaim := { program := "ytfpfalknddfejaa", sum := "2e034050338e9676a569abc520df3c52a44f13b31a398a3ac6a1aa5b9d36b6ba", func := "loop.example/g00506/laws.FnLedAlong", spec := "fnLedAlong", apart := false }
def FnLedAlongSaid : Prop := fnLedAlongRow.holds Try.pinned (OpenSpec.ofChange fnLedAlongSpec)

/-- ITS FALSE NEIGHBOUR: 'it returns false'. Refute it at one input. -/
def fnLedAlongWrong : ChangeSpec := { name := "fnLedAlong", fn := fun _ => fun
  | [d] => { results := [.lit (.bool false)], args := [d] }
  | _ => none }
def FnLedAlongWrongFalsely : Prop := fnLedAlongRow.holds Try.pinned (OpenSpec.ofChange fnLedAlongWrong)

/-- 'laws.FnLed': WHATEVER THE INPUT: true; the input reads as it did. -/
def fnLedSpec : ChangeSpec := { name := "fnLed", fn := fun _ => fun
  | [d] => { results := [.lit (.bool true)], args := [d] }
  | _ => none }
def fnLedRow : OpenClaim := { program := "ytfpfalknddfejaa", sum := "2e034050338e9676a569abc520df3c52a44f13b31a398a3ac6a1aa5b9d36b6ba", func := "loop.example/g00506/laws.FnLed", spec := "fnLed", apart := false }
def FnLedSaid : Prop := fnLedRow.holds Try.pinned (OpenSpec.ofChange fnLedSpec)

/-- ITS FALSE NEIGHBOUR: 'it returns false'. Refute it at one input. -/
def fnLedWrong : ChangeSpec := { name := "fnLed", fn := fun _ => fun
  | [d] => { results := [.lit (.bool false)], args := [d] }
  | _ => none }
def FnLedWrongFalsely : Prop := fnLedRow.holds Try.pinned (OpenSpec.ofChange fnLedWrong)

/-- 'laws.FnTabGate': WHATEVER THE INPUT: true; the input reads as it did. -/
def fnTabGateSpec : ChangeSpec := { name := "fnTabGate", fn := fun _ => fun
  | [d] => { results := [.lit (.bool true)], args := [d] }
  | _ => none }
def fnTabGateRow : OpenClaim := { program := "ytfpfalknddfejaa", sum := "2e034050338e9676a569abc520df3c52a44f13b31a398a3ac6a1aa5b9d36b6ba", func := "loop.example/g00506/laws.FnTabGate", spec := "fnTabGate", apart := false }
def FnTabGateSaid : Prop := fnTabGateRow.holds Try.pinned (OpenSpec.ofChange fnTabGateSpec)

/-- ITS FALSE NEIGHBOUR: 'it returns false'. Refute it at one input. -/
def fnTabGateWrong : ChangeSpec := { name := "fnTabGate", fn := fun _ => fun
  | [d] => { results := [.lit (.bool false)], args := [d] }
  | _ => none }
def FnTabGateWrongFalsely : Prop := fnTabGateRow.holds Try.pinned (OpenSpec.ofChange fnTabGateWrong)

/-- 'laws.FnExactAllCliffordWords': WHATEVER THE INPUT: true; the input reads as it did. -/
def fnExactAllCliffordWordsSpec : ChangeSpec := { name := "fnExactAllCliffordWords", fn := fun _ => fun
  | [] => { results := [.lit (.bool true)], args := [] }
  | _ => none }
def fnExactAllCliffordWordsRow : OpenClaim := { program := "ytfpfalknddfejaa", sum := "2e034050338e9676a569abc520df3c52a44f13b31a398a3ac6a1aa5b9d36b6ba", func := "loop.example/g00506/laws.FnExactAllCliffordWords", spec := "fnExactAllCliffordWords", apart := false }
def FnExactAllCliffordWordsSaid : Prop := fnExactAllCliffordWordsRow.holds Try.pinned (OpenSpec.ofChange fnExactAllCliffordWordsSpec)

/-- ITS FALSE NEIGHBOUR: 'it returns false'. Refute it at one input. -/
def fnExactAllCliffordWordsWrong : ChangeSpec := { name := "fnExactAllCliffordWords", fn := fun _ => fun
  | [] => { results := [.lit (.bool false)], args := [] }
  | _ => none }
def FnExactAllCliffordWordsWrongFalsely : Prop := fnExactAllCliffordWordsRow.holds Try.pinned (OpenSpec.ofChange fnExactAllCliffordWordsWrong)

/-- 'laws.FnExactWordTableau': WHATEVER THE INPUT: true; the input reads as it did. -/
def fnExactWordTableauSpec : ChangeSpec := { name := "fnExactWordTableau", fn := fun _ => fun
  | [d] => { results := [.lit (.bool true)], args := [d] }
  | _ => none }
def fnExactWordTableauRow : OpenClaim := { program := "ytfpfalknddfejaa", sum := "2e034050338e9676a569abc520df3c52a44f13b31a398a3ac6a1aa5b9d36b6ba", func := "loop.example/g00506/laws.FnExactWordTableau", spec := "fnExactWordTableau", apart := false }
def FnExactWordTableauSaid : Prop := fnExactWordTableauRow.holds Try.pinned (OpenSpec.ofChange fnExactWordTableauSpec)

/-- ITS FALSE NEIGHBOUR: 'it returns false'. Refute it at one input. -/
def fnExactWordTableauWrong : ChangeSpec := { name := "fnExactWordTableau", fn := fun _ => fun
  | [d] => { results := [.lit (.bool false)], args := [d] }
  | _ => none }
def FnExactWordTableauWrongFalsely : Prop := fnExactWordTableauRow.holds Try.pinned (OpenSpec.ofChange fnExactWordTableauWrong)

/-- 'laws.FnExactCircuitTableau': WHATEVER THE INPUT: true; the input reads as it did. -/
def fnExactCircuitTableauSpec : ChangeSpec := { name := "fnExactCircuitTableau", fn := fun _ => fun
  | [d] => { results := [.lit (.bool true)], args := [d] }
  | _ => none }
def fnExactCircuitTableauRow : OpenClaim := { program := "ytfpfalknddfejaa", sum := "2e034050338e9676a569abc520df3c52a44f13b31a398a3ac6a1aa5b9d36b6ba", func := "loop.example/g00506/laws.FnExactCircuitTableau", spec := "fnExactCircuitTableau", apart := false }
def FnExactCircuitTableauSaid : Prop := fnExactCircuitTableauRow.holds Try.pinned (OpenSpec.ofChange fnExactCircuitTableauSpec)

/-- ITS FALSE NEIGHBOUR: 'it returns false'. Refute it at one input. -/
def fnExactCircuitTableauWrong : ChangeSpec := { name := "fnExactCircuitTableau", fn := fun _ => fun
  | [d] => { results := [.lit (.bool false)], args := [d] }
  | _ => none }
def FnExactCircuitTableauWrongFalsely : Prop := fnExactCircuitTableauRow.holds Try.pinned (OpenSpec.ofChange fnExactCircuitTableauWrong)

/- THE SECOND FORM. 'bulk': how many values and letters a reading holds, each counted each time it is reached (what is shared counts as often as it is met; a slice's spare places count too). A statement '..UptoSaid' is the law's where the arguments, and the package variables that the reading takes, are together of bulk at most 1048576: NARROWER than '..Said'. Prove '..Said' where nothing that the law and all that it calls make is longer than what came in: it says more and counts as full. Else prove '..UptoSaid'. A law counts once. -/
mutual
def uptoBulk {H : Type} : DataW H → Nat
  | .lit (.string bytes) => bytes.length + 1
  | .lit _ => 1
  | .nil => 1
  | .ptr d => uptoBulk d + 1
  | .slice elems spare => uptoBulkAll elems + uptoBulkAll spare + 1
  | .agg parts => uptoBulkAll parts + 1
  | .iface _ d => uptoBulk d + 1
  | .map entries => uptoBulkEntries entries + 1
  | .held _ => 1
def uptoBulkAll {H : Type} : List (DataW H) → Nat
  | [] => 0
  | d :: r => uptoBulk d + uptoBulkAll r
def uptoBulkEntries {H : Type} : List (Lit × DataW H) → Nat
  | [] => 0
  | x :: r => uptoBulkEntry x + uptoBulkEntries r
def uptoBulkEntry {H : Type} : Lit × DataW H → Nat
  | (.string bytes, d) => bytes.length + uptoBulk d + 1
  | (_, d) => uptoBulk d + 1
 end
def uptoSmall : (H : Type) → List (DataW H) → Bool := fun _ ds => decide (uptoBulkAll ds ≤ 1048576)
def OpenSpec.upto (s : _root_.Go.ChangeSpec) : _root_.Go.OpenSpec := { _root_.Go.OpenSpec.ofChange s with cond := some uptoSmall }

/-- 'laws.FnExactConjugateByTableau', WHERE WHAT IT READS IS OF BULK AT MOST 1048576: true; the input reads as it did. -/
def fnExactConjugateByTableauUptoRow : OpenClaim := { program := "ytfpfalknddfejaa", sum := "2e034050338e9676a569abc520df3c52a44f13b31a398a3ac6a1aa5b9d36b6ba", func := "loop.example/g00506/laws.FnExactConjugateByTableau", spec := "fnExactConjugateByTableau", apart := false, narrowed := true }
def FnExactConjugateByTableauUptoSaid : Prop := fnExactConjugateByTableauUptoRow.holds Try.pinned (OpenSpec.upto fnExactConjugateByTableauSpec)

/-- 'laws.FnExactCosetIndex', WHERE WHAT IT READS IS OF BULK AT MOST 1048576: true; the input reads as it did. -/
def fnExactCosetIndexUptoRow : OpenClaim := { program := "ytfpfalknddfejaa", sum := "2e034050338e9676a569abc520df3c52a44f13b31a398a3ac6a1aa5b9d36b6ba", func := "loop.example/g00506/laws.FnExactCosetIndex", spec := "fnExactCosetIndex", apart := false, narrowed := true }
def FnExactCosetIndexUptoSaid : Prop := fnExactCosetIndexUptoRow.holds Try.pinned (OpenSpec.upto fnExactCosetIndexSpec)

/-- 'laws.FnExactStabilizerMeasureZ', WHERE WHAT IT READS IS OF BULK AT MOST 1048576: true; the input reads as it did. -/
def fnExactStabilizerMeasureZUptoRow : OpenClaim := { program := "ytfpfalknddfejaa", sum := "2e034050338e9676a569abc520df3c52a44f13b31a398a3ac6a1aa5b9d36b6ba", func := "loop.example/g00506/laws.FnExactStabilizerMeasureZ", spec := "fnExactStabilizerMeasureZ", apart := false, narrowed := true }
def FnExactStabilizerMeasureZUptoSaid : Prop := fnExactStabilizerMeasureZUptoRow.holds Try.pinned (OpenSpec.upto fnExactStabilizerMeasureZSpec)

/-- 'laws.FnExactIsValidNormalForm', WHERE WHAT IT READS IS OF BULK AT MOST 1048576: true; the input reads as it did. -/
def fnExactIsValidNormalFormUptoRow : OpenClaim := { program := "ytfpfalknddfejaa", sum := "2e034050338e9676a569abc520df3c52a44f13b31a398a3ac6a1aa5b9d36b6ba", func := "loop.example/g00506/laws.FnExactIsValidNormalForm", spec := "fnExactIsValidNormalForm", apart := false, narrowed := true }
def FnExactIsValidNormalFormUptoSaid : Prop := fnExactIsValidNormalFormUptoRow.holds Try.pinned (OpenSpec.upto fnExactIsValidNormalFormSpec)

/-- 'laws.FnExactConjugatePauli', WHERE WHAT IT READS IS OF BULK AT MOST 1048576: true; the input reads as it did. -/
def fnExactConjugatePauliUptoRow : OpenClaim := { program := "ytfpfalknddfejaa", sum := "2e034050338e9676a569abc520df3c52a44f13b31a398a3ac6a1aa5b9d36b6ba", func := "loop.example/g00506/laws.FnExactConjugatePauli", spec := "fnExactConjugatePauli", apart := false, narrowed := true }
def FnExactConjugatePauliUptoSaid : Prop := fnExactConjugatePauliUptoRow.holds Try.pinned (OpenSpec.upto fnExactConjugatePauliSpec)

/-- 'laws.FnExactTableauApplyGate', WHERE WHAT IT READS IS OF BULK AT MOST 1048576: true; the input reads as it did. -/
def fnExactTableauApplyGateUptoRow : OpenClaim := { program := "ytfpfalknddfejaa", sum := "2e034050338e9676a569abc520df3c52a44f13b31a398a3ac6a1aa5b9d36b6ba", func := "loop.example/g00506/laws.FnExactTableauApplyGate", spec := "fnExactTableauApplyGate", apart := false, narrowed := true }
def FnExactTableauApplyGateUptoSaid : Prop := fnExactTableauApplyGateUptoRow.holds Try.pinned (OpenSpec.upto fnExactTableauApplyGateSpec)

/-- 'laws.FnLedAlong', WHERE WHAT IT READS IS OF BULK AT MOST 1048576: true; the input reads as it did. -/
def fnLedAlongUptoRow : OpenClaim := { program := "ytfpfalknddfejaa", sum := "2e034050338e9676a569abc520df3c52a44f13b31a398a3ac6a1aa5b9d36b6ba", func := "loop.example/g00506/laws.FnLedAlong", spec := "fnLedAlong", apart := false, narrowed := true }
def FnLedAlongUptoSaid : Prop := fnLedAlongUptoRow.holds Try.pinned (OpenSpec.upto fnLedAlongSpec)

/-- 'laws.FnLed', WHERE WHAT IT READS IS OF BULK AT MOST 1048576: true; the input reads as it did. -/
def fnLedUptoRow : OpenClaim := { program := "ytfpfalknddfejaa", sum := "2e034050338e9676a569abc520df3c52a44f13b31a398a3ac6a1aa5b9d36b6ba", func := "loop.example/g00506/laws.FnLed", spec := "fnLed", apart := false, narrowed := true }
def FnLedUptoSaid : Prop := fnLedUptoRow.holds Try.pinned (OpenSpec.upto fnLedSpec)

/-- 'laws.FnTabGate', WHERE WHAT IT READS IS OF BULK AT MOST 1048576: true; the input reads as it did. -/
def fnTabGateUptoRow : OpenClaim := { program := "ytfpfalknddfejaa", sum := "2e034050338e9676a569abc520df3c52a44f13b31a398a3ac6a1aa5b9d36b6ba", func := "loop.example/g00506/laws.FnTabGate", spec := "fnTabGate", apart := false, narrowed := true }
def FnTabGateUptoSaid : Prop := fnTabGateUptoRow.holds Try.pinned (OpenSpec.upto fnTabGateSpec)

/-- 'laws.FnExactAllCliffordWords', WHERE WHAT IT READS IS OF BULK AT MOST 1048576: true; the input reads as it did. -/
def fnExactAllCliffordWordsUptoRow : OpenClaim := { program := "ytfpfalknddfejaa", sum := "2e034050338e9676a569abc520df3c52a44f13b31a398a3ac6a1aa5b9d36b6ba", func := "loop.example/g00506/laws.FnExactAllCliffordWords", spec := "fnExactAllCliffordWords", apart := false, narrowed := true }
def FnExactAllCliffordWordsUptoSaid : Prop := fnExactAllCliffordWordsUptoRow.holds Try.pinned (OpenSpec.upto fnExactAllCliffordWordsSpec)

/-- 'laws.FnExactWordTableau', WHERE WHAT IT READS IS OF BULK AT MOST 1048576: true; the input reads as it did. -/
def fnExactWordTableauUptoRow : OpenClaim := { program := "ytfpfalknddfejaa", sum := "2e034050338e9676a569abc520df3c52a44f13b31a398a3ac6a1aa5b9d36b6ba", func := "loop.example/g00506/laws.FnExactWordTableau", spec := "fnExactWordTableau", apart := false, narrowed := true }
def FnExactWordTableauUptoSaid : Prop := fnExactWordTableauUptoRow.holds Try.pinned (OpenSpec.upto fnExactWordTableauSpec)

/-- 'laws.FnExactCircuitTableau', WHERE WHAT IT READS IS OF BULK AT MOST 1048576: true; the input reads as it did. -/
def fnExactCircuitTableauUptoRow : OpenClaim := { program := "ytfpfalknddfejaa", sum := "2e034050338e9676a569abc520df3c52a44f13b31a398a3ac6a1aa5b9d36b6ba", func := "loop.example/g00506/laws.FnExactCircuitTableau", spec := "fnExactCircuitTableau", apart := false, narrowed := true }
def FnExactCircuitTableauUptoSaid : Prop := fnExactCircuitTableauUptoRow.holds Try.pinned (OpenSpec.upto fnExactCircuitTableauSpec)

end Rows
end Go.Proofs.Ytfpfalknddfejaa
