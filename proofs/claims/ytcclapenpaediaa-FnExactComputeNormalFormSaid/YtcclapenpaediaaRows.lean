/-
  No cell of these rows narrows 'for every input' (looked for: loops, veiled, ifaces, maps, wideKeys, modest, calm, conditions, laid).
  DERIVED. THE GIVEN ROWS OF THIS SEAT. 12 by the template 'for every input the law returns true; each argument reads behind the call as it read before'; 0 by the template 'total and deterministic' (their statements: YtcclapenpaediaaTotals.lean).
  GIVEN WITH THE SEED: the statements are not yours to turn. If you find one false, say at which input.
  Laid BY PROGRAM, IN A SANDBOX (cutbox-rows.mjs): the forced cells as the released guide's own fill.sh prints them over the translation e953798a9b720fbd… (all of the seat's roots in one cut). By AI agents, Wed Nov 11 2026. No macro, syntax, notation, axiom, sorry.
-/
import Derived.Test.YtcclapenpaediaaChecked
import GoSem.Claim
import GoSem.ClaimJoined
import GoSem.ClaimMapViews
import Derived.JoinedTies
import Derived.KernelRfl
namespace Go.Proofs.Ytcclapenpaediaa
/- THE CELL 'sum', in the pinned program and in every row, IS THE sha256 OF THE DUMP (.gsa) THAT YtcclapenpaediaaProg.lean LOADS. Nothing in Lean hashes anything: it is a label: what it is worth is what the hold of that sum in a sandbox is worth. -/
noncomputable def Try.pinned : Pinned := { name := "ytcclapenpaediaa", sum := "e953798a9b720fbd149213508e20b6afbd9bef8bc815617a8369f6733b76b7d7", checked := Try.checked }
namespace Rows
def none {H : Type} : Left H := { results := [], args := [] }

/-- 'laws.FnExactCliffordWord': WHATEVER THE INPUT: true; the input reads as it did. -/
def fnExactCliffordWordSpec : ChangeSpec := { name := "fnExactCliffordWord", fn := fun _ => fun
  | [d] => { results := [.lit (.bool true)], args := [d] }
  | _ => none }
def fnExactCliffordWordRow : OpenClaim := { program := "ytcclapenpaediaa", sum := "e953798a9b720fbd149213508e20b6afbd9bef8bc815617a8369f6733b76b7d7", func := "loop.example/g00506/laws.FnExactCliffordWord", spec := "fnExactCliffordWord", apart := false }
def FnExactCliffordWordSaid : Prop := fnExactCliffordWordRow.holds Try.pinned (OpenSpec.ofChange fnExactCliffordWordSpec)

/-- ITS FALSE NEIGHBOUR: 'it returns false'. Refute it at one input. -/
def fnExactCliffordWordWrong : ChangeSpec := { name := "fnExactCliffordWord", fn := fun _ => fun
  | [d] => { results := [.lit (.bool false)], args := [d] }
  | _ => none }
def FnExactCliffordWordWrongFalsely : Prop := fnExactCliffordWordRow.holds Try.pinned (OpenSpec.ofChange fnExactCliffordWordWrong)

/-- 'laws.FnExactReduceTableau': WHATEVER THE INPUT: true; the input reads as it did. -/
def fnExactReduceTableauSpec : ChangeSpec := { name := "fnExactReduceTableau", fn := fun _ => fun
  | [d] => { results := [.lit (.bool true)], args := [d] }
  | _ => none }
def fnExactReduceTableauRow : OpenClaim := { program := "ytcclapenpaediaa", sum := "e953798a9b720fbd149213508e20b6afbd9bef8bc815617a8369f6733b76b7d7", func := "loop.example/g00506/laws.FnExactReduceTableau", spec := "fnExactReduceTableau", apart := false }
def FnExactReduceTableauSaid : Prop := fnExactReduceTableauRow.holds Try.pinned (OpenSpec.ofChange fnExactReduceTableauSpec)

/-- ITS FALSE NEIGHBOUR: 'it returns false'. Refute it at one input. -/
def fnExactReduceTableauWrong : ChangeSpec := { name := "fnExactReduceTableau", fn := fun _ => fun
  | [d] => { results := [.lit (.bool false)], args := [d] }
  | _ => none }
def FnExactReduceTableauWrongFalsely : Prop := fnExactReduceTableauRow.holds Try.pinned (OpenSpec.ofChange fnExactReduceTableauWrong)

/-- 'laws.FnWords': WHATEVER THE INPUT: true; the input reads as it did. -/
def fnWordsSpec : ChangeSpec := { name := "fnWords", fn := fun _ => fun
  | [d] => { results := [.lit (.bool true)], args := [d] }
  | _ => none }
def fnWordsRow : OpenClaim := { program := "ytcclapenpaediaa", sum := "e953798a9b720fbd149213508e20b6afbd9bef8bc815617a8369f6733b76b7d7", func := "loop.example/g00506/laws.FnWords", spec := "fnWords", apart := false }
def FnWordsSaid : Prop := fnWordsRow.holds Try.pinned (OpenSpec.ofChange fnWordsSpec)

/-- ITS FALSE NEIGHBOUR: 'it returns false'. Refute it at one input. -/
def fnWordsWrong : ChangeSpec := { name := "fnWords", fn := fun _ => fun
  | [d] => { results := [.lit (.bool false)], args := [d] }
  | _ => none }
def FnWordsWrongFalsely : Prop := fnWordsRow.holds Try.pinned (OpenSpec.ofChange fnWordsWrong)

/-- 'laws.FnCoset': WHATEVER THE INPUT: true; the input reads as it did. -/
def fnCosetSpec : ChangeSpec := { name := "fnCoset", fn := fun _ => fun
  | [d] => { results := [.lit (.bool true)], args := [d] }
  | _ => none }
def fnCosetRow : OpenClaim := { program := "ytcclapenpaediaa", sum := "e953798a9b720fbd149213508e20b6afbd9bef8bc815617a8369f6733b76b7d7", func := "loop.example/g00506/laws.FnCoset", spec := "fnCoset", apart := false }
def FnCosetSaid : Prop := fnCosetRow.holds Try.pinned (OpenSpec.ofChange fnCosetSpec)

/-- ITS FALSE NEIGHBOUR: 'it returns false'. Refute it at one input. -/
def fnCosetWrong : ChangeSpec := { name := "fnCoset", fn := fun _ => fun
  | [d] => { results := [.lit (.bool false)], args := [d] }
  | _ => none }
def FnCosetWrongFalsely : Prop := fnCosetRow.holds Try.pinned (OpenSpec.ofChange fnCosetWrong)

/-- 'laws.FnReduced': WHATEVER THE INPUT: true; the input reads as it did. -/
def fnReducedSpec : ChangeSpec := { name := "fnReduced", fn := fun _ => fun
  | [d] => { results := [.lit (.bool true)], args := [d] }
  | _ => none }
def fnReducedRow : OpenClaim := { program := "ytcclapenpaediaa", sum := "e953798a9b720fbd149213508e20b6afbd9bef8bc815617a8369f6733b76b7d7", func := "loop.example/g00506/laws.FnReduced", spec := "fnReduced", apart := false }
def FnReducedSaid : Prop := fnReducedRow.holds Try.pinned (OpenSpec.ofChange fnReducedSpec)

/-- ITS FALSE NEIGHBOUR: 'it returns false'. Refute it at one input. -/
def fnReducedWrong : ChangeSpec := { name := "fnReduced", fn := fun _ => fun
  | [d] => { results := [.lit (.bool false)], args := [d] }
  | _ => none }
def FnReducedWrongFalsely : Prop := fnReducedRow.holds Try.pinned (OpenSpec.ofChange fnReducedWrong)

/-- 'laws.FnExactSynthesizeTableau': WHATEVER THE INPUT: true; the input reads as it did. -/
def fnExactSynthesizeTableauSpec : ChangeSpec := { name := "fnExactSynthesizeTableau", fn := fun _ => fun
  | [d] => { results := [.lit (.bool true)], args := [d] }
  | _ => none }
def fnExactSynthesizeTableauRow : OpenClaim := { program := "ytcclapenpaediaa", sum := "e953798a9b720fbd149213508e20b6afbd9bef8bc815617a8369f6733b76b7d7", func := "loop.example/g00506/laws.FnExactSynthesizeTableau", spec := "fnExactSynthesizeTableau", apart := false }
def FnExactSynthesizeTableauSaid : Prop := fnExactSynthesizeTableauRow.holds Try.pinned (OpenSpec.ofChange fnExactSynthesizeTableauSpec)

/-- ITS FALSE NEIGHBOUR: 'it returns false'. Refute it at one input. -/
def fnExactSynthesizeTableauWrong : ChangeSpec := { name := "fnExactSynthesizeTableau", fn := fun _ => fun
  | [d] => { results := [.lit (.bool false)], args := [d] }
  | _ => none }
def FnExactSynthesizeTableauWrongFalsely : Prop := fnExactSynthesizeTableauRow.holds Try.pinned (OpenSpec.ofChange fnExactSynthesizeTableauWrong)

/-- 'laws.FnSynth': WHATEVER THE INPUT: true; the input reads as it did. -/
def fnSynthSpec : ChangeSpec := { name := "fnSynth", fn := fun _ => fun
  | [d] => { results := [.lit (.bool true)], args := [d] }
  | _ => none }
def fnSynthRow : OpenClaim := { program := "ytcclapenpaediaa", sum := "e953798a9b720fbd149213508e20b6afbd9bef8bc815617a8369f6733b76b7d7", func := "loop.example/g00506/laws.FnSynth", spec := "fnSynth", apart := false }
def FnSynthSaid : Prop := fnSynthRow.holds Try.pinned (OpenSpec.ofChange fnSynthSpec)

/-- ITS FALSE NEIGHBOUR: 'it returns false'. Refute it at one input. -/
def fnSynthWrong : ChangeSpec := { name := "fnSynth", fn := fun _ => fun
  | [d] => { results := [.lit (.bool false)], args := [d] }
  | _ => none }
def FnSynthWrongFalsely : Prop := fnSynthRow.holds Try.pinned (OpenSpec.ofChange fnSynthWrong)

/-- 'laws.FnExactResynthesizeClifford': WHATEVER THE INPUT: true; the input reads as it did. -/
def fnExactResynthesizeCliffordSpec : ChangeSpec := { name := "fnExactResynthesizeClifford", fn := fun _ => fun
  | [d] => { results := [.lit (.bool true)], args := [d] }
  | _ => none }
def fnExactResynthesizeCliffordRow : OpenClaim := { program := "ytcclapenpaediaa", sum := "e953798a9b720fbd149213508e20b6afbd9bef8bc815617a8369f6733b76b7d7", func := "loop.example/g00506/laws.FnExactResynthesizeClifford", spec := "fnExactResynthesizeClifford", apart := false }
def FnExactResynthesizeCliffordSaid : Prop := fnExactResynthesizeCliffordRow.holds Try.pinned (OpenSpec.ofChange fnExactResynthesizeCliffordSpec)

/-- ITS FALSE NEIGHBOUR: 'it returns false'. Refute it at one input. -/
def fnExactResynthesizeCliffordWrong : ChangeSpec := { name := "fnExactResynthesizeClifford", fn := fun _ => fun
  | [d] => { results := [.lit (.bool false)], args := [d] }
  | _ => none }
def FnExactResynthesizeCliffordWrongFalsely : Prop := fnExactResynthesizeCliffordRow.holds Try.pinned (OpenSpec.ofChange fnExactResynthesizeCliffordWrong)

/-- 'laws.FnExactNormalFormGates': WHATEVER THE INPUT: true; the input reads as it did. -/
def fnExactNormalFormGatesSpec : ChangeSpec := { name := "fnExactNormalFormGates", fn := fun _ => fun
  | [d] => { results := [.lit (.bool true)], args := [d] }
  | _ => none }
def fnExactNormalFormGatesRow : OpenClaim := { program := "ytcclapenpaediaa", sum := "e953798a9b720fbd149213508e20b6afbd9bef8bc815617a8369f6733b76b7d7", func := "loop.example/g00506/laws.FnExactNormalFormGates", spec := "fnExactNormalFormGates", apart := false }
def FnExactNormalFormGatesSaid : Prop := fnExactNormalFormGatesRow.holds Try.pinned (OpenSpec.ofChange fnExactNormalFormGatesSpec)

/-- ITS FALSE NEIGHBOUR: 'it returns false'. Refute it at one input. -/
def fnExactNormalFormGatesWrong : ChangeSpec := { name := "fnExactNormalFormGates", fn := fun _ => fun
  | [d] => { results := [.lit (.bool false)], args := [d] }
  | _ => none }
def FnExactNormalFormGatesWrongFalsely : Prop := fnExactNormalFormGatesRow.holds Try.pinned (OpenSpec.ofChange fnExactNormalFormGatesWrong)

/-- 'laws.FnExactNormalFormApplyGate': WHATEVER THE INPUT: true; the input reads as it did. -/
def fnExactNormalFormApplyGateSpec : ChangeSpec := { name := "fnExactNormalFormApplyGate", fn := fun _ => fun
  | [d1, d2] => { results := [.lit (.bool true)], args := [d1, d2] }
  | _ => none }
def fnExactNormalFormApplyGateRow : OpenClaim := { program := "ytcclapenpaediaa", sum := "e953798a9b720fbd149213508e20b6afbd9bef8bc815617a8369f6733b76b7d7", func := "loop.example/g00506/laws.FnExactNormalFormApplyGate", spec := "fnExactNormalFormApplyGate", apart := false }
def FnExactNormalFormApplyGateSaid : Prop := fnExactNormalFormApplyGateRow.holds Try.pinned (OpenSpec.ofChange fnExactNormalFormApplyGateSpec)

/-- ITS FALSE NEIGHBOUR: 'it returns false'. Refute it at one input. -/
def fnExactNormalFormApplyGateWrong : ChangeSpec := { name := "fnExactNormalFormApplyGate", fn := fun _ => fun
  | [d1, d2] => { results := [.lit (.bool false)], args := [d1, d2] }
  | _ => none }
def FnExactNormalFormApplyGateWrongFalsely : Prop := fnExactNormalFormApplyGateRow.holds Try.pinned (OpenSpec.ofChange fnExactNormalFormApplyGateWrong)

/-- 'laws.FnExactComputeNormalForm': WHATEVER THE INPUT: true; the input reads as it did. -/
def fnExactComputeNormalFormSpec : ChangeSpec := { name := "fnExactComputeNormalForm", fn := fun _ => fun
  | [d] => { results := [.lit (.bool true)], args := [d] }
  | _ => none }
def fnExactComputeNormalFormRow : OpenClaim := { program := "ytcclapenpaediaa", sum := "e953798a9b720fbd149213508e20b6afbd9bef8bc815617a8369f6733b76b7d7", func := "loop.example/g00506/laws.FnExactComputeNormalForm", spec := "fnExactComputeNormalForm", apart := false }
def FnExactComputeNormalFormSaid : Prop := fnExactComputeNormalFormRow.holds Try.pinned (OpenSpec.ofChange fnExactComputeNormalFormSpec)

/-- ITS FALSE NEIGHBOUR: 'it returns false'. Refute it at one input. -/
def fnExactComputeNormalFormWrong : ChangeSpec := { name := "fnExactComputeNormalForm", fn := fun _ => fun
  | [d] => { results := [.lit (.bool false)], args := [d] }
  | _ => none }
def FnExactComputeNormalFormWrongFalsely : Prop := fnExactComputeNormalFormRow.holds Try.pinned (OpenSpec.ofChange fnExactComputeNormalFormWrong)

/-- 'laws.FnNormGate': WHATEVER THE INPUT: true; the input reads as it did. -/
def fnNormGateSpec : ChangeSpec := { name := "fnNormGate", fn := fun _ => fun
  | [d] => { results := [.lit (.bool true)], args := [d] }
  | _ => none }
def fnNormGateRow : OpenClaim := { program := "ytcclapenpaediaa", sum := "e953798a9b720fbd149213508e20b6afbd9bef8bc815617a8369f6733b76b7d7", func := "loop.example/g00506/laws.FnNormGate", spec := "fnNormGate", apart := false }
def FnNormGateSaid : Prop := fnNormGateRow.holds Try.pinned (OpenSpec.ofChange fnNormGateSpec)

/-- ITS FALSE NEIGHBOUR: 'it returns false'. Refute it at one input. -/
def fnNormGateWrong : ChangeSpec := { name := "fnNormGate", fn := fun _ => fun
  | [d] => { results := [.lit (.bool false)], args := [d] }
  | _ => none }
def FnNormGateWrongFalsely : Prop := fnNormGateRow.holds Try.pinned (OpenSpec.ofChange fnNormGateWrong)

/- THE SECOND FORM. 'bulk': how many values and letters a reading holds, each counted each time it is reached (what is shared counts as often as it is met; a slice's spare places count too). A statement '..UptoSaid' is the law's where the arguments, and the package variables that the reading takes, are together of bulk at most 1048576: NARROWER than '..Said'. Prove '..Said' where nothing that the law and all that it calls make is longer than what came in: it says more and counts as full. Else prove '..UptoSaid'. A law counts once. -/
mutual
def uptoBulk {H : Type} : DataW H → Nat
  | .lit (.string bytes) => bytes.length + 1
  | .lit _ => 1
  | .nil => 1
  | .ptr d => uptoBulk d + 1
  | .slice elems spare => uptoBulkAll elems + uptoBulkAll spare + 1
  | .agg parts => uptoBulkAll parts + 1
  | .iface _ d => uptoBulk d + 1
  | .map entries => uptoBulkEntries entries + 1
  | .held _ => 1
def uptoBulkAll {H : Type} : List (DataW H) → Nat
  | [] => 0
  | d :: r => uptoBulk d + uptoBulkAll r
def uptoBulkEntries {H : Type} : List (Lit × DataW H) → Nat
  | [] => 0
  | x :: r => uptoBulkEntry x + uptoBulkEntries r
def uptoBulkEntry {H : Type} : Lit × DataW H → Nat
  | (.string bytes, d) => bytes.length + uptoBulk d + 1
  | (_, d) => uptoBulk d + 1
 end
def uptoSmall : (H : Type) → List (DataW H) → Bool := fun _ ds => decide (uptoBulkAll ds ≤ 1048576)
def OpenSpec.upto (s : _root_.Go.ChangeSpec) : _root_.Go.OpenSpec := { _root_.Go.OpenSpec.ofChange s with cond := some uptoSmall }

/-- 'laws.FnExactCliffordWord', WHERE WHAT IT READS IS OF BULK AT MOST 1048576: true; the input reads as it did. -/
def fnExactCliffordWordUptoRow : OpenClaim := { program := "ytcclapenpaediaa", sum := "e953798a9b720fbd149213508e20b6afbd9bef8bc815617a8369f6733b76b7d7", func := "loop.example/g00506/laws.FnExactCliffordWord", spec := "fnExactCliffordWord", apart := false, narrowed := true }
def FnExactCliffordWordUptoSaid : Prop := fnExactCliffordWordUptoRow.holds Try.pinned (OpenSpec.upto fnExactCliffordWordSpec)

/-- 'laws.FnExactReduceTableau', WHERE WHAT IT READS IS OF BULK AT MOST 1048576: true; the input reads as it did. -/
def fnExactReduceTableauUptoRow : OpenClaim := { program := "ytcclapenpaediaa", sum := "e953798a9b720fbd149213508e20b6afbd9bef8bc815617a8369f6733b76b7d7", func := "loop.example/g00506/laws.FnExactReduceTableau", spec := "fnExactReduceTableau", apart := false, narrowed := true }
def FnExactReduceTableauUptoSaid : Prop := fnExactReduceTableauUptoRow.holds Try.pinned (OpenSpec.upto fnExactReduceTableauSpec)

/-- 'laws.FnWords', WHERE WHAT IT READS IS OF BULK AT MOST 1048576: true; the input reads as it did. -/
def fnWordsUptoRow : OpenClaim := { program := "ytcclapenpaediaa", sum := "e953798a9b720fbd149213508e20b6afbd9bef8bc815617a8369f6733b76b7d7", func := "loop.example/g00506/laws.FnWords", spec := "fnWords", apart := false, narrowed := true }
def FnWordsUptoSaid : Prop := fnWordsUptoRow.holds Try.pinned (OpenSpec.upto fnWordsSpec)

/-- 'laws.FnCoset', WHERE WHAT IT READS IS OF BULK AT MOST 1048576: true; the input reads as it did. -/
def fnCosetUptoRow : OpenClaim := { program := "ytcclapenpaediaa", sum := "e953798a9b720fbd149213508e20b6afbd9bef8bc815617a8369f6733b76b7d7", func := "loop.example/g00506/laws.FnCoset", spec := "fnCoset", apart := false, narrowed := true }
def FnCosetUptoSaid : Prop := fnCosetUptoRow.holds Try.pinned (OpenSpec.upto fnCosetSpec)

/-- 'laws.FnReduced', WHERE WHAT IT READS IS OF BULK AT MOST 1048576: true; the input reads as it did. -/
def fnReducedUptoRow : OpenClaim := { program := "ytcclapenpaediaa", sum := "e953798a9b720fbd149213508e20b6afbd9bef8bc815617a8369f6733b76b7d7", func := "loop.example/g00506/laws.FnReduced", spec := "fnReduced", apart := false, narrowed := true }
def FnReducedUptoSaid : Prop := fnReducedUptoRow.holds Try.pinned (OpenSpec.upto fnReducedSpec)

/-- 'laws.FnExactSynthesizeTableau', WHERE WHAT IT READS IS OF BULK AT MOST 1048576: true; the input reads as it did. -/
def fnExactSynthesizeTableauUptoRow : OpenClaim := { program := "ytcclapenpaediaa", sum := "e953798a9b720fbd149213508e20b6afbd9bef8bc815617a8369f6733b76b7d7", func := "loop.example/g00506/laws.FnExactSynthesizeTableau", spec := "fnExactSynthesizeTableau", apart := false, narrowed := true }
def FnExactSynthesizeTableauUptoSaid : Prop := fnExactSynthesizeTableauUptoRow.holds Try.pinned (OpenSpec.upto fnExactSynthesizeTableauSpec)

/-- 'laws.FnSynth', WHERE WHAT IT READS IS OF BULK AT MOST 1048576: true; the input reads as it did. -/
def fnSynthUptoRow : OpenClaim := { program := "ytcclapenpaediaa", sum := "e953798a9b720fbd149213508e20b6afbd9bef8bc815617a8369f6733b76b7d7", func := "loop.example/g00506/laws.FnSynth", spec := "fnSynth", apart := false, narrowed := true }
def FnSynthUptoSaid : Prop := fnSynthUptoRow.holds Try.pinned (OpenSpec.upto fnSynthSpec)

/-- 'laws.FnExactResynthesizeClifford', WHERE WHAT IT READS IS OF BULK AT MOST 1048576: true; the input reads as it did. -/
def fnExactResynthesizeCliffordUptoRow : OpenClaim := { program := "ytcclapenpaediaa", sum := "e953798a9b720fbd149213508e20b6afbd9bef8bc815617a8369f6733b76b7d7", func := "loop.example/g00506/laws.FnExactResynthesizeClifford", spec := "fnExactResynthesizeClifford", apart := false, narrowed := true }
def FnExactResynthesizeCliffordUptoSaid : Prop := fnExactResynthesizeCliffordUptoRow.holds Try.pinned (OpenSpec.upto fnExactResynthesizeCliffordSpec)

/-- 'laws.FnExactNormalFormGates', WHERE WHAT IT READS IS OF BULK AT MOST 1048576: true; the input reads as it did. -/
def fnExactNormalFormGatesUptoRow : OpenClaim := { program := "ytcclapenpaediaa", sum := "e953798a9b720fbd149213508e20b6afbd9bef8bc815617a8369f6733b76b7d7", func := "loop.example/g00506/laws.FnExactNormalFormGates", spec := "fnExactNormalFormGates", apart := false, narrowed := true }
def FnExactNormalFormGatesUptoSaid : Prop := fnExactNormalFormGatesUptoRow.holds Try.pinned (OpenSpec.upto fnExactNormalFormGatesSpec)

/-- 'laws.FnExactNormalFormApplyGate', WHERE WHAT IT READS IS OF BULK AT MOST 1048576: true; the input reads as it did. -/
def fnExactNormalFormApplyGateUptoRow : OpenClaim := { program := "ytcclapenpaediaa", sum := "e953798a9b720fbd149213508e20b6afbd9bef8bc815617a8369f6733b76b7d7", func := "loop.example/g00506/laws.FnExactNormalFormApplyGate", spec := "fnExactNormalFormApplyGate", apart := false, narrowed := true }
def FnExactNormalFormApplyGateUptoSaid : Prop := fnExactNormalFormApplyGateUptoRow.holds Try.pinned (OpenSpec.upto fnExactNormalFormApplyGateSpec)

/-- 'laws.FnExactComputeNormalForm', WHERE WHAT IT READS IS OF BULK AT MOST 1048576: true; the input reads as it did. -/
def fnExactComputeNormalFormUptoRow : OpenClaim := { program := "ytcclapenpaediaa", sum := "e953798a9b720fbd149213508e20b6afbd9bef8bc815617a8369f6733b76b7d7", func := "loop.example/g00506/laws.FnExactComputeNormalForm", spec := "fnExactComputeNormalForm", apart := false, narrowed := true }
def FnExactComputeNormalFormUptoSaid : Prop := fnExactComputeNormalFormUptoRow.holds Try.pinned (OpenSpec.upto fnExactComputeNormalFormSpec)

/-- 'laws.FnNormGate', WHERE WHAT IT READS IS OF BULK AT MOST 1048576: true; the input reads as it did. -/
def fnNormGateUptoRow : OpenClaim := { program := "ytcclapenpaediaa", sum := "e953798a9b720fbd149213508e20b6afbd9bef8bc815617a8369f6733b76b7d7", func := "loop.example/g00506/laws.FnNormGate", spec := "fnNormGate", apart := false, narrowed := true }
def FnNormGateUptoSaid : Prop := fnNormGateUptoRow.holds Try.pinned (OpenSpec.upto fnNormGateSpec)

end Rows
end Go.Proofs.Ytcclapenpaediaa
