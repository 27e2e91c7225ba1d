/-
  No cell of these rows narrows 'for every input' (looked for: loops, veiled, ifaces, maps, wideKeys, modest, calm, conditions, laid).
  DERIVED. THE GIVEN ROWS OF THIS SEAT. 12 by the template 'for every input the law returns true; each argument reads behind the call as it read before'; 0 by the template 'total and deterministic' (their statements: YtiemkfifklaadaaTotals.lean).
  GIVEN WITH THE SEED: the statements are not yours to turn. If you find one false, say at which input.
  Laid BY PROGRAM, IN A SANDBOX (cutbox-rows.mjs): the forced cells as the released guide's own fill.sh prints them over the translation c4b2a4672c3b83b3… (all of the seat's roots in one cut). By AI agents, Wed Nov 11 2026. No macro, syntax, notation, axiom, sorry.
-/
import Derived.Test.YtiemkfifklaadaaChecked
import GoSem.Claim
import GoSem.ClaimJoined
import GoSem.ClaimMapViews
import Derived.JoinedTies
import Derived.KernelRfl
namespace Go.Proofs.Ytiemkfifklaadaa
/- THE CELL 'sum', in the pinned program and in every row, IS THE sha256 OF THE DUMP (.gsa) THAT YtiemkfifklaadaaProg.lean LOADS. Nothing in Lean hashes anything: it is a label: what it is worth is what the hold of that sum in a sandbox is worth. -/
noncomputable def Try.pinned : Pinned := { name := "ytiemkfifklaadaa", sum := "c4b2a4672c3b83b352b067cf1de33a0f01934d7522c034fca2ec90df895d82a0", checked := Try.checked }
namespace Rows
def none {H : Type} : Left H := { results := [], args := [] }

/-- 'laws.FnExactIsValidPauli': WHATEVER THE INPUT: true; the input reads as it did. -/
def fnExactIsValidPauliSpec : ChangeSpec := { name := "fnExactIsValidPauli", fn := fun _ => fun
  | [d] => { results := [.lit (.bool true)], args := [d] }
  | _ => none }
def fnExactIsValidPauliRow : OpenClaim := { program := "ytiemkfifklaadaa", sum := "c4b2a4672c3b83b352b067cf1de33a0f01934d7522c034fca2ec90df895d82a0", func := "loop.example/g00506/laws.FnExactIsValidPauli", spec := "fnExactIsValidPauli", apart := false }
def FnExactIsValidPauliSaid : Prop := fnExactIsValidPauliRow.holds Try.pinned (OpenSpec.ofChange fnExactIsValidPauliSpec)

/-- ITS FALSE NEIGHBOUR: 'it returns false'. Refute it at one input. -/
def fnExactIsValidPauliWrong : ChangeSpec := { name := "fnExactIsValidPauli", fn := fun _ => fun
  | [d] => { results := [.lit (.bool false)], args := [d] }
  | _ => none }
def FnExactIsValidPauliWrongFalsely : Prop := fnExactIsValidPauliRow.holds Try.pinned (OpenSpec.ofChange fnExactIsValidPauliWrong)

/-- 'laws.FnExactRotationUnits': WHATEVER THE INPUT: true; the input reads as it did. -/
def fnExactRotationUnitsSpec : ChangeSpec := { name := "fnExactRotationUnits", fn := fun _ => fun
  | [d] => { results := [.lit (.bool true)], args := [d] }
  | _ => none }
def fnExactRotationUnitsRow : OpenClaim := { program := "ytiemkfifklaadaa", sum := "c4b2a4672c3b83b352b067cf1de33a0f01934d7522c034fca2ec90df895d82a0", func := "loop.example/g00506/laws.FnExactRotationUnits", spec := "fnExactRotationUnits", apart := false }
def FnExactRotationUnitsSaid : Prop := fnExactRotationUnitsRow.holds Try.pinned (OpenSpec.ofChange fnExactRotationUnitsSpec)

/-- ITS FALSE NEIGHBOUR: 'it returns false'. Refute it at one input. -/
def fnExactRotationUnitsWrong : ChangeSpec := { name := "fnExactRotationUnits", fn := fun _ => fun
  | [d] => { results := [.lit (.bool false)], args := [d] }
  | _ => none }
def FnExactRotationUnitsWrongFalsely : Prop := fnExactRotationUnitsRow.holds Try.pinned (OpenSpec.ofChange fnExactRotationUnitsWrong)

/-- 'laws.FnExactPaulisCommute': WHATEVER THE INPUT: true; the input reads as it did. -/
def fnExactPaulisCommuteSpec : ChangeSpec := { name := "fnExactPaulisCommute", fn := fun _ => fun
  | [d1, d2] => { results := [.lit (.bool true)], args := [d1, d2] }
  | _ => none }
def fnExactPaulisCommuteRow : OpenClaim := { program := "ytiemkfifklaadaa", sum := "c4b2a4672c3b83b352b067cf1de33a0f01934d7522c034fca2ec90df895d82a0", func := "loop.example/g00506/laws.FnExactPaulisCommute", spec := "fnExactPaulisCommute", apart := false }
def FnExactPaulisCommuteSaid : Prop := fnExactPaulisCommuteRow.holds Try.pinned (OpenSpec.ofChange fnExactPaulisCommuteSpec)

/-- ITS FALSE NEIGHBOUR: 'it returns false'. Refute it at one input. -/
def fnExactPaulisCommuteWrong : ChangeSpec := { name := "fnExactPaulisCommute", fn := fun _ => fun
  | [d1, d2] => { results := [.lit (.bool false)], args := [d1, d2] }
  | _ => none }
def FnExactPaulisCommuteWrongFalsely : Prop := fnExactPaulisCommuteRow.holds Try.pinned (OpenSpec.ofChange fnExactPaulisCommuteWrong)

/-- 'laws.FnExactRunCost': WHATEVER THE INPUT: true; the input reads as it did. -/
def fnExactRunCostSpec : ChangeSpec := { name := "fnExactRunCost", fn := fun _ => fun
  | [d] => { results := [.lit (.bool true)], args := [d] }
  | _ => none }
def fnExactRunCostRow : OpenClaim := { program := "ytiemkfifklaadaa", sum := "c4b2a4672c3b83b352b067cf1de33a0f01934d7522c034fca2ec90df895d82a0", func := "loop.example/g00506/laws.FnExactRunCost", spec := "fnExactRunCost", apart := false }
def FnExactRunCostSaid : Prop := fnExactRunCostRow.holds Try.pinned (OpenSpec.ofChange fnExactRunCostSpec)

/-- ITS FALSE NEIGHBOUR: 'it returns false'. Refute it at one input. -/
def fnExactRunCostWrong : ChangeSpec := { name := "fnExactRunCost", fn := fun _ => fun
  | [d] => { results := [.lit (.bool false)], args := [d] }
  | _ => none }
def FnExactRunCostWrongFalsely : Prop := fnExactRunCostRow.holds Try.pinned (OpenSpec.ofChange fnExactRunCostWrong)

/-- 'laws.FnExactIsHermitianPauli': WHATEVER THE INPUT: true; the input reads as it did. -/
def fnExactIsHermitianPauliSpec : ChangeSpec := { name := "fnExactIsHermitianPauli", fn := fun _ => fun
  | [d] => { results := [.lit (.bool true)], args := [d] }
  | _ => none }
def fnExactIsHermitianPauliRow : OpenClaim := { program := "ytiemkfifklaadaa", sum := "c4b2a4672c3b83b352b067cf1de33a0f01934d7522c034fca2ec90df895d82a0", func := "loop.example/g00506/laws.FnExactIsHermitianPauli", spec := "fnExactIsHermitianPauli", apart := false }
def FnExactIsHermitianPauliSaid : Prop := fnExactIsHermitianPauliRow.holds Try.pinned (OpenSpec.ofChange fnExactIsHermitianPauliSpec)

/-- ITS FALSE NEIGHBOUR: 'it returns false'. Refute it at one input. -/
def fnExactIsHermitianPauliWrong : ChangeSpec := { name := "fnExactIsHermitianPauli", fn := fun _ => fun
  | [d] => { results := [.lit (.bool false)], args := [d] }
  | _ => none }
def FnExactIsHermitianPauliWrongFalsely : Prop := fnExactIsHermitianPauliRow.holds Try.pinned (OpenSpec.ofChange fnExactIsHermitianPauliWrong)

/-- 'laws.FnExactCosetRepresentative': WHATEVER THE INPUT: true; the input reads as it did. -/
def fnExactCosetRepresentativeSpec : ChangeSpec := { name := "fnExactCosetRepresentative", fn := fun _ => fun
  | [d] => { results := [.lit (.bool true)], args := [d] }
  | _ => none }
def fnExactCosetRepresentativeRow : OpenClaim := { program := "ytiemkfifklaadaa", sum := "c4b2a4672c3b83b352b067cf1de33a0f01934d7522c034fca2ec90df895d82a0", func := "loop.example/g00506/laws.FnExactCosetRepresentative", spec := "fnExactCosetRepresentative", apart := false }
def FnExactCosetRepresentativeSaid : Prop := fnExactCosetRepresentativeRow.holds Try.pinned (OpenSpec.ofChange fnExactCosetRepresentativeSpec)

/-- ITS FALSE NEIGHBOUR: 'it returns false'. Refute it at one input. -/
def fnExactCosetRepresentativeWrong : ChangeSpec := { name := "fnExactCosetRepresentative", fn := fun _ => fun
  | [d] => { results := [.lit (.bool false)], args := [d] }
  | _ => none }
def FnExactCosetRepresentativeWrongFalsely : Prop := fnExactCosetRepresentativeRow.holds Try.pinned (OpenSpec.ofChange fnExactCosetRepresentativeWrong)

/-- 'laws.FnExactFormatPauli': WHATEVER THE INPUT: true; the input reads as it did. -/
def fnExactFormatPauliSpec : ChangeSpec := { name := "fnExactFormatPauli", fn := fun _ => fun
  | [d] => { results := [.lit (.bool true)], args := [d] }
  | _ => none }
def fnExactFormatPauliRow : OpenClaim := { program := "ytiemkfifklaadaa", sum := "c4b2a4672c3b83b352b067cf1de33a0f01934d7522c034fca2ec90df895d82a0", func := "loop.example/g00506/laws.FnExactFormatPauli", spec := "fnExactFormatPauli", apart := false }
def FnExactFormatPauliSaid : Prop := fnExactFormatPauliRow.holds Try.pinned (OpenSpec.ofChange fnExactFormatPauliSpec)

/-- ITS FALSE NEIGHBOUR: 'it returns false'. Refute it at one input. -/
def fnExactFormatPauliWrong : ChangeSpec := { name := "fnExactFormatPauli", fn := fun _ => fun
  | [d] => { results := [.lit (.bool false)], args := [d] }
  | _ => none }
def FnExactFormatPauliWrongFalsely : Prop := fnExactFormatPauliRow.holds Try.pinned (OpenSpec.ofChange fnExactFormatPauliWrong)

/-- 'laws.FnExactEqualTableau': WHATEVER THE INPUT: true; the input reads as it did. -/
def fnExactEqualTableauSpec : ChangeSpec := { name := "fnExactEqualTableau", fn := fun _ => fun
  | [d1, d2] => { results := [.lit (.bool true)], args := [d1, d2] }
  | _ => none }
def fnExactEqualTableauRow : OpenClaim := { program := "ytiemkfifklaadaa", sum := "c4b2a4672c3b83b352b067cf1de33a0f01934d7522c034fca2ec90df895d82a0", func := "loop.example/g00506/laws.FnExactEqualTableau", spec := "fnExactEqualTableau", apart := false }
def FnExactEqualTableauSaid : Prop := fnExactEqualTableauRow.holds Try.pinned (OpenSpec.ofChange fnExactEqualTableauSpec)

/-- ITS FALSE NEIGHBOUR: 'it returns false'. Refute it at one input. -/
def fnExactEqualTableauWrong : ChangeSpec := { name := "fnExactEqualTableau", fn := fun _ => fun
  | [d1, d2] => { results := [.lit (.bool false)], args := [d1, d2] }
  | _ => none }
def FnExactEqualTableauWrongFalsely : Prop := fnExactEqualTableauRow.holds Try.pinned (OpenSpec.ofChange fnExactEqualTableauWrong)

/-- 'laws.FnExactMulPauli': WHATEVER THE INPUT: true; the input reads as it did. -/
def fnExactMulPauliSpec : ChangeSpec := { name := "fnExactMulPauli", fn := fun _ => fun
  | [d1, d2] => { results := [.lit (.bool true)], args := [d1, d2] }
  | _ => none }
def fnExactMulPauliRow : OpenClaim := { program := "ytiemkfifklaadaa", sum := "c4b2a4672c3b83b352b067cf1de33a0f01934d7522c034fca2ec90df895d82a0", func := "loop.example/g00506/laws.FnExactMulPauli", spec := "fnExactMulPauli", apart := false }
def FnExactMulPauliSaid : Prop := fnExactMulPauliRow.holds Try.pinned (OpenSpec.ofChange fnExactMulPauliSpec)

/-- ITS FALSE NEIGHBOUR: 'it returns false'. Refute it at one input. -/
def fnExactMulPauliWrong : ChangeSpec := { name := "fnExactMulPauli", fn := fun _ => fun
  | [d1, d2] => { results := [.lit (.bool false)], args := [d1, d2] }
  | _ => none }
def FnExactMulPauliWrongFalsely : Prop := fnExactMulPauliRow.holds Try.pinned (OpenSpec.ofChange fnExactMulPauliWrong)

/-- 'laws.FnCommute': WHATEVER THE INPUT: true; the input reads as it did. -/
def fnCommuteSpec : ChangeSpec := { name := "fnCommute", fn := fun _ => fun
  | [d] => { results := [.lit (.bool true)], args := [d] }
  | _ => none }
def fnCommuteRow : OpenClaim := { program := "ytiemkfifklaadaa", sum := "c4b2a4672c3b83b352b067cf1de33a0f01934d7522c034fca2ec90df895d82a0", func := "loop.example/g00506/laws.FnCommute", spec := "fnCommute", apart := false }
def FnCommuteSaid : Prop := fnCommuteRow.holds Try.pinned (OpenSpec.ofChange fnCommuteSpec)

/-- ITS FALSE NEIGHBOUR: 'it returns false'. Refute it at one input. -/
def fnCommuteWrong : ChangeSpec := { name := "fnCommute", fn := fun _ => fun
  | [d] => { results := [.lit (.bool false)], args := [d] }
  | _ => none }
def FnCommuteWrongFalsely : Prop := fnCommuteRow.holds Try.pinned (OpenSpec.ofChange fnCommuteWrong)

/-- 'laws.FnExactIdentityTableau': WHATEVER THE INPUT: true; the input reads as it did. -/
def fnExactIdentityTableauSpec : ChangeSpec := { name := "fnExactIdentityTableau", fn := fun _ => fun
  | [d] => { results := [.lit (.bool true)], args := [d] }
  | _ => none }
def fnExactIdentityTableauRow : OpenClaim := { program := "ytiemkfifklaadaa", sum := "c4b2a4672c3b83b352b067cf1de33a0f01934d7522c034fca2ec90df895d82a0", func := "loop.example/g00506/laws.FnExactIdentityTableau", spec := "fnExactIdentityTableau", apart := false }
def FnExactIdentityTableauSaid : Prop := fnExactIdentityTableauRow.holds Try.pinned (OpenSpec.ofChange fnExactIdentityTableauSpec)

/-- ITS FALSE NEIGHBOUR: 'it returns false'. Refute it at one input. -/
def fnExactIdentityTableauWrong : ChangeSpec := { name := "fnExactIdentityTableau", fn := fun _ => fun
  | [d] => { results := [.lit (.bool false)], args := [d] }
  | _ => none }
def FnExactIdentityTableauWrongFalsely : Prop := fnExactIdentityTableauRow.holds Try.pinned (OpenSpec.ofChange fnExactIdentityTableauWrong)

/-- 'laws.FnHermitian': WHATEVER THE INPUT: true; the input reads as it did. -/
def fnHermitianSpec : ChangeSpec := { name := "fnHermitian", fn := fun _ => fun
  | [d] => { results := [.lit (.bool true)], args := [d] }
  | _ => none }
def fnHermitianRow : OpenClaim := { program := "ytiemkfifklaadaa", sum := "c4b2a4672c3b83b352b067cf1de33a0f01934d7522c034fca2ec90df895d82a0", func := "loop.example/g00506/laws.FnHermitian", spec := "fnHermitian", apart := false }
def FnHermitianSaid : Prop := fnHermitianRow.holds Try.pinned (OpenSpec.ofChange fnHermitianSpec)

/-- ITS FALSE NEIGHBOUR: 'it returns false'. Refute it at one input. -/
def fnHermitianWrong : ChangeSpec := { name := "fnHermitian", fn := fun _ => fun
  | [d] => { results := [.lit (.bool false)], args := [d] }
  | _ => none }
def FnHermitianWrongFalsely : Prop := fnHermitianRow.holds Try.pinned (OpenSpec.ofChange fnHermitianWrong)

/- THE SECOND FORM. 'bulk': how many values and letters a reading holds, each counted each time it is reached (what is shared counts as often as it is met; a slice's spare places count too). A statement '..UptoSaid' is the law's where the arguments, and the package variables that the reading takes, are together of bulk at most 1048576: NARROWER than '..Said'. Prove '..Said' where nothing that the law and all that it calls make is longer than what came in: it says more and counts as full. Else prove '..UptoSaid'. A law counts once. -/
mutual
def uptoBulk {H : Type} : DataW H → Nat
  | .lit (.string bytes) => bytes.length + 1
  | .lit _ => 1
  | .nil => 1
  | .ptr d => uptoBulk d + 1
  | .slice elems spare => uptoBulkAll elems + uptoBulkAll spare + 1
  | .agg parts => uptoBulkAll parts + 1
  | .iface _ d => uptoBulk d + 1
  | .map entries => uptoBulkEntries entries + 1
  | .held _ => 1
def uptoBulkAll {H : Type} : List (DataW H) → Nat
  | [] => 0
  | d :: r => uptoBulk d + uptoBulkAll r
def uptoBulkEntries {H : Type} : List (Lit × DataW H) → Nat
  | [] => 0
  | x :: r => uptoBulkEntry x + uptoBulkEntries r
def uptoBulkEntry {H : Type} : Lit × DataW H → Nat
  | (.string bytes, d) => bytes.length + uptoBulk d + 1
  | (_, d) => uptoBulk d + 1
 end
def uptoSmall : (H : Type) → List (DataW H) → Bool := fun _ ds => decide (uptoBulkAll ds ≤ 1048576)
def OpenSpec.upto (s : _root_.Go.ChangeSpec) : _root_.Go.OpenSpec := { _root_.Go.OpenSpec.ofChange s with cond := some uptoSmall }

/-- 'laws.FnExactIsValidPauli', WHERE WHAT IT READS IS OF BULK AT MOST 1048576: true; the input reads as it did. -/
def fnExactIsValidPauliUptoRow : OpenClaim := { program := "ytiemkfifklaadaa", sum := "c4b2a4672c3b83b352b067cf1de33a0f01934d7522c034fca2ec90df895d82a0", func := "loop.example/g00506/laws.FnExactIsValidPauli", spec := "fnExactIsValidPauli", apart := false, narrowed := true }
def FnExactIsValidPauliUptoSaid : Prop := fnExactIsValidPauliUptoRow.holds Try.pinned (OpenSpec.upto fnExactIsValidPauliSpec)

/-- 'laws.FnExactRotationUnits', WHERE WHAT IT READS IS OF BULK AT MOST 1048576: true; the input reads as it did. -/
def fnExactRotationUnitsUptoRow : OpenClaim := { program := "ytiemkfifklaadaa", sum := "c4b2a4672c3b83b352b067cf1de33a0f01934d7522c034fca2ec90df895d82a0", func := "loop.example/g00506/laws.FnExactRotationUnits", spec := "fnExactRotationUnits", apart := false, narrowed := true }
def FnExactRotationUnitsUptoSaid : Prop := fnExactRotationUnitsUptoRow.holds Try.pinned (OpenSpec.upto fnExactRotationUnitsSpec)

/-- 'laws.FnExactPaulisCommute', WHERE WHAT IT READS IS OF BULK AT MOST 1048576: true; the input reads as it did. -/
def fnExactPaulisCommuteUptoRow : OpenClaim := { program := "ytiemkfifklaadaa", sum := "c4b2a4672c3b83b352b067cf1de33a0f01934d7522c034fca2ec90df895d82a0", func := "loop.example/g00506/laws.FnExactPaulisCommute", spec := "fnExactPaulisCommute", apart := false, narrowed := true }
def FnExactPaulisCommuteUptoSaid : Prop := fnExactPaulisCommuteUptoRow.holds Try.pinned (OpenSpec.upto fnExactPaulisCommuteSpec)

/-- 'laws.FnExactRunCost', WHERE WHAT IT READS IS OF BULK AT MOST 1048576: true; the input reads as it did. -/
def fnExactRunCostUptoRow : OpenClaim := { program := "ytiemkfifklaadaa", sum := "c4b2a4672c3b83b352b067cf1de33a0f01934d7522c034fca2ec90df895d82a0", func := "loop.example/g00506/laws.FnExactRunCost", spec := "fnExactRunCost", apart := false, narrowed := true }
def FnExactRunCostUptoSaid : Prop := fnExactRunCostUptoRow.holds Try.pinned (OpenSpec.upto fnExactRunCostSpec)

/-- 'laws.FnExactIsHermitianPauli', WHERE WHAT IT READS IS OF BULK AT MOST 1048576: true; the input reads as it did. -/
def fnExactIsHermitianPauliUptoRow : OpenClaim := { program := "ytiemkfifklaadaa", sum := "c4b2a4672c3b83b352b067cf1de33a0f01934d7522c034fca2ec90df895d82a0", func := "loop.example/g00506/laws.FnExactIsHermitianPauli", spec := "fnExactIsHermitianPauli", apart := false, narrowed := true }
def FnExactIsHermitianPauliUptoSaid : Prop := fnExactIsHermitianPauliUptoRow.holds Try.pinned (OpenSpec.upto fnExactIsHermitianPauliSpec)

/-- 'laws.FnExactCosetRepresentative', WHERE WHAT IT READS IS OF BULK AT MOST 1048576: true; the input reads as it did. -/
def fnExactCosetRepresentativeUptoRow : OpenClaim := { program := "ytiemkfifklaadaa", sum := "c4b2a4672c3b83b352b067cf1de33a0f01934d7522c034fca2ec90df895d82a0", func := "loop.example/g00506/laws.FnExactCosetRepresentative", spec := "fnExactCosetRepresentative", apart := false, narrowed := true }
def FnExactCosetRepresentativeUptoSaid : Prop := fnExactCosetRepresentativeUptoRow.holds Try.pinned (OpenSpec.upto fnExactCosetRepresentativeSpec)

/-- 'laws.FnExactFormatPauli', WHERE WHAT IT READS IS OF BULK AT MOST 1048576: true; the input reads as it did. -/
def fnExactFormatPauliUptoRow : OpenClaim := { program := "ytiemkfifklaadaa", sum := "c4b2a4672c3b83b352b067cf1de33a0f01934d7522c034fca2ec90df895d82a0", func := "loop.example/g00506/laws.FnExactFormatPauli", spec := "fnExactFormatPauli", apart := false, narrowed := true }
def FnExactFormatPauliUptoSaid : Prop := fnExactFormatPauliUptoRow.holds Try.pinned (OpenSpec.upto fnExactFormatPauliSpec)

/-- 'laws.FnExactEqualTableau', WHERE WHAT IT READS IS OF BULK AT MOST 1048576: true; the input reads as it did. -/
def fnExactEqualTableauUptoRow : OpenClaim := { program := "ytiemkfifklaadaa", sum := "c4b2a4672c3b83b352b067cf1de33a0f01934d7522c034fca2ec90df895d82a0", func := "loop.example/g00506/laws.FnExactEqualTableau", spec := "fnExactEqualTableau", apart := false, narrowed := true }
def FnExactEqualTableauUptoSaid : Prop := fnExactEqualTableauUptoRow.holds Try.pinned (OpenSpec.upto fnExactEqualTableauSpec)

/-- 'laws.FnExactMulPauli', WHERE WHAT IT READS IS OF BULK AT MOST 1048576: true; the input reads as it did. -/
def fnExactMulPauliUptoRow : OpenClaim := { program := "ytiemkfifklaadaa", sum := "c4b2a4672c3b83b352b067cf1de33a0f01934d7522c034fca2ec90df895d82a0", func := "loop.example/g00506/laws.FnExactMulPauli", spec := "fnExactMulPauli", apart := false, narrowed := true }
def FnExactMulPauliUptoSaid : Prop := fnExactMulPauliUptoRow.holds Try.pinned (OpenSpec.upto fnExactMulPauliSpec)

/-- 'laws.FnCommute', WHERE WHAT IT READS IS OF BULK AT MOST 1048576: true; the input reads as it did. -/
def fnCommuteUptoRow : OpenClaim := { program := "ytiemkfifklaadaa", sum := "c4b2a4672c3b83b352b067cf1de33a0f01934d7522c034fca2ec90df895d82a0", func := "loop.example/g00506/laws.FnCommute", spec := "fnCommute", apart := false, narrowed := true }
def FnCommuteUptoSaid : Prop := fnCommuteUptoRow.holds Try.pinned (OpenSpec.upto fnCommuteSpec)

/-- 'laws.FnExactIdentityTableau', WHERE WHAT IT READS IS OF BULK AT MOST 1048576: true; the input reads as it did. -/
def fnExactIdentityTableauUptoRow : OpenClaim := { program := "ytiemkfifklaadaa", sum := "c4b2a4672c3b83b352b067cf1de33a0f01934d7522c034fca2ec90df895d82a0", func := "loop.example/g00506/laws.FnExactIdentityTableau", spec := "fnExactIdentityTableau", apart := false, narrowed := true }
def FnExactIdentityTableauUptoSaid : Prop := fnExactIdentityTableauUptoRow.holds Try.pinned (OpenSpec.upto fnExactIdentityTableauSpec)

/-- 'laws.FnHermitian', WHERE WHAT IT READS IS OF BULK AT MOST 1048576: true; the input reads as it did. -/
def fnHermitianUptoRow : OpenClaim := { program := "ytiemkfifklaadaa", sum := "c4b2a4672c3b83b352b067cf1de33a0f01934d7522c034fca2ec90df895d82a0", func := "loop.example/g00506/laws.FnHermitian", spec := "fnHermitian", apart := false, narrowed := true }
def FnHermitianUptoSaid : Prop := fnHermitianUptoRow.holds Try.pinned (OpenSpec.upto fnHermitianSpec)

end Rows
end Go.Proofs.Ytiemkfifklaadaa
