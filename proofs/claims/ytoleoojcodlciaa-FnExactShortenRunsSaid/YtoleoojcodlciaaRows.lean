/-
  No cell of these rows narrows 'for every input' (looked for: loops, veiled, ifaces, maps, wideKeys, modest, calm, conditions, laid).
  DERIVED. THE GIVEN ROWS OF THIS SEAT. 5 by the template 'for every input the law returns true; each argument reads behind the call as it read before'; 0 by the template 'total and deterministic' (their statements: YtoleoojcodlciaaTotals.lean).
  GIVEN WITH THE SEED: the statements are not yours to turn. If you find one false, say at which input.
  Laid BY PROGRAM, IN A SANDBOX (cutbox-rows.mjs): the forced cells as the released guide's own fill.sh prints them over the translation b487847eba00b197… (all of the seat's roots in one cut). By AI agents, Wed Nov 11 2026. No macro, syntax, notation, axiom, sorry.
-/
import Derived.Test.YtoleoojcodlciaaChecked
import GoSem.Claim
import GoSem.ClaimJoined
import GoSem.ClaimMapViews
import Derived.JoinedTies
import Derived.KernelRfl
namespace Go.Proofs.Ytoleoojcodlciaa
/- THE CELL 'sum', in the pinned program and in every row, IS THE sha256 OF THE DUMP (.gsa) THAT YtoleoojcodlciaaProg.lean LOADS. Nothing in Lean hashes anything: it is a label: what it is worth is what the hold of that sum in a sandbox is worth. -/
noncomputable def Try.pinned : Pinned := { name := "ytoleoojcodlciaa", sum := "b487847eba00b197c9910983e05645476981e4025d2b255c9332cd236466734c", checked := Try.checked }
namespace Rows
def none {H : Type} : Left H := { results := [], args := [] }

/-- 'laws.FnExactPauliMatrix': WHATEVER THE INPUT: true; the input reads as it did. -/
def fnExactPauliMatrixSpec : ChangeSpec := { name := "fnExactPauliMatrix", fn := fun _ => fun
  | [d] => { results := [.lit (.bool true)], args := [d] }
  | _ => none }
def fnExactPauliMatrixRow : OpenClaim := { program := "ytoleoojcodlciaa", sum := "b487847eba00b197c9910983e05645476981e4025d2b255c9332cd236466734c", func := "loop.example/g00506/laws.FnExactPauliMatrix", spec := "fnExactPauliMatrix", apart := false }
def FnExactPauliMatrixSaid : Prop := fnExactPauliMatrixRow.holds Try.pinned (OpenSpec.ofChange fnExactPauliMatrixSpec)

/-- ITS FALSE NEIGHBOUR: 'it returns false'. Refute it at one input. -/
def fnExactPauliMatrixWrong : ChangeSpec := { name := "fnExactPauliMatrix", fn := fun _ => fun
  | [d] => { results := [.lit (.bool false)], args := [d] }
  | _ => none }
def FnExactPauliMatrixWrongFalsely : Prop := fnExactPauliMatrixRow.holds Try.pinned (OpenSpec.ofChange fnExactPauliMatrixWrong)

/-- 'laws.FnExactAllCliffordWords': WHATEVER THE INPUT: true; the input reads as it did. -/
def fnExactAllCliffordWordsSpec : ChangeSpec := { name := "fnExactAllCliffordWords", fn := fun _ => fun
  | [] => { results := [.lit (.bool true)], args := [] }
  | _ => none }
def fnExactAllCliffordWordsRow : OpenClaim := { program := "ytoleoojcodlciaa", sum := "b487847eba00b197c9910983e05645476981e4025d2b255c9332cd236466734c", func := "loop.example/g00506/laws.FnExactAllCliffordWords", spec := "fnExactAllCliffordWords", apart := false }
def FnExactAllCliffordWordsSaid : Prop := fnExactAllCliffordWordsRow.holds Try.pinned (OpenSpec.ofChange fnExactAllCliffordWordsSpec)

/-- ITS FALSE NEIGHBOUR: 'it returns false'. Refute it at one input. -/
def fnExactAllCliffordWordsWrong : ChangeSpec := { name := "fnExactAllCliffordWords", fn := fun _ => fun
  | [] => { results := [.lit (.bool false)], args := [] }
  | _ => none }
def FnExactAllCliffordWordsWrongFalsely : Prop := fnExactAllCliffordWordsRow.holds Try.pinned (OpenSpec.ofChange fnExactAllCliffordWordsWrong)

/-- 'laws.FnExactCliffordWord': WHATEVER THE INPUT: true; the input reads as it did. -/
def fnExactCliffordWordSpec : ChangeSpec := { name := "fnExactCliffordWord", fn := fun _ => fun
  | [d] => { results := [.lit (.bool true)], args := [d] }
  | _ => none }
def fnExactCliffordWordRow : OpenClaim := { program := "ytoleoojcodlciaa", sum := "b487847eba00b197c9910983e05645476981e4025d2b255c9332cd236466734c", func := "loop.example/g00506/laws.FnExactCliffordWord", spec := "fnExactCliffordWord", apart := false }
def FnExactCliffordWordSaid : Prop := fnExactCliffordWordRow.holds Try.pinned (OpenSpec.ofChange fnExactCliffordWordSpec)

/-- ITS FALSE NEIGHBOUR: 'it returns false'. Refute it at one input. -/
def fnExactCliffordWordWrong : ChangeSpec := { name := "fnExactCliffordWord", fn := fun _ => fun
  | [d] => { results := [.lit (.bool false)], args := [d] }
  | _ => none }
def FnExactCliffordWordWrongFalsely : Prop := fnExactCliffordWordRow.holds Try.pinned (OpenSpec.ofChange fnExactCliffordWordWrong)

/-- 'laws.FnApartMeaning': WHATEVER THE INPUT: true; the input reads as it did. -/
def fnApartMeaningSpec : ChangeSpec := { name := "fnApartMeaning", fn := fun _ => fun
  | [d] => { results := [.lit (.bool true)], args := [d] }
  | _ => none }
def fnApartMeaningRow : OpenClaim := { program := "ytoleoojcodlciaa", sum := "b487847eba00b197c9910983e05645476981e4025d2b255c9332cd236466734c", func := "loop.example/g00506/laws.FnApartMeaning", spec := "fnApartMeaning", apart := false }
def FnApartMeaningSaid : Prop := fnApartMeaningRow.holds Try.pinned (OpenSpec.ofChange fnApartMeaningSpec)

/-- ITS FALSE NEIGHBOUR: 'it returns false'. Refute it at one input. -/
def fnApartMeaningWrong : ChangeSpec := { name := "fnApartMeaning", fn := fun _ => fun
  | [d] => { results := [.lit (.bool false)], args := [d] }
  | _ => none }
def FnApartMeaningWrongFalsely : Prop := fnApartMeaningRow.holds Try.pinned (OpenSpec.ofChange fnApartMeaningWrong)

/-- 'laws.FnExactShortenRuns': WHATEVER THE INPUT: true; the input reads as it did. -/
def fnExactShortenRunsSpec : ChangeSpec := { name := "fnExactShortenRuns", fn := fun _ => fun
  | [d1, d2] => { results := [.lit (.bool true)], args := [d1, d2] }
  | _ => none }
def fnExactShortenRunsRow : OpenClaim := { program := "ytoleoojcodlciaa", sum := "b487847eba00b197c9910983e05645476981e4025d2b255c9332cd236466734c", func := "loop.example/g00506/laws.FnExactShortenRuns", spec := "fnExactShortenRuns", unfollowed := true, recurses := true, apart := false }
def FnExactShortenRunsSaid : Prop := fnExactShortenRunsRow.holds Try.pinned (OpenSpec.ofChange fnExactShortenRunsSpec)

/-- ITS FALSE NEIGHBOUR: 'it returns false'. Refute it at one input. -/
def fnExactShortenRunsWrong : ChangeSpec := { name := "fnExactShortenRuns", fn := fun _ => fun
  | [d1, d2] => { results := [.lit (.bool false)], args := [d1, d2] }
  | _ => none }
def FnExactShortenRunsWrongFalsely : Prop := fnExactShortenRunsRow.holds Try.pinned (OpenSpec.ofChange fnExactShortenRunsWrong)

/- THE SECOND FORM. 'bulk': how many values and letters a reading holds, each counted each time it is reached (what is shared counts as often as it is met; a slice's spare places count too). A statement '..UptoSaid' is the law's where the arguments, and the package variables that the reading takes, are together of bulk at most 1048576: NARROWER than '..Said'. Prove '..Said' where nothing that the law and all that it calls make is longer than what came in: it says more and counts as full. Else prove '..UptoSaid'. A law counts once. -/
mutual
def uptoBulk {H : Type} : DataW H → Nat
  | .lit (.string bytes) => bytes.length + 1
  | .lit _ => 1
  | .nil => 1
  | .ptr d => uptoBulk d + 1
  | .slice elems spare => uptoBulkAll elems + uptoBulkAll spare + 1
  | .agg parts => uptoBulkAll parts + 1
  | .iface _ d => uptoBulk d + 1
  | .map entries => uptoBulkEntries entries + 1
  | .held _ => 1
def uptoBulkAll {H : Type} : List (DataW H) → Nat
  | [] => 0
  | d :: r => uptoBulk d + uptoBulkAll r
def uptoBulkEntries {H : Type} : List (Lit × DataW H) → Nat
  | [] => 0
  | x :: r => uptoBulkEntry x + uptoBulkEntries r
def uptoBulkEntry {H : Type} : Lit × DataW H → Nat
  | (.string bytes, d) => bytes.length + uptoBulk d + 1
  | (_, d) => uptoBulk d + 1
 end
def uptoSmall : (H : Type) → List (DataW H) → Bool := fun _ ds => decide (uptoBulkAll ds ≤ 1048576)
def OpenSpec.upto (s : _root_.Go.ChangeSpec) : _root_.Go.OpenSpec := { _root_.Go.OpenSpec.ofChange s with cond := some uptoSmall }

/-- 'laws.FnExactPauliMatrix', WHERE WHAT IT READS IS OF BULK AT MOST 1048576: true; the input reads as it did. -/
def fnExactPauliMatrixUptoRow : OpenClaim := { program := "ytoleoojcodlciaa", sum := "b487847eba00b197c9910983e05645476981e4025d2b255c9332cd236466734c", func := "loop.example/g00506/laws.FnExactPauliMatrix", spec := "fnExactPauliMatrix", apart := false, narrowed := true }
def FnExactPauliMatrixUptoSaid : Prop := fnExactPauliMatrixUptoRow.holds Try.pinned (OpenSpec.upto fnExactPauliMatrixSpec)

/-- 'laws.FnExactAllCliffordWords', WHERE WHAT IT READS IS OF BULK AT MOST 1048576: true; the input reads as it did. -/
def fnExactAllCliffordWordsUptoRow : OpenClaim := { program := "ytoleoojcodlciaa", sum := "b487847eba00b197c9910983e05645476981e4025d2b255c9332cd236466734c", func := "loop.example/g00506/laws.FnExactAllCliffordWords", spec := "fnExactAllCliffordWords", apart := false, narrowed := true }
def FnExactAllCliffordWordsUptoSaid : Prop := fnExactAllCliffordWordsUptoRow.holds Try.pinned (OpenSpec.upto fnExactAllCliffordWordsSpec)

/-- 'laws.FnExactCliffordWord', WHERE WHAT IT READS IS OF BULK AT MOST 1048576: true; the input reads as it did. -/
def fnExactCliffordWordUptoRow : OpenClaim := { program := "ytoleoojcodlciaa", sum := "b487847eba00b197c9910983e05645476981e4025d2b255c9332cd236466734c", func := "loop.example/g00506/laws.FnExactCliffordWord", spec := "fnExactCliffordWord", apart := false, narrowed := true }
def FnExactCliffordWordUptoSaid : Prop := fnExactCliffordWordUptoRow.holds Try.pinned (OpenSpec.upto fnExactCliffordWordSpec)

/-- 'laws.FnApartMeaning', WHERE WHAT IT READS IS OF BULK AT MOST 1048576: true; the input reads as it did. -/
def fnApartMeaningUptoRow : OpenClaim := { program := "ytoleoojcodlciaa", sum := "b487847eba00b197c9910983e05645476981e4025d2b255c9332cd236466734c", func := "loop.example/g00506/laws.FnApartMeaning", spec := "fnApartMeaning", apart := false, narrowed := true }
def FnApartMeaningUptoSaid : Prop := fnApartMeaningUptoRow.holds Try.pinned (OpenSpec.upto fnApartMeaningSpec)

/-- 'laws.FnExactShortenRuns', WHERE WHAT IT READS IS OF BULK AT MOST 1048576: true; the input reads as it did. -/
def fnExactShortenRunsUptoRow : OpenClaim := { program := "ytoleoojcodlciaa", sum := "b487847eba00b197c9910983e05645476981e4025d2b255c9332cd236466734c", func := "loop.example/g00506/laws.FnExactShortenRuns", spec := "fnExactShortenRuns", unfollowed := true, recurses := true, apart := false, narrowed := true }
def FnExactShortenRunsUptoSaid : Prop := fnExactShortenRunsUptoRow.holds Try.pinned (OpenSpec.upto fnExactShortenRunsSpec)

end Rows
end Go.Proofs.Ytoleoojcodlciaa
