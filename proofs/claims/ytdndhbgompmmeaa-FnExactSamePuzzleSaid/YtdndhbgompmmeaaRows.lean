/-
  No cell of these rows narrows 'for every input' (looked for: loops, veiled, ifaces, maps, wideKeys, modest, calm, conditions, laid).
  DERIVED. THE GIVEN ROWS OF THIS SEAT. 9 by the template 'for every input the law returns true; each argument reads behind the call as it read before'; 0 by the template 'total and deterministic' (their statements: YtdndhbgompmmeaaTotals.lean).
  GIVEN WITH THE SEED: the statements are not yours to turn. If you find one false, say at which input.
  Laid BY PROGRAM, IN A SANDBOX (cutbox-rows.mjs): the forced cells as the released guide's own fill.sh prints them over the translation b67a9385fa6f8eb0… (all of the seat's roots in one cut). By AI agents, Wed Nov 11 2026. No macro, syntax, notation, axiom, sorry.
-/
import Derived.Test.YtdndhbgompmmeaaChecked
import GoSem.Claim
import GoSem.ClaimJoined
import GoSem.ClaimMapViews
import Derived.JoinedTies
import Derived.KernelRfl
namespace Go.Proofs.Ytdndhbgompmmeaa
/- THE CELL 'sum', in the pinned program and in every row, IS THE sha256 OF THE DUMP (.gsa) THAT YtdndhbgompmmeaaProg.lean LOADS. Nothing in Lean hashes anything: it is a label: what it is worth is what the hold of that sum in a sandbox is worth. -/
noncomputable def Try.pinned : Pinned := { name := "ytdndhbgompmmeaa", sum := "b67a9385fa6f8eb0e6cbe4ade997231700e6ac906a0c6fa1122665543b94fdd8", checked := Try.checked }
namespace Rows
def none {H : Type} : Left H := { results := [], args := [] }

/-- 'laws.FnExactFlawName': WHATEVER THE INPUT: true; the input reads as it did. -/
def fnExactFlawNameSpec : ChangeSpec := { name := "fnExactFlawName", fn := fun _ => fun
  | [d] => { results := [.lit (.bool true)], args := [d] }
  | _ => none }
def fnExactFlawNameRow : OpenClaim := { program := "ytdndhbgompmmeaa", sum := "b67a9385fa6f8eb0e6cbe4ade997231700e6ac906a0c6fa1122665543b94fdd8", func := "loop.example/g00926/laws.FnExactFlawName", spec := "fnExactFlawName", apart := false }
def FnExactFlawNameSaid : Prop := fnExactFlawNameRow.holds Try.pinned (OpenSpec.ofChange fnExactFlawNameSpec)

/-- ITS FALSE NEIGHBOUR: 'it returns false'. Refute it at one input. -/
def fnExactFlawNameWrong : ChangeSpec := { name := "fnExactFlawName", fn := fun _ => fun
  | [d] => { results := [.lit (.bool false)], args := [d] }
  | _ => none }
def FnExactFlawNameWrongFalsely : Prop := fnExactFlawNameRow.holds Try.pinned (OpenSpec.ofChange fnExactFlawNameWrong)

/-- 'laws.FnExactMergeCounts': WHATEVER THE INPUT: true; the input reads as it did. -/
def fnExactMergeCountsSpec : ChangeSpec := { name := "fnExactMergeCounts", fn := fun _ => fun
  | [d] => { results := [.lit (.bool true)], args := [d] }
  | _ => none }
def fnExactMergeCountsRow : OpenClaim := { program := "ytdndhbgompmmeaa", sum := "b67a9385fa6f8eb0e6cbe4ade997231700e6ac906a0c6fa1122665543b94fdd8", func := "loop.example/g00926/laws.FnExactMergeCounts", spec := "fnExactMergeCounts", apart := false }
def FnExactMergeCountsSaid : Prop := fnExactMergeCountsRow.holds Try.pinned (OpenSpec.ofChange fnExactMergeCountsSpec)

/-- ITS FALSE NEIGHBOUR: 'it returns false'. Refute it at one input. -/
def fnExactMergeCountsWrong : ChangeSpec := { name := "fnExactMergeCounts", fn := fun _ => fun
  | [d] => { results := [.lit (.bool false)], args := [d] }
  | _ => none }
def FnExactMergeCountsWrongFalsely : Prop := fnExactMergeCountsRow.holds Try.pinned (OpenSpec.ofChange fnExactMergeCountsWrong)

/-- 'laws.FnExactPackedSize': WHATEVER THE INPUT: true; the input reads as it did. -/
def fnExactPackedSizeSpec : ChangeSpec := { name := "fnExactPackedSize", fn := fun _ => fun
  | [d] => { results := [.lit (.bool true)], args := [d] }
  | _ => none }
def fnExactPackedSizeRow : OpenClaim := { program := "ytdndhbgompmmeaa", sum := "b67a9385fa6f8eb0e6cbe4ade997231700e6ac906a0c6fa1122665543b94fdd8", func := "loop.example/g00926/laws.FnExactPackedSize", spec := "fnExactPackedSize", apart := false }
def FnExactPackedSizeSaid : Prop := fnExactPackedSizeRow.holds Try.pinned (OpenSpec.ofChange fnExactPackedSizeSpec)

/-- ITS FALSE NEIGHBOUR: 'it returns false'. Refute it at one input. -/
def fnExactPackedSizeWrong : ChangeSpec := { name := "fnExactPackedSize", fn := fun _ => fun
  | [d] => { results := [.lit (.bool false)], args := [d] }
  | _ => none }
def FnExactPackedSizeWrongFalsely : Prop := fnExactPackedSizeRow.holds Try.pinned (OpenSpec.ofChange fnExactPackedSizeWrong)

/-- 'laws.FnExactSameTable': WHATEVER THE INPUT: true; the input reads as it did. -/
def fnExactSameTableSpec : ChangeSpec := { name := "fnExactSameTable", fn := fun _ => fun
  | [d1, d2] => { results := [.lit (.bool true)], args := [d1, d2] }
  | _ => none }
def fnExactSameTableRow : OpenClaim := { program := "ytdndhbgompmmeaa", sum := "b67a9385fa6f8eb0e6cbe4ade997231700e6ac906a0c6fa1122665543b94fdd8", func := "loop.example/g00926/laws.FnExactSameTable", spec := "fnExactSameTable", apart := false }
def FnExactSameTableSaid : Prop := fnExactSameTableRow.holds Try.pinned (OpenSpec.ofChange fnExactSameTableSpec)

/-- ITS FALSE NEIGHBOUR: 'it returns false'. Refute it at one input. -/
def fnExactSameTableWrong : ChangeSpec := { name := "fnExactSameTable", fn := fun _ => fun
  | [d1, d2] => { results := [.lit (.bool false)], args := [d1, d2] }
  | _ => none }
def FnExactSameTableWrongFalsely : Prop := fnExactSameTableRow.holds Try.pinned (OpenSpec.ofChange fnExactSameTableWrong)

/-- 'laws.FnRuns': WHATEVER THE INPUT: true; the input reads as it did. -/
def fnRunsSpec : ChangeSpec := { name := "fnRuns", fn := fun _ => fun
  | [d1, d2] => { results := [.lit (.bool true)], args := [d1, d2] }
  | _ => none }
def fnRunsRow : OpenClaim := { program := "ytdndhbgompmmeaa", sum := "b67a9385fa6f8eb0e6cbe4ade997231700e6ac906a0c6fa1122665543b94fdd8", func := "loop.example/g00926/laws.FnRuns", spec := "fnRuns", apart := false }
def FnRunsSaid : Prop := fnRunsRow.holds Try.pinned (OpenSpec.ofChange fnRunsSpec)

/-- ITS FALSE NEIGHBOUR: 'it returns false'. Refute it at one input. -/
def fnRunsWrong : ChangeSpec := { name := "fnRuns", fn := fun _ => fun
  | [d1, d2] => { results := [.lit (.bool false)], args := [d1, d2] }
  | _ => none }
def FnRunsWrongFalsely : Prop := fnRunsRow.holds Try.pinned (OpenSpec.ofChange fnRunsWrong)

/-- 'laws.FnExactEndValue': WHATEVER THE INPUT: true; the input reads as it did. -/
def fnExactEndValueSpec : ChangeSpec := { name := "fnExactEndValue", fn := fun _ => fun
  | [d1, d2] => { results := [.lit (.bool true)], args := [d1, d2] }
  | _ => none }
def fnExactEndValueRow : OpenClaim := { program := "ytdndhbgompmmeaa", sum := "b67a9385fa6f8eb0e6cbe4ade997231700e6ac906a0c6fa1122665543b94fdd8", func := "loop.example/g00926/laws.FnExactEndValue", spec := "fnExactEndValue", apart := false }
def FnExactEndValueSaid : Prop := fnExactEndValueRow.holds Try.pinned (OpenSpec.ofChange fnExactEndValueSpec)

/-- ITS FALSE NEIGHBOUR: 'it returns false'. Refute it at one input. -/
def fnExactEndValueWrong : ChangeSpec := { name := "fnExactEndValue", fn := fun _ => fun
  | [d1, d2] => { results := [.lit (.bool false)], args := [d1, d2] }
  | _ => none }
def FnExactEndValueWrongFalsely : Prop := fnExactEndValueRow.holds Try.pinned (OpenSpec.ofChange fnExactEndValueWrong)

/-- 'laws.FnExactSamePuzzle': WHATEVER THE INPUT: true; the input reads as it did. -/
def fnExactSamePuzzleSpec : ChangeSpec := { name := "fnExactSamePuzzle", fn := fun _ => fun
  | [d1, d2] => { results := [.lit (.bool true)], args := [d1, d2] }
  | _ => none }
def fnExactSamePuzzleRow : OpenClaim := { program := "ytdndhbgompmmeaa", sum := "b67a9385fa6f8eb0e6cbe4ade997231700e6ac906a0c6fa1122665543b94fdd8", func := "loop.example/g00926/laws.FnExactSamePuzzle", spec := "fnExactSamePuzzle", apart := false }
def FnExactSamePuzzleSaid : Prop := fnExactSamePuzzleRow.holds Try.pinned (OpenSpec.ofChange fnExactSamePuzzleSpec)

/-- ITS FALSE NEIGHBOUR: 'it returns false'. Refute it at one input. -/
def fnExactSamePuzzleWrong : ChangeSpec := { name := "fnExactSamePuzzle", fn := fun _ => fun
  | [d1, d2] => { results := [.lit (.bool false)], args := [d1, d2] }
  | _ => none }
def FnExactSamePuzzleWrongFalsely : Prop := fnExactSamePuzzleRow.holds Try.pinned (OpenSpec.ofChange fnExactSamePuzzleWrong)

/-- 'laws.FnPacked': WHATEVER THE INPUT: true; the input reads as it did. -/
def fnPackedSpec : ChangeSpec := { name := "fnPacked", fn := fun _ => fun
  | [d1, d2] => { results := [.lit (.bool true)], args := [d1, d2] }
  | _ => none }
def fnPackedRow : OpenClaim := { program := "ytdndhbgompmmeaa", sum := "b67a9385fa6f8eb0e6cbe4ade997231700e6ac906a0c6fa1122665543b94fdd8", func := "loop.example/g00926/laws.FnPacked", spec := "fnPacked", apart := false }
def FnPackedSaid : Prop := fnPackedRow.holds Try.pinned (OpenSpec.ofChange fnPackedSpec)

/-- ITS FALSE NEIGHBOUR: 'it returns false'. Refute it at one input. -/
def fnPackedWrong : ChangeSpec := { name := "fnPacked", fn := fun _ => fun
  | [d1, d2] => { results := [.lit (.bool false)], args := [d1, d2] }
  | _ => none }
def FnPackedWrongFalsely : Prop := fnPackedRow.holds Try.pinned (OpenSpec.ofChange fnPackedWrong)

/-- 'laws.FnExactUnpackList': WHATEVER THE INPUT: true; the input reads as it did. -/
def fnExactUnpackListSpec : ChangeSpec := { name := "fnExactUnpackList", fn := fun _ => fun
  | [d] => { results := [.lit (.bool true)], args := [d] }
  | _ => none }
def fnExactUnpackListRow : OpenClaim := { program := "ytdndhbgompmmeaa", sum := "b67a9385fa6f8eb0e6cbe4ade997231700e6ac906a0c6fa1122665543b94fdd8", func := "loop.example/g00926/laws.FnExactUnpackList", spec := "fnExactUnpackList", apart := false }
def FnExactUnpackListSaid : Prop := fnExactUnpackListRow.holds Try.pinned (OpenSpec.ofChange fnExactUnpackListSpec)

/-- ITS FALSE NEIGHBOUR: 'it returns false'. Refute it at one input. -/
def fnExactUnpackListWrong : ChangeSpec := { name := "fnExactUnpackList", fn := fun _ => fun
  | [d] => { results := [.lit (.bool false)], args := [d] }
  | _ => none }
def FnExactUnpackListWrongFalsely : Prop := fnExactUnpackListRow.holds Try.pinned (OpenSpec.ofChange fnExactUnpackListWrong)

/- THE SECOND FORM. 'bulk': how many values and letters a reading holds, each counted each time it is reached (what is shared counts as often as it is met; a slice's spare places count too). A statement '..UptoSaid' is the law's where the arguments, and the package variables that the reading takes, are together of bulk at most 1048576: NARROWER than '..Said'. Prove '..Said' where nothing that the law and all that it calls make is longer than what came in: it says more and counts as full. Else prove '..UptoSaid'. A law counts once. -/
mutual
def uptoBulk {H : Type} : DataW H → Nat
  | .lit (.string bytes) => bytes.length + 1
  | .lit _ => 1
  | .nil => 1
  | .ptr d => uptoBulk d + 1
  | .slice elems spare => uptoBulkAll elems + uptoBulkAll spare + 1
  | .agg parts => uptoBulkAll parts + 1
  | .iface _ d => uptoBulk d + 1
  | .map entries => uptoBulkEntries entries + 1
  | .held _ => 1
def uptoBulkAll {H : Type} : List (DataW H) → Nat
  | [] => 0
  | d :: r => uptoBulk d + uptoBulkAll r
def uptoBulkEntries {H : Type} : List (Lit × DataW H) → Nat
  | [] => 0
  | x :: r => uptoBulkEntry x + uptoBulkEntries r
def uptoBulkEntry {H : Type} : Lit × DataW H → Nat
  | (.string bytes, d) => bytes.length + uptoBulk d + 1
  | (_, d) => uptoBulk d + 1
 end
def uptoSmall : (H : Type) → List (DataW H) → Bool := fun _ ds => decide (uptoBulkAll ds ≤ 1048576)
def OpenSpec.upto (s : _root_.Go.ChangeSpec) : _root_.Go.OpenSpec := { _root_.Go.OpenSpec.ofChange s with cond := some uptoSmall }

/-- 'laws.FnExactFlawName', WHERE WHAT IT READS IS OF BULK AT MOST 1048576: true; the input reads as it did. -/
def fnExactFlawNameUptoRow : OpenClaim := { program := "ytdndhbgompmmeaa", sum := "b67a9385fa6f8eb0e6cbe4ade997231700e6ac906a0c6fa1122665543b94fdd8", func := "loop.example/g00926/laws.FnExactFlawName", spec := "fnExactFlawName", apart := false, narrowed := true }
def FnExactFlawNameUptoSaid : Prop := fnExactFlawNameUptoRow.holds Try.pinned (OpenSpec.upto fnExactFlawNameSpec)

/-- 'laws.FnExactMergeCounts', WHERE WHAT IT READS IS OF BULK AT MOST 1048576: true; the input reads as it did. -/
def fnExactMergeCountsUptoRow : OpenClaim := { program := "ytdndhbgompmmeaa", sum := "b67a9385fa6f8eb0e6cbe4ade997231700e6ac906a0c6fa1122665543b94fdd8", func := "loop.example/g00926/laws.FnExactMergeCounts", spec := "fnExactMergeCounts", apart := false, narrowed := true }
def FnExactMergeCountsUptoSaid : Prop := fnExactMergeCountsUptoRow.holds Try.pinned (OpenSpec.upto fnExactMergeCountsSpec)

/-- 'laws.FnExactPackedSize', WHERE WHAT IT READS IS OF BULK AT MOST 1048576: true; the input reads as it did. -/
def fnExactPackedSizeUptoRow : OpenClaim := { program := "ytdndhbgompmmeaa", sum := "b67a9385fa6f8eb0e6cbe4ade997231700e6ac906a0c6fa1122665543b94fdd8", func := "loop.example/g00926/laws.FnExactPackedSize", spec := "fnExactPackedSize", apart := false, narrowed := true }
def FnExactPackedSizeUptoSaid : Prop := fnExactPackedSizeUptoRow.holds Try.pinned (OpenSpec.upto fnExactPackedSizeSpec)

/-- 'laws.FnExactSameTable', WHERE WHAT IT READS IS OF BULK AT MOST 1048576: true; the input reads as it did. -/
def fnExactSameTableUptoRow : OpenClaim := { program := "ytdndhbgompmmeaa", sum := "b67a9385fa6f8eb0e6cbe4ade997231700e6ac906a0c6fa1122665543b94fdd8", func := "loop.example/g00926/laws.FnExactSameTable", spec := "fnExactSameTable", apart := false, narrowed := true }
def FnExactSameTableUptoSaid : Prop := fnExactSameTableUptoRow.holds Try.pinned (OpenSpec.upto fnExactSameTableSpec)

/-- 'laws.FnRuns', WHERE WHAT IT READS IS OF BULK AT MOST 1048576: true; the input reads as it did. -/
def fnRunsUptoRow : OpenClaim := { program := "ytdndhbgompmmeaa", sum := "b67a9385fa6f8eb0e6cbe4ade997231700e6ac906a0c6fa1122665543b94fdd8", func := "loop.example/g00926/laws.FnRuns", spec := "fnRuns", apart := false, narrowed := true }
def FnRunsUptoSaid : Prop := fnRunsUptoRow.holds Try.pinned (OpenSpec.upto fnRunsSpec)

/-- 'laws.FnExactEndValue', WHERE WHAT IT READS IS OF BULK AT MOST 1048576: true; the input reads as it did. -/
def fnExactEndValueUptoRow : OpenClaim := { program := "ytdndhbgompmmeaa", sum := "b67a9385fa6f8eb0e6cbe4ade997231700e6ac906a0c6fa1122665543b94fdd8", func := "loop.example/g00926/laws.FnExactEndValue", spec := "fnExactEndValue", apart := false, narrowed := true }
def FnExactEndValueUptoSaid : Prop := fnExactEndValueUptoRow.holds Try.pinned (OpenSpec.upto fnExactEndValueSpec)

/-- 'laws.FnExactSamePuzzle', WHERE WHAT IT READS IS OF BULK AT MOST 1048576: true; the input reads as it did. -/
def fnExactSamePuzzleUptoRow : OpenClaim := { program := "ytdndhbgompmmeaa", sum := "b67a9385fa6f8eb0e6cbe4ade997231700e6ac906a0c6fa1122665543b94fdd8", func := "loop.example/g00926/laws.FnExactSamePuzzle", spec := "fnExactSamePuzzle", apart := false, narrowed := true }
def FnExactSamePuzzleUptoSaid : Prop := fnExactSamePuzzleUptoRow.holds Try.pinned (OpenSpec.upto fnExactSamePuzzleSpec)

/-- 'laws.FnPacked', WHERE WHAT IT READS IS OF BULK AT MOST 1048576: true; the input reads as it did. -/
def fnPackedUptoRow : OpenClaim := { program := "ytdndhbgompmmeaa", sum := "b67a9385fa6f8eb0e6cbe4ade997231700e6ac906a0c6fa1122665543b94fdd8", func := "loop.example/g00926/laws.FnPacked", spec := "fnPacked", apart := false, narrowed := true }
def FnPackedUptoSaid : Prop := fnPackedUptoRow.holds Try.pinned (OpenSpec.upto fnPackedSpec)

/-- 'laws.FnExactUnpackList', WHERE WHAT IT READS IS OF BULK AT MOST 1048576: true; the input reads as it did. -/
def fnExactUnpackListUptoRow : OpenClaim := { program := "ytdndhbgompmmeaa", sum := "b67a9385fa6f8eb0e6cbe4ade997231700e6ac906a0c6fa1122665543b94fdd8", func := "loop.example/g00926/laws.FnExactUnpackList", spec := "fnExactUnpackList", apart := false, narrowed := true }
def FnExactUnpackListUptoSaid : Prop := fnExactUnpackListUptoRow.holds Try.pinned (OpenSpec.upto fnExactUnpackListSpec)

end Rows
end Go.Proofs.Ytdndhbgompmmeaa
