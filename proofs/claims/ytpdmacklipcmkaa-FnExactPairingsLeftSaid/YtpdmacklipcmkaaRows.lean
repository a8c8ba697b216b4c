/-
  No cell of these rows narrows 'for every input' (looked for: loops, veiled, ifaces, maps, wideKeys, modest, calm, conditions, laid).
  DERIVED. THE GIVEN ROWS OF THIS SEAT. 3 by the template 'for every input the law returns true; each argument reads behind the call as it read before'; 0 by the template 'total and deterministic' (their statements: YtpdmacklipcmkaaTotals.lean).
  GIVEN WITH THE SEED: the statements are not yours to turn. If you find one false, say at which input.
  Laid BY PROGRAM, IN A SANDBOX (cutbox-rows.mjs): the forced cells as the released guide's own fill.sh prints them over the translation ab25b6ba65b2cc71… (all of the seat's roots in one cut). By AI agents, Wed Nov 11 2026. No macro, syntax, notation, axiom, sorry.
-/
import Derived.Test.YtpdmacklipcmkaaChecked
import GoSem.Claim
import GoSem.ClaimJoined
import GoSem.ClaimMapViews
import Derived.JoinedTies
import Derived.KernelRfl
namespace Go.Proofs.Ytpdmacklipcmkaa
/- THE CELL 'sum', in the pinned program and in every row, IS THE sha256 OF THE DUMP (.gsa) THAT YtpdmacklipcmkaaProg.lean LOADS. Nothing in Lean hashes anything: it is a label: what it is worth is what the hold of that sum in a sandbox is worth. -/
noncomputable def Try.pinned : Pinned := { name := "ytpdmacklipcmkaa", sum := "ab25b6ba65b2cc710fa8e5c5e0c9684f48f82820ca8d6aef64c6877ff4739982", checked := Try.checked }
namespace Rows
def none {H : Type} : Left H := { results := [], args := [] }

/-- 'laws.FnRoundRobins': WHATEVER THE INPUT: true; the input reads as it did. -/
def fnRoundRobinsSpec : ChangeSpec := { name := "fnRoundRobins", fn := fun _ => fun
  | [d] => { results := [.lit (.bool true)], args := [d] }
  | _ => none }
def fnRoundRobinsRow : OpenClaim := { program := "ytpdmacklipcmkaa", sum := "ab25b6ba65b2cc710fa8e5c5e0c9684f48f82820ca8d6aef64c6877ff4739982", func := "loop.example/g00926/laws.FnRoundRobins", spec := "fnRoundRobins", apart := false }
def FnRoundRobinsSaid : Prop := fnRoundRobinsRow.holds Try.pinned (OpenSpec.ofChange fnRoundRobinsSpec)

/-- ITS FALSE NEIGHBOUR: 'it returns false'. Refute it at one input. -/
def fnRoundRobinsWrong : ChangeSpec := { name := "fnRoundRobins", fn := fun _ => fun
  | [d] => { results := [.lit (.bool false)], args := [d] }
  | _ => none }
def FnRoundRobinsWrongFalsely : Prop := fnRoundRobinsRow.holds Try.pinned (OpenSpec.ofChange fnRoundRobinsWrong)

/-- 'laws.FnRoundsOf': WHATEVER THE INPUT: true; the input reads as it did. -/
def fnRoundsOfSpec : ChangeSpec := { name := "fnRoundsOf", fn := fun _ => fun
  | [d] => { results := [.lit (.bool true)], args := [d] }
  | _ => none }
def fnRoundsOfRow : OpenClaim := { program := "ytpdmacklipcmkaa", sum := "ab25b6ba65b2cc710fa8e5c5e0c9684f48f82820ca8d6aef64c6877ff4739982", func := "loop.example/g00926/laws.FnRoundsOf", spec := "fnRoundsOf", apart := false }
def FnRoundsOfSaid : Prop := fnRoundsOfRow.holds Try.pinned (OpenSpec.ofChange fnRoundsOfSpec)

/-- ITS FALSE NEIGHBOUR: 'it returns false'. Refute it at one input. -/
def fnRoundsOfWrong : ChangeSpec := { name := "fnRoundsOf", fn := fun _ => fun
  | [d] => { results := [.lit (.bool false)], args := [d] }
  | _ => none }
def FnRoundsOfWrongFalsely : Prop := fnRoundsOfRow.holds Try.pinned (OpenSpec.ofChange fnRoundsOfWrong)

/-- 'laws.FnExactPairingsLeft': WHATEVER THE INPUT: true; the input reads as it did. -/
def fnExactPairingsLeftSpec : ChangeSpec := { name := "fnExactPairingsLeft", fn := fun _ => fun
  | [d1, d2] => { results := [.lit (.bool true)], args := [d1, d2] }
  | _ => none }
def fnExactPairingsLeftRow : OpenClaim := { program := "ytpdmacklipcmkaa", sum := "ab25b6ba65b2cc710fa8e5c5e0c9684f48f82820ca8d6aef64c6877ff4739982", func := "loop.example/g00926/laws.FnExactPairingsLeft", spec := "fnExactPairingsLeft", recurses := true, apart := false }
def FnExactPairingsLeftSaid : Prop := fnExactPairingsLeftRow.holds Try.pinned (OpenSpec.ofChange fnExactPairingsLeftSpec)

/-- ITS FALSE NEIGHBOUR: 'it returns false'. Refute it at one input. -/
def fnExactPairingsLeftWrong : ChangeSpec := { name := "fnExactPairingsLeft", fn := fun _ => fun
  | [d1, d2] => { results := [.lit (.bool false)], args := [d1, d2] }
  | _ => none }
def FnExactPairingsLeftWrongFalsely : Prop := fnExactPairingsLeftRow.holds Try.pinned (OpenSpec.ofChange fnExactPairingsLeftWrong)

/- THE SECOND FORM. 'bulk': how many values and letters a reading holds, each counted each time it is reached (what is shared counts as often as it is met; a slice's spare places count too). A statement '..UptoSaid' is the law's where the arguments, and the package variables that the reading takes, are together of bulk at most 1048576: NARROWER than '..Said'. Prove '..Said' where nothing that the law and all that it calls make is longer than what came in: it says more and counts as full. Else prove '..UptoSaid'. A law counts once. -/
mutual
def uptoBulk {H : Type} : DataW H → Nat
  | .lit (.string bytes) => bytes.length + 1
  | .lit _ => 1
  | .nil => 1
  | .ptr d => uptoBulk d + 1
  | .slice elems spare => uptoBulkAll elems + uptoBulkAll spare + 1
  | .agg parts => uptoBulkAll parts + 1
  | .iface _ d => uptoBulk d + 1
  | .map entries => uptoBulkEntries entries + 1
  | .held _ => 1
def uptoBulkAll {H : Type} : List (DataW H) → Nat
  | [] => 0
  | d :: r => uptoBulk d + uptoBulkAll r
def uptoBulkEntries {H : Type} : List (Lit × DataW H) → Nat
  | [] => 0
  | x :: r => uptoBulkEntry x + uptoBulkEntries r
def uptoBulkEntry {H : Type} : Lit × DataW H → Nat
  | (.string bytes, d) => bytes.length + uptoBulk d + 1
  | (_, d) => uptoBulk d + 1
 end
def uptoSmall : (H : Type) → List (DataW H) → Bool := fun _ ds => decide (uptoBulkAll ds ≤ 1048576)
def OpenSpec.upto (s : _root_.Go.ChangeSpec) : _root_.Go.OpenSpec := { _root_.Go.OpenSpec.ofChange s with cond := some uptoSmall }

/-- 'laws.FnRoundRobins', WHERE WHAT IT READS IS OF BULK AT MOST 1048576: true; the input reads as it did. -/
def fnRoundRobinsUptoRow : OpenClaim := { program := "ytpdmacklipcmkaa", sum := "ab25b6ba65b2cc710fa8e5c5e0c9684f48f82820ca8d6aef64c6877ff4739982", func := "loop.example/g00926/laws.FnRoundRobins", spec := "fnRoundRobins", apart := false, narrowed := true }
def FnRoundRobinsUptoSaid : Prop := fnRoundRobinsUptoRow.holds Try.pinned (OpenSpec.upto fnRoundRobinsSpec)

/-- 'laws.FnRoundsOf', WHERE WHAT IT READS IS OF BULK AT MOST 1048576: true; the input reads as it did. -/
def fnRoundsOfUptoRow : OpenClaim := { program := "ytpdmacklipcmkaa", sum := "ab25b6ba65b2cc710fa8e5c5e0c9684f48f82820ca8d6aef64c6877ff4739982", func := "loop.example/g00926/laws.FnRoundsOf", spec := "fnRoundsOf", apart := false, narrowed := true }
def FnRoundsOfUptoSaid : Prop := fnRoundsOfUptoRow.holds Try.pinned (OpenSpec.upto fnRoundsOfSpec)

/-- 'laws.FnExactPairingsLeft', WHERE WHAT IT READS IS OF BULK AT MOST 1048576: true; the input reads as it did. -/
def fnExactPairingsLeftUptoRow : OpenClaim := { program := "ytpdmacklipcmkaa", sum := "ab25b6ba65b2cc710fa8e5c5e0c9684f48f82820ca8d6aef64c6877ff4739982", func := "loop.example/g00926/laws.FnExactPairingsLeft", spec := "fnExactPairingsLeft", recurses := true, apart := false, narrowed := true }
def FnExactPairingsLeftUptoSaid : Prop := fnExactPairingsLeftUptoRow.holds Try.pinned (OpenSpec.upto fnExactPairingsLeftSpec)

end Rows
end Go.Proofs.Ytpdmacklipcmkaa
