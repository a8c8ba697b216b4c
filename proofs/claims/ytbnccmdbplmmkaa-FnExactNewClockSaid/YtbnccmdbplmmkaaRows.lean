/-
  No cell of these rows narrows 'for every input' (looked for: loops, veiled, ifaces, maps, wideKeys, modest, calm, conditions, laid).
  DERIVED. THE GIVEN ROWS OF THIS SEAT. 5 by the template 'for every input the law returns true; each argument reads behind the call as it read before'; 0 by the template 'total and deterministic' (their statements: YtbnccmdbplmmkaaTotals.lean).
  GIVEN WITH THE SEED: the statements are not yours to turn. If you find one false, say at which input.
  Laid BY PROGRAM, IN A SANDBOX (cutbox-rows.mjs): the forced cells as the released guide's own fill.sh prints them over the translation cc525d9335f95476… (all of the seat's roots in one cut). By AI agents, Wed Nov 11 2026. No macro, syntax, notation, axiom, sorry.
-/
import Derived.Test.YtbnccmdbplmmkaaChecked
import GoSem.Claim
import GoSem.ClaimJoined
import GoSem.ClaimMapViews
import Derived.JoinedTies
import Derived.KernelRfl
namespace Go.Proofs.Ytbnccmdbplmmkaa
/- THE CELL 'sum', in the pinned program and in every row, IS THE sha256 OF THE DUMP (.gsa) THAT YtbnccmdbplmmkaaProg.lean LOADS. Nothing in Lean hashes anything: it is a label: what it is worth is what the hold of that sum in a sandbox is worth. -/
noncomputable def Try.pinned : Pinned := { name := "ytbnccmdbplmmkaa", sum := "cc525d9335f954763c0646c6ba4216faee607f964c6a4da8d005339e14405846", checked := Try.checked }
namespace Rows
def none {H : Type} : Left H := { results := [], args := [] }

/-- 'laws.FnExactNewClock': WHATEVER THE INPUT: true; the input reads as it did. -/
def fnExactNewClockSpec : ChangeSpec := { name := "fnExactNewClock", fn := fun _ => fun
  | [d1, d2, d3] => { results := [.lit (.bool true)], args := [d1, d2, d3] }
  | _ => none }
def fnExactNewClockRow : OpenClaim := { program := "ytbnccmdbplmmkaa", sum := "cc525d9335f954763c0646c6ba4216faee607f964c6a4da8d005339e14405846", func := "loop.example/g00926/laws.FnExactNewClock", spec := "fnExactNewClock", apart := false }
def FnExactNewClockSaid : Prop := fnExactNewClockRow.holds Try.pinned (OpenSpec.ofChange fnExactNewClockSpec)

/-- ITS FALSE NEIGHBOUR: 'it returns false'. Refute it at one input. -/
def fnExactNewClockWrong : ChangeSpec := { name := "fnExactNewClock", fn := fun _ => fun
  | [d1, d2, d3] => { results := [.lit (.bool false)], args := [d1, d2, d3] }
  | _ => none }
def FnExactNewClockWrongFalsely : Prop := fnExactNewClockRow.holds Try.pinned (OpenSpec.ofChange fnExactNewClockWrong)

/-- 'laws.FnExactValidClock': WHATEVER THE INPUT: true; the input reads as it did. -/
def fnExactValidClockSpec : ChangeSpec := { name := "fnExactValidClock", fn := fun _ => fun
  | [d] => { results := [.lit (.bool true)], args := [d] }
  | _ => none }
def fnExactValidClockRow : OpenClaim := { program := "ytbnccmdbplmmkaa", sum := "cc525d9335f954763c0646c6ba4216faee607f964c6a4da8d005339e14405846", func := "loop.example/g00926/laws.FnExactValidClock", spec := "fnExactValidClock", apart := false }
def FnExactValidClockSaid : Prop := fnExactValidClockRow.holds Try.pinned (OpenSpec.ofChange fnExactValidClockSpec)

/-- ITS FALSE NEIGHBOUR: 'it returns false'. Refute it at one input. -/
def fnExactValidClockWrong : ChangeSpec := { name := "fnExactValidClock", fn := fun _ => fun
  | [d] => { results := [.lit (.bool false)], args := [d] }
  | _ => none }
def FnExactValidClockWrongFalsely : Prop := fnExactValidClockRow.holds Try.pinned (OpenSpec.ofChange fnExactValidClockWrong)

/-- 'laws.FnExactSameClock': WHATEVER THE INPUT: true; the input reads as it did. -/
def fnExactSameClockSpec : ChangeSpec := { name := "fnExactSameClock", fn := fun _ => fun
  | [d1, d2] => { results := [.lit (.bool true)], args := [d1, d2] }
  | _ => none }
def fnExactSameClockRow : OpenClaim := { program := "ytbnccmdbplmmkaa", sum := "cc525d9335f954763c0646c6ba4216faee607f964c6a4da8d005339e14405846", func := "loop.example/g00926/laws.FnExactSameClock", spec := "fnExactSameClock", apart := false }
def FnExactSameClockSaid : Prop := fnExactSameClockRow.holds Try.pinned (OpenSpec.ofChange fnExactSameClockSpec)

/-- ITS FALSE NEIGHBOUR: 'it returns false'. Refute it at one input. -/
def fnExactSameClockWrong : ChangeSpec := { name := "fnExactSameClock", fn := fun _ => fun
  | [d1, d2] => { results := [.lit (.bool false)], args := [d1, d2] }
  | _ => none }
def FnExactSameClockWrongFalsely : Prop := fnExactSameClockRow.holds Try.pinned (OpenSpec.ofChange fnExactSameClockWrong)

/-- 'laws.FnExactFallsAt': WHATEVER THE INPUT: true; the input reads as it did. -/
def fnExactFallsAtSpec : ChangeSpec := { name := "fnExactFallsAt", fn := fun _ => fun
  | [d] => { results := [.lit (.bool true)], args := [d] }
  | _ => none }
def fnExactFallsAtRow : OpenClaim := { program := "ytbnccmdbplmmkaa", sum := "cc525d9335f954763c0646c6ba4216faee607f964c6a4da8d005339e14405846", func := "loop.example/g00926/laws.FnExactFallsAt", spec := "fnExactFallsAt", apart := false }
def FnExactFallsAtSaid : Prop := fnExactFallsAtRow.holds Try.pinned (OpenSpec.ofChange fnExactFallsAtSpec)

/-- ITS FALSE NEIGHBOUR: 'it returns false'. Refute it at one input. -/
def fnExactFallsAtWrong : ChangeSpec := { name := "fnExactFallsAt", fn := fun _ => fun
  | [d] => { results := [.lit (.bool false)], args := [d] }
  | _ => none }
def FnExactFallsAtWrongFalsely : Prop := fnExactFallsAtRow.holds Try.pinned (OpenSpec.ofChange fnExactFallsAtWrong)

/-- 'laws.FnExactLeftAt': WHATEVER THE INPUT: true; the input reads as it did. -/
def fnExactLeftAtSpec : ChangeSpec := { name := "fnExactLeftAt", fn := fun _ => fun
  | [d1, d2, d3] => { results := [.lit (.bool true)], args := [d1, d2, d3] }
  | _ => none }
def fnExactLeftAtRow : OpenClaim := { program := "ytbnccmdbplmmkaa", sum := "cc525d9335f954763c0646c6ba4216faee607f964c6a4da8d005339e14405846", func := "loop.example/g00926/laws.FnExactLeftAt", spec := "fnExactLeftAt", apart := false }
def FnExactLeftAtSaid : Prop := fnExactLeftAtRow.holds Try.pinned (OpenSpec.ofChange fnExactLeftAtSpec)

/-- ITS FALSE NEIGHBOUR: 'it returns false'. Refute it at one input. -/
def fnExactLeftAtWrong : ChangeSpec := { name := "fnExactLeftAt", fn := fun _ => fun
  | [d1, d2, d3] => { results := [.lit (.bool false)], args := [d1, d2, d3] }
  | _ => none }
def FnExactLeftAtWrongFalsely : Prop := fnExactLeftAtRow.holds Try.pinned (OpenSpec.ofChange fnExactLeftAtWrong)

/- THE SECOND FORM. 'bulk': how many values and letters a reading holds, each counted each time it is reached (what is shared counts as often as it is met; a slice's spare places count too). A statement '..UptoSaid' is the law's where the arguments, and the package variables that the reading takes, are together of bulk at most 1048576: NARROWER than '..Said'. Prove '..Said' where nothing that the law and all that it calls make is longer than what came in: it says more and counts as full. Else prove '..UptoSaid'. A law counts once. -/
mutual
def uptoBulk {H : Type} : DataW H → Nat
  | .lit (.string bytes) => bytes.length + 1
  | .lit _ => 1
  | .nil => 1
  | .ptr d => uptoBulk d + 1
  | .slice elems spare => uptoBulkAll elems + uptoBulkAll spare + 1
  | .agg parts => uptoBulkAll parts + 1
  | .iface _ d => uptoBulk d + 1
  | .map entries => uptoBulkEntries entries + 1
  | .held _ => 1
def uptoBulkAll {H : Type} : List (DataW H) → Nat
  | [] => 0
  | d :: r => uptoBulk d + uptoBulkAll r
def uptoBulkEntries {H : Type} : List (Lit × DataW H) → Nat
  | [] => 0
  | x :: r => uptoBulkEntry x + uptoBulkEntries r
def uptoBulkEntry {H : Type} : Lit × DataW H → Nat
  | (.string bytes, d) => bytes.length + uptoBulk d + 1
  | (_, d) => uptoBulk d + 1
 end
def uptoSmall : (H : Type) → List (DataW H) → Bool := fun _ ds => decide (uptoBulkAll ds ≤ 1048576)
def OpenSpec.upto (s : _root_.Go.ChangeSpec) : _root_.Go.OpenSpec := { _root_.Go.OpenSpec.ofChange s with cond := some uptoSmall }

/-- 'laws.FnExactNewClock', WHERE WHAT IT READS IS OF BULK AT MOST 1048576: true; the input reads as it did. -/
def fnExactNewClockUptoRow : OpenClaim := { program := "ytbnccmdbplmmkaa", sum := "cc525d9335f954763c0646c6ba4216faee607f964c6a4da8d005339e14405846", func := "loop.example/g00926/laws.FnExactNewClock", spec := "fnExactNewClock", apart := false, narrowed := true }
def FnExactNewClockUptoSaid : Prop := fnExactNewClockUptoRow.holds Try.pinned (OpenSpec.upto fnExactNewClockSpec)

/-- 'laws.FnExactValidClock', WHERE WHAT IT READS IS OF BULK AT MOST 1048576: true; the input reads as it did. -/
def fnExactValidClockUptoRow : OpenClaim := { program := "ytbnccmdbplmmkaa", sum := "cc525d9335f954763c0646c6ba4216faee607f964c6a4da8d005339e14405846", func := "loop.example/g00926/laws.FnExactValidClock", spec := "fnExactValidClock", apart := false, narrowed := true }
def FnExactValidClockUptoSaid : Prop := fnExactValidClockUptoRow.holds Try.pinned (OpenSpec.upto fnExactValidClockSpec)

/-- 'laws.FnExactSameClock', WHERE WHAT IT READS IS OF BULK AT MOST 1048576: true; the input reads as it did. -/
def fnExactSameClockUptoRow : OpenClaim := { program := "ytbnccmdbplmmkaa", sum := "cc525d9335f954763c0646c6ba4216faee607f964c6a4da8d005339e14405846", func := "loop.example/g00926/laws.FnExactSameClock", spec := "fnExactSameClock", apart := false, narrowed := true }
def FnExactSameClockUptoSaid : Prop := fnExactSameClockUptoRow.holds Try.pinned (OpenSpec.upto fnExactSameClockSpec)

/-- 'laws.FnExactFallsAt', WHERE WHAT IT READS IS OF BULK AT MOST 1048576: true; the input reads as it did. -/
def fnExactFallsAtUptoRow : OpenClaim := { program := "ytbnccmdbplmmkaa", sum := "cc525d9335f954763c0646c6ba4216faee607f964c6a4da8d005339e14405846", func := "loop.example/g00926/laws.FnExactFallsAt", spec := "fnExactFallsAt", apart := false, narrowed := true }
def FnExactFallsAtUptoSaid : Prop := fnExactFallsAtUptoRow.holds Try.pinned (OpenSpec.upto fnExactFallsAtSpec)

/-- 'laws.FnExactLeftAt', WHERE WHAT IT READS IS OF BULK AT MOST 1048576: true; the input reads as it did. -/
def fnExactLeftAtUptoRow : OpenClaim := { program := "ytbnccmdbplmmkaa", sum := "cc525d9335f954763c0646c6ba4216faee607f964c6a4da8d005339e14405846", func := "loop.example/g00926/laws.FnExactLeftAt", spec := "fnExactLeftAt", apart := false, narrowed := true }
def FnExactLeftAtUptoSaid : Prop := fnExactLeftAtUptoRow.holds Try.pinned (OpenSpec.upto fnExactLeftAtSpec)

end Rows
end Go.Proofs.Ytbnccmdbplmmkaa
