/-
  No cell of these rows narrows 'for every input' (looked for: loops, veiled, ifaces, maps, wideKeys, modest, calm, conditions, laid).
  DERIVED. THE GIVEN ROWS OF THIS SEAT. 4 by the template 'for every input the law returns true; each argument reads behind the call as it read before'; 0 by the template 'total and deterministic' (their statements: YtaeeijjejkohjaaTotals.lean).
  GIVEN WITH THE SEED: the statements are not yours to turn. If you find one false, say at which input.
  Laid BY PROGRAM, IN A SANDBOX (cutbox-rows.mjs): the forced cells as the released guide's own fill.sh prints them over the translation d10d36bbc8889641… (all of the seat's roots in one cut). By AI agents, Wed Nov 11 2026. No macro, syntax, notation, axiom, sorry.
-/
import Derived.Test.YtaeeijjejkohjaaChecked
import GoSem.Claim
import GoSem.ClaimJoined
import GoSem.ClaimMapViews
import Derived.JoinedTies
import Derived.KernelRfl
namespace Go.Proofs.Ytaeeijjejkohjaa
/- THE CELL 'sum', in the pinned program and in every row, IS THE sha256 OF THE DUMP (.gsa) THAT YtaeeijjejkohjaaProg.lean LOADS. Nothing in Lean hashes anything: it is a label: what it is worth is what the hold of that sum in a sandbox is worth. -/
noncomputable def Try.pinned : Pinned := { name := "ytaeeijjejkohjaa", sum := "d10d36bbc888964129de14cddb0394dbe6693ebb2c0b1597e2fdc81e3af42c6a", checked := Try.checked }
namespace Rows
def none {H : Type} : Left H := { results := [], args := [] }

/-- 'laws.FnExactRateGame': WHATEVER THE INPUT: true; the input reads as it did. -/
def fnExactRateGameSpec : ChangeSpec := { name := "fnExactRateGame", fn := fun _ => fun
  | [d1, d2, d3] => { results := [.lit (.bool true)], args := [d1, d2, d3] }
  | _ => none }
def fnExactRateGameRow : OpenClaim := { program := "ytaeeijjejkohjaa", sum := "d10d36bbc888964129de14cddb0394dbe6693ebb2c0b1597e2fdc81e3af42c6a", func := "loop.example/g00926/laws.FnExactRateGame", spec := "fnExactRateGame", recurses := true, apart := false }
def FnExactRateGameSaid : Prop := fnExactRateGameRow.holds Try.pinned (OpenSpec.ofChange fnExactRateGameSpec)

/-- ITS FALSE NEIGHBOUR: 'it returns false'. Refute it at one input. -/
def fnExactRateGameWrong : ChangeSpec := { name := "fnExactRateGame", fn := fun _ => fun
  | [d1, d2, d3] => { results := [.lit (.bool false)], args := [d1, d2, d3] }
  | _ => none }
def FnExactRateGameWrongFalsely : Prop := fnExactRateGameRow.holds Try.pinned (OpenSpec.ofChange fnExactRateGameWrong)

/-- 'laws.FnExpectations': WHATEVER THE INPUT: true; the input reads as it did. -/
def fnExpectationsSpec : ChangeSpec := { name := "fnExpectations", fn := fun _ => fun
  | [d] => { results := [.lit (.bool true)], args := [d] }
  | _ => none }
def fnExpectationsRow : OpenClaim := { program := "ytaeeijjejkohjaa", sum := "d10d36bbc888964129de14cddb0394dbe6693ebb2c0b1597e2fdc81e3af42c6a", func := "loop.example/g00926/laws.FnExpectations", spec := "fnExpectations", recurses := true, apart := false }
def FnExpectationsSaid : Prop := fnExpectationsRow.holds Try.pinned (OpenSpec.ofChange fnExpectationsSpec)

/-- ITS FALSE NEIGHBOUR: 'it returns false'. Refute it at one input. -/
def fnExpectationsWrong : ChangeSpec := { name := "fnExpectations", fn := fun _ => fun
  | [d] => { results := [.lit (.bool false)], args := [d] }
  | _ => none }
def FnExpectationsWrongFalsely : Prop := fnExpectationsRow.holds Try.pinned (OpenSpec.ofChange fnExpectationsWrong)

/-- 'laws.FnRated': WHATEVER THE INPUT: true; the input reads as it did. -/
def fnRatedSpec : ChangeSpec := { name := "fnRated", fn := fun _ => fun
  | [d] => { results := [.lit (.bool true)], args := [d] }
  | _ => none }
def fnRatedRow : OpenClaim := { program := "ytaeeijjejkohjaa", sum := "d10d36bbc888964129de14cddb0394dbe6693ebb2c0b1597e2fdc81e3af42c6a", func := "loop.example/g00926/laws.FnRated", spec := "fnRated", recurses := true, apart := false }
def FnRatedSaid : Prop := fnRatedRow.holds Try.pinned (OpenSpec.ofChange fnRatedSpec)

/-- ITS FALSE NEIGHBOUR: 'it returns false'. Refute it at one input. -/
def fnRatedWrong : ChangeSpec := { name := "fnRated", fn := fun _ => fun
  | [d] => { results := [.lit (.bool false)], args := [d] }
  | _ => none }
def FnRatedWrongFalsely : Prop := fnRatedRow.holds Try.pinned (OpenSpec.ofChange fnRatedWrong)

/-- 'laws.FnExactRatePeriod': WHATEVER THE INPUT: true; the input reads as it did. -/
def fnExactRatePeriodSpec : ChangeSpec := { name := "fnExactRatePeriod", fn := fun _ => fun
  | [d1, d2] => { results := [.lit (.bool true)], args := [d1, d2] }
  | _ => none }
def fnExactRatePeriodRow : OpenClaim := { program := "ytaeeijjejkohjaa", sum := "d10d36bbc888964129de14cddb0394dbe6693ebb2c0b1597e2fdc81e3af42c6a", func := "loop.example/g00926/laws.FnExactRatePeriod", spec := "fnExactRatePeriod", recurses := true, apart := false }
def FnExactRatePeriodSaid : Prop := fnExactRatePeriodRow.holds Try.pinned (OpenSpec.ofChange fnExactRatePeriodSpec)

/-- ITS FALSE NEIGHBOUR: 'it returns false'. Refute it at one input. -/
def fnExactRatePeriodWrong : ChangeSpec := { name := "fnExactRatePeriod", fn := fun _ => fun
  | [d1, d2] => { results := [.lit (.bool false)], args := [d1, d2] }
  | _ => none }
def FnExactRatePeriodWrongFalsely : Prop := fnExactRatePeriodRow.holds Try.pinned (OpenSpec.ofChange fnExactRatePeriodWrong)

/- THE SECOND FORM. 'bulk': how many values and letters a reading holds, each counted each time it is reached (what is shared counts as often as it is met; a slice's spare places count too). A statement '..UptoSaid' is the law's where the arguments, and the package variables that the reading takes, are together of bulk at most 1048576: NARROWER than '..Said'. Prove '..Said' where nothing that the law and all that it calls make is longer than what came in: it says more and counts as full. Else prove '..UptoSaid'. A law counts once. -/
mutual
def uptoBulk {H : Type} : DataW H → Nat
  | .lit (.string bytes) => bytes.length + 1
  | .lit _ => 1
  | .nil => 1
  | .ptr d => uptoBulk d + 1
  | .slice elems spare => uptoBulkAll elems + uptoBulkAll spare + 1
  | .agg parts => uptoBulkAll parts + 1
  | .iface _ d => uptoBulk d + 1
  | .map entries => uptoBulkEntries entries + 1
  | .held _ => 1
def uptoBulkAll {H : Type} : List (DataW H) → Nat
  | [] => 0
  | d :: r => uptoBulk d + uptoBulkAll r
def uptoBulkEntries {H : Type} : List (Lit × DataW H) → Nat
  | [] => 0
  | x :: r => uptoBulkEntry x + uptoBulkEntries r
def uptoBulkEntry {H : Type} : Lit × DataW H → Nat
  | (.string bytes, d) => bytes.length + uptoBulk d + 1
  | (_, d) => uptoBulk d + 1
 end
def uptoSmall : (H : Type) → List (DataW H) → Bool := fun _ ds => decide (uptoBulkAll ds ≤ 1048576)
def OpenSpec.upto (s : _root_.Go.ChangeSpec) : _root_.Go.OpenSpec := { _root_.Go.OpenSpec.ofChange s with cond := some uptoSmall }

/-- 'laws.FnExactRateGame', WHERE WHAT IT READS IS OF BULK AT MOST 1048576: true; the input reads as it did. -/
def fnExactRateGameUptoRow : OpenClaim := { program := "ytaeeijjejkohjaa", sum := "d10d36bbc888964129de14cddb0394dbe6693ebb2c0b1597e2fdc81e3af42c6a", func := "loop.example/g00926/laws.FnExactRateGame", spec := "fnExactRateGame", recurses := true, apart := false, narrowed := true }
def FnExactRateGameUptoSaid : Prop := fnExactRateGameUptoRow.holds Try.pinned (OpenSpec.upto fnExactRateGameSpec)

/-- 'laws.FnExpectations', WHERE WHAT IT READS IS OF BULK AT MOST 1048576: true; the input reads as it did. -/
def fnExpectationsUptoRow : OpenClaim := { program := "ytaeeijjejkohjaa", sum := "d10d36bbc888964129de14cddb0394dbe6693ebb2c0b1597e2fdc81e3af42c6a", func := "loop.example/g00926/laws.FnExpectations", spec := "fnExpectations", recurses := true, apart := false, narrowed := true }
def FnExpectationsUptoSaid : Prop := fnExpectationsUptoRow.holds Try.pinned (OpenSpec.upto fnExpectationsSpec)

/-- 'laws.FnRated', WHERE WHAT IT READS IS OF BULK AT MOST 1048576: true; the input reads as it did. -/
def fnRatedUptoRow : OpenClaim := { program := "ytaeeijjejkohjaa", sum := "d10d36bbc888964129de14cddb0394dbe6693ebb2c0b1597e2fdc81e3af42c6a", func := "loop.example/g00926/laws.FnRated", spec := "fnRated", recurses := true, apart := false, narrowed := true }
def FnRatedUptoSaid : Prop := fnRatedUptoRow.holds Try.pinned (OpenSpec.upto fnRatedSpec)

/-- 'laws.FnExactRatePeriod', WHERE WHAT IT READS IS OF BULK AT MOST 1048576: true; the input reads as it did. -/
def fnExactRatePeriodUptoRow : OpenClaim := { program := "ytaeeijjejkohjaa", sum := "d10d36bbc888964129de14cddb0394dbe6693ebb2c0b1597e2fdc81e3af42c6a", func := "loop.example/g00926/laws.FnExactRatePeriod", spec := "fnExactRatePeriod", recurses := true, apart := false, narrowed := true }
def FnExactRatePeriodUptoSaid : Prop := fnExactRatePeriodUptoRow.holds Try.pinned (OpenSpec.upto fnExactRatePeriodSpec)

end Rows
end Go.Proofs.Ytaeeijjejkohjaa
