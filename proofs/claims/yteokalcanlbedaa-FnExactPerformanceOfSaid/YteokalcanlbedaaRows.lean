/-
  No cell of these rows narrows 'for every input' (looked for: loops, veiled, ifaces, maps, wideKeys, modest, calm, conditions, laid).
  DERIVED. THE GIVEN ROWS OF THIS SEAT. 9 by the template 'for every input the law returns true; each argument reads behind the call as it read before'; 0 by the template 'total and deterministic' (their statements: YteokalcanlbedaaTotals.lean).
  GIVEN WITH THE SEED: the statements are not yours to turn. If you find one false, say at which input.
  Laid BY PROGRAM, IN A SANDBOX (cutbox-rows.mjs): the forced cells as the released guide's own fill.sh prints them over the translation 51f957eb0c157862… (all of the seat's roots in one cut). By AI agents, Wed Nov 11 2026. No macro, syntax, notation, axiom, sorry.
-/
import Derived.Test.YteokalcanlbedaaChecked
import GoSem.Claim
import GoSem.ClaimJoined
import GoSem.ClaimMapViews
import Derived.JoinedTies
import Derived.KernelRfl
namespace Go.Proofs.Yteokalcanlbedaa
/- THE CELL 'sum', in the pinned program and in every row, IS THE sha256 OF THE DUMP (.gsa) THAT YteokalcanlbedaaProg.lean LOADS. Nothing in Lean hashes anything: it is a label: what it is worth is what the hold of that sum in a sandbox is worth. -/
noncomputable def Try.pinned : Pinned := { name := "yteokalcanlbedaa", sum := "51f957eb0c157862fe1ce77b167f63d1ca8dcf3e236f71310110414aa47e299a", checked := Try.checked }
namespace Rows
def none {H : Type} : Left H := { results := [], args := [] }

/-- 'laws.FnExactValidRated': WHATEVER THE INPUT: true; the input reads as it did. -/
def fnExactValidRatedSpec : ChangeSpec := { name := "fnExactValidRated", fn := fun _ => fun
  | [d] => { results := [.lit (.bool true)], args := [d] }
  | _ => none }
def fnExactValidRatedRow : OpenClaim := { program := "yteokalcanlbedaa", sum := "51f957eb0c157862fe1ce77b167f63d1ca8dcf3e236f71310110414aa47e299a", func := "loop.example/g00926/laws.FnExactValidRated", spec := "fnExactValidRated", apart := false }
def FnExactValidRatedSaid : Prop := fnExactValidRatedRow.holds Try.pinned (OpenSpec.ofChange fnExactValidRatedSpec)

/-- ITS FALSE NEIGHBOUR: 'it returns false'. Refute it at one input. -/
def fnExactValidRatedWrong : ChangeSpec := { name := "fnExactValidRated", fn := fun _ => fun
  | [d] => { results := [.lit (.bool false)], args := [d] }
  | _ => none }
def FnExactValidRatedWrongFalsely : Prop := fnExactValidRatedRow.holds Try.pinned (OpenSpec.ofChange fnExactValidRatedWrong)

/-- 'laws.FnExactExpectedScore': WHATEVER THE INPUT: true; the input reads as it did. -/
def fnExactExpectedScoreSpec : ChangeSpec := { name := "fnExactExpectedScore", fn := fun _ => fun
  | [d1, d2] => { results := [.lit (.bool true)], args := [d1, d2] }
  | _ => none }
def fnExactExpectedScoreRow : OpenClaim := { program := "yteokalcanlbedaa", sum := "51f957eb0c157862fe1ce77b167f63d1ca8dcf3e236f71310110414aa47e299a", func := "loop.example/g00926/laws.FnExactExpectedScore", spec := "fnExactExpectedScore", recurses := true, apart := false }
def FnExactExpectedScoreSaid : Prop := fnExactExpectedScoreRow.holds Try.pinned (OpenSpec.ofChange fnExactExpectedScoreSpec)

/-- ITS FALSE NEIGHBOUR: 'it returns false'. Refute it at one input. -/
def fnExactExpectedScoreWrong : ChangeSpec := { name := "fnExactExpectedScore", fn := fun _ => fun
  | [d1, d2] => { results := [.lit (.bool false)], args := [d1, d2] }
  | _ => none }
def FnExactExpectedScoreWrongFalsely : Prop := fnExactExpectedScoreRow.holds Try.pinned (OpenSpec.ofChange fnExactExpectedScoreWrong)

/-- 'laws.FnExactStepOf': WHATEVER THE INPUT: true; the input reads as it did. -/
def fnExactStepOfSpec : ChangeSpec := { name := "fnExactStepOf", fn := fun _ => fun
  | [d] => { results := [.lit (.bool true)], args := [d] }
  | _ => none }
def fnExactStepOfRow : OpenClaim := { program := "yteokalcanlbedaa", sum := "51f957eb0c157862fe1ce77b167f63d1ca8dcf3e236f71310110414aa47e299a", func := "loop.example/g00926/laws.FnExactStepOf", spec := "fnExactStepOf", apart := false }
def FnExactStepOfSaid : Prop := fnExactStepOfRow.holds Try.pinned (OpenSpec.ofChange fnExactStepOfSpec)

/-- ITS FALSE NEIGHBOUR: 'it returns false'. Refute it at one input. -/
def fnExactStepOfWrong : ChangeSpec := { name := "fnExactStepOf", fn := fun _ => fun
  | [d] => { results := [.lit (.bool false)], args := [d] }
  | _ => none }
def FnExactStepOfWrongFalsely : Prop := fnExactStepOfRow.holds Try.pinned (OpenSpec.ofChange fnExactStepOfWrong)

/-- 'laws.FnExactSumExpected': WHATEVER THE INPUT: true; the input reads as it did. -/
def fnExactSumExpectedSpec : ChangeSpec := { name := "fnExactSumExpected", fn := fun _ => fun
  | [d1, d2] => { results := [.lit (.bool true)], args := [d1, d2] }
  | _ => none }
def fnExactSumExpectedRow : OpenClaim := { program := "yteokalcanlbedaa", sum := "51f957eb0c157862fe1ce77b167f63d1ca8dcf3e236f71310110414aa47e299a", func := "loop.example/g00926/laws.FnExactSumExpected", spec := "fnExactSumExpected", recurses := true, apart := false }
def FnExactSumExpectedSaid : Prop := fnExactSumExpectedRow.holds Try.pinned (OpenSpec.ofChange fnExactSumExpectedSpec)

/-- ITS FALSE NEIGHBOUR: 'it returns false'. Refute it at one input. -/
def fnExactSumExpectedWrong : ChangeSpec := { name := "fnExactSumExpected", fn := fun _ => fun
  | [d1, d2] => { results := [.lit (.bool false)], args := [d1, d2] }
  | _ => none }
def FnExactSumExpectedWrongFalsely : Prop := fnExactSumExpectedRow.holds Try.pinned (OpenSpec.ofChange fnExactSumExpectedWrong)

/-- 'laws.FnExactPerformanceOf': WHATEVER THE INPUT: true; the input reads as it did. -/
def fnExactPerformanceOfSpec : ChangeSpec := { name := "fnExactPerformanceOf", fn := fun _ => fun
  | [d1, d2] => { results := [.lit (.bool true)], args := [d1, d2] }
  | _ => none }
def fnExactPerformanceOfRow : OpenClaim := { program := "yteokalcanlbedaa", sum := "51f957eb0c157862fe1ce77b167f63d1ca8dcf3e236f71310110414aa47e299a", func := "loop.example/g00926/laws.FnExactPerformanceOf", spec := "fnExactPerformanceOf", recurses := true, apart := false }
def FnExactPerformanceOfSaid : Prop := fnExactPerformanceOfRow.holds Try.pinned (OpenSpec.ofChange fnExactPerformanceOfSpec)

/-- ITS FALSE NEIGHBOUR: 'it returns false'. Refute it at one input. -/
def fnExactPerformanceOfWrong : ChangeSpec := { name := "fnExactPerformanceOf", fn := fun _ => fun
  | [d1, d2] => { results := [.lit (.bool false)], args := [d1, d2] }
  | _ => none }
def FnExactPerformanceOfWrongFalsely : Prop := fnExactPerformanceOfRow.holds Try.pinned (OpenSpec.ofChange fnExactPerformanceOfWrong)

/-- 'laws.FnExactRateGame': WHATEVER THE INPUT: true; the input reads as it did. -/
def fnExactRateGameSpec : ChangeSpec := { name := "fnExactRateGame", fn := fun _ => fun
  | [d1, d2, d3] => { results := [.lit (.bool true)], args := [d1, d2, d3] }
  | _ => none }
def fnExactRateGameRow : OpenClaim := { program := "yteokalcanlbedaa", sum := "51f957eb0c157862fe1ce77b167f63d1ca8dcf3e236f71310110414aa47e299a", func := "loop.example/g00926/laws.FnExactRateGame", spec := "fnExactRateGame", recurses := true, apart := false }
def FnExactRateGameSaid : Prop := fnExactRateGameRow.holds Try.pinned (OpenSpec.ofChange fnExactRateGameSpec)

/-- ITS FALSE NEIGHBOUR: 'it returns false'. Refute it at one input. -/
def fnExactRateGameWrong : ChangeSpec := { name := "fnExactRateGame", fn := fun _ => fun
  | [d1, d2, d3] => { results := [.lit (.bool false)], args := [d1, d2, d3] }
  | _ => none }
def FnExactRateGameWrongFalsely : Prop := fnExactRateGameRow.holds Try.pinned (OpenSpec.ofChange fnExactRateGameWrong)

/-- 'laws.FnExactRatePeriod': WHATEVER THE INPUT: true; the input reads as it did. -/
def fnExactRatePeriodSpec : ChangeSpec := { name := "fnExactRatePeriod", fn := fun _ => fun
  | [d1, d2] => { results := [.lit (.bool true)], args := [d1, d2] }
  | _ => none }
def fnExactRatePeriodRow : OpenClaim := { program := "yteokalcanlbedaa", sum := "51f957eb0c157862fe1ce77b167f63d1ca8dcf3e236f71310110414aa47e299a", func := "loop.example/g00926/laws.FnExactRatePeriod", spec := "fnExactRatePeriod", recurses := true, apart := false }
def FnExactRatePeriodSaid : Prop := fnExactRatePeriodRow.holds Try.pinned (OpenSpec.ofChange fnExactRatePeriodSpec)

/-- ITS FALSE NEIGHBOUR: 'it returns false'. Refute it at one input. -/
def fnExactRatePeriodWrong : ChangeSpec := { name := "fnExactRatePeriod", fn := fun _ => fun
  | [d1, d2] => { results := [.lit (.bool false)], args := [d1, d2] }
  | _ => none }
def FnExactRatePeriodWrongFalsely : Prop := fnExactRatePeriodRow.holds Try.pinned (OpenSpec.ofChange fnExactRatePeriodWrong)

/-- 'laws.FnExpectations': WHATEVER THE INPUT: true; the input reads as it did. -/
def fnExpectationsSpec : ChangeSpec := { name := "fnExpectations", fn := fun _ => fun
  | [d] => { results := [.lit (.bool true)], args := [d] }
  | _ => none }
def fnExpectationsRow : OpenClaim := { program := "yteokalcanlbedaa", sum := "51f957eb0c157862fe1ce77b167f63d1ca8dcf3e236f71310110414aa47e299a", func := "loop.example/g00926/laws.FnExpectations", spec := "fnExpectations", recurses := true, apart := false }
def FnExpectationsSaid : Prop := fnExpectationsRow.holds Try.pinned (OpenSpec.ofChange fnExpectationsSpec)

/-- ITS FALSE NEIGHBOUR: 'it returns false'. Refute it at one input. -/
def fnExpectationsWrong : ChangeSpec := { name := "fnExpectations", fn := fun _ => fun
  | [d] => { results := [.lit (.bool false)], args := [d] }
  | _ => none }
def FnExpectationsWrongFalsely : Prop := fnExpectationsRow.holds Try.pinned (OpenSpec.ofChange fnExpectationsWrong)

/-- 'laws.FnRated': WHATEVER THE INPUT: true; the input reads as it did. -/
def fnRatedSpec : ChangeSpec := { name := "fnRated", fn := fun _ => fun
  | [d] => { results := [.lit (.bool true)], args := [d] }
  | _ => none }
def fnRatedRow : OpenClaim := { program := "yteokalcanlbedaa", sum := "51f957eb0c157862fe1ce77b167f63d1ca8dcf3e236f71310110414aa47e299a", func := "loop.example/g00926/laws.FnRated", spec := "fnRated", recurses := true, apart := false }
def FnRatedSaid : Prop := fnRatedRow.holds Try.pinned (OpenSpec.ofChange fnRatedSpec)

/-- ITS FALSE NEIGHBOUR: 'it returns false'. Refute it at one input. -/
def fnRatedWrong : ChangeSpec := { name := "fnRated", fn := fun _ => fun
  | [d] => { results := [.lit (.bool false)], args := [d] }
  | _ => none }
def FnRatedWrongFalsely : Prop := fnRatedRow.holds Try.pinned (OpenSpec.ofChange fnRatedWrong)

/- THE SECOND FORM. 'bulk': how many values and letters a reading holds, each counted each time it is reached (what is shared counts as often as it is met; a slice's spare places count too). A statement '..UptoSaid' is the law's where the arguments, and the package variables that the reading takes, are together of bulk at most 1048576: NARROWER than '..Said'. Prove '..Said' where nothing that the law and all that it calls make is longer than what came in: it says more and counts as full. Else prove '..UptoSaid'. A law counts once. -/
mutual
def uptoBulk {H : Type} : DataW H → Nat
  | .lit (.string bytes) => bytes.length + 1
  | .lit _ => 1
  | .nil => 1
  | .ptr d => uptoBulk d + 1
  | .slice elems spare => uptoBulkAll elems + uptoBulkAll spare + 1
  | .agg parts => uptoBulkAll parts + 1
  | .iface _ d => uptoBulk d + 1
  | .map entries => uptoBulkEntries entries + 1
  | .held _ => 1
def uptoBulkAll {H : Type} : List (DataW H) → Nat
  | [] => 0
  | d :: r => uptoBulk d + uptoBulkAll r
def uptoBulkEntries {H : Type} : List (Lit × DataW H) → Nat
  | [] => 0
  | x :: r => uptoBulkEntry x + uptoBulkEntries r
def uptoBulkEntry {H : Type} : Lit × DataW H → Nat
  | (.string bytes, d) => bytes.length + uptoBulk d + 1
  | (_, d) => uptoBulk d + 1
 end
def uptoSmall : (H : Type) → List (DataW H) → Bool := fun _ ds => decide (uptoBulkAll ds ≤ 1048576)
def OpenSpec.upto (s : _root_.Go.ChangeSpec) : _root_.Go.OpenSpec := { _root_.Go.OpenSpec.ofChange s with cond := some uptoSmall }

/-- 'laws.FnExactValidRated', WHERE WHAT IT READS IS OF BULK AT MOST 1048576: true; the input reads as it did. -/
def fnExactValidRatedUptoRow : OpenClaim := { program := "yteokalcanlbedaa", sum := "51f957eb0c157862fe1ce77b167f63d1ca8dcf3e236f71310110414aa47e299a", func := "loop.example/g00926/laws.FnExactValidRated", spec := "fnExactValidRated", apart := false, narrowed := true }
def FnExactValidRatedUptoSaid : Prop := fnExactValidRatedUptoRow.holds Try.pinned (OpenSpec.upto fnExactValidRatedSpec)

/-- 'laws.FnExactExpectedScore', WHERE WHAT IT READS IS OF BULK AT MOST 1048576: true; the input reads as it did. -/
def fnExactExpectedScoreUptoRow : OpenClaim := { program := "yteokalcanlbedaa", sum := "51f957eb0c157862fe1ce77b167f63d1ca8dcf3e236f71310110414aa47e299a", func := "loop.example/g00926/laws.FnExactExpectedScore", spec := "fnExactExpectedScore", recurses := true, apart := false, narrowed := true }
def FnExactExpectedScoreUptoSaid : Prop := fnExactExpectedScoreUptoRow.holds Try.pinned (OpenSpec.upto fnExactExpectedScoreSpec)

/-- 'laws.FnExactStepOf', WHERE WHAT IT READS IS OF BULK AT MOST 1048576: true; the input reads as it did. -/
def fnExactStepOfUptoRow : OpenClaim := { program := "yteokalcanlbedaa", sum := "51f957eb0c157862fe1ce77b167f63d1ca8dcf3e236f71310110414aa47e299a", func := "loop.example/g00926/laws.FnExactStepOf", spec := "fnExactStepOf", apart := false, narrowed := true }
def FnExactStepOfUptoSaid : Prop := fnExactStepOfUptoRow.holds Try.pinned (OpenSpec.upto fnExactStepOfSpec)

/-- 'laws.FnExactSumExpected', WHERE WHAT IT READS IS OF BULK AT MOST 1048576: true; the input reads as it did. -/
def fnExactSumExpectedUptoRow : OpenClaim := { program := "yteokalcanlbedaa", sum := "51f957eb0c157862fe1ce77b167f63d1ca8dcf3e236f71310110414aa47e299a", func := "loop.example/g00926/laws.FnExactSumExpected", spec := "fnExactSumExpected", recurses := true, apart := false, narrowed := true }
def FnExactSumExpectedUptoSaid : Prop := fnExactSumExpectedUptoRow.holds Try.pinned (OpenSpec.upto fnExactSumExpectedSpec)

/-- 'laws.FnExactPerformanceOf', WHERE WHAT IT READS IS OF BULK AT MOST 1048576: true; the input reads as it did. -/
def fnExactPerformanceOfUptoRow : OpenClaim := { program := "yteokalcanlbedaa", sum := "51f957eb0c157862fe1ce77b167f63d1ca8dcf3e236f71310110414aa47e299a", func := "loop.example/g00926/laws.FnExactPerformanceOf", spec := "fnExactPerformanceOf", recurses := true, apart := false, narrowed := true }
def FnExactPerformanceOfUptoSaid : Prop := fnExactPerformanceOfUptoRow.holds Try.pinned (OpenSpec.upto fnExactPerformanceOfSpec)

/-- 'laws.FnExactRateGame', WHERE WHAT IT READS IS OF BULK AT MOST 1048576: true; the input reads as it did. -/
def fnExactRateGameUptoRow : OpenClaim := { program := "yteokalcanlbedaa", sum := "51f957eb0c157862fe1ce77b167f63d1ca8dcf3e236f71310110414aa47e299a", func := "loop.example/g00926/laws.FnExactRateGame", spec := "fnExactRateGame", recurses := true, apart := false, narrowed := true }
def FnExactRateGameUptoSaid : Prop := fnExactRateGameUptoRow.holds Try.pinned (OpenSpec.upto fnExactRateGameSpec)

/-- 'laws.FnExactRatePeriod', WHERE WHAT IT READS IS OF BULK AT MOST 1048576: true; the input reads as it did. -/
def fnExactRatePeriodUptoRow : OpenClaim := { program := "yteokalcanlbedaa", sum := "51f957eb0c157862fe1ce77b167f63d1ca8dcf3e236f71310110414aa47e299a", func := "loop.example/g00926/laws.FnExactRatePeriod", spec := "fnExactRatePeriod", recurses := true, apart := false, narrowed := true }
def FnExactRatePeriodUptoSaid : Prop := fnExactRatePeriodUptoRow.holds Try.pinned (OpenSpec.upto fnExactRatePeriodSpec)

/-- 'laws.FnExpectations', WHERE WHAT IT READS IS OF BULK AT MOST 1048576: true; the input reads as it did. -/
def fnExpectationsUptoRow : OpenClaim := { program := "yteokalcanlbedaa", sum := "51f957eb0c157862fe1ce77b167f63d1ca8dcf3e236f71310110414aa47e299a", func := "loop.example/g00926/laws.FnExpectations", spec := "fnExpectations", recurses := true, apart := false, narrowed := true }
def FnExpectationsUptoSaid : Prop := fnExpectationsUptoRow.holds Try.pinned (OpenSpec.upto fnExpectationsSpec)

/-- 'laws.FnRated', WHERE WHAT IT READS IS OF BULK AT MOST 1048576: true; the input reads as it did. -/
def fnRatedUptoRow : OpenClaim := { program := "yteokalcanlbedaa", sum := "51f957eb0c157862fe1ce77b167f63d1ca8dcf3e236f71310110414aa47e299a", func := "loop.example/g00926/laws.FnRated", spec := "fnRated", recurses := true, apart := false, narrowed := true }
def FnRatedUptoSaid : Prop := fnRatedUptoRow.holds Try.pinned (OpenSpec.upto fnRatedSpec)

end Rows
end Go.Proofs.Yteokalcanlbedaa
