/-
  No cell of these rows narrows 'for every input' (looked for: loops, veiled, ifaces, maps, wideKeys, modest, calm, conditions, laid).
  DERIVED. THE GIVEN ROWS OF THIS SEAT. 7 by the template 'for every input the law returns true; each argument reads behind the call as it read before'; 0 by the template 'total and deterministic' (their statements: YtencndbckjejaaaTotals.lean).
  GIVEN WITH THE SEED: the statements are not yours to turn. If you find one false, say at which input.
  Laid BY PROGRAM, IN A SANDBOX (cutbox-rows.mjs): the forced cells as the released guide's own fill.sh prints them over the translation 05500427bc663cd6… (all of the seat's roots in one cut). By AI agents, Wed Nov 11 2026. No macro, syntax, notation, axiom, sorry.
-/
import Derived.Test.YtencndbckjejaaaChecked
import GoSem.Claim
import GoSem.ClaimJoined
import GoSem.ClaimMapViews
import Derived.JoinedTies
import Derived.KernelRfl
namespace Go.Proofs.Ytencndbckjejaaa
/- THE CELL 'sum', in the pinned program and in every row, IS THE sha256 OF THE DUMP (.gsa) THAT YtencndbckjejaaaProg.lean LOADS. Nothing in Lean hashes anything: it is a label: what it is worth is what the hold of that sum in a sandbox is worth. -/
noncomputable def Try.pinned : Pinned := { name := "ytencndbckjejaaa", sum := "05500427bc663cd6b75568791d91475677c973eb59fb455f625f6beeb374750b", checked := Try.checked }
namespace Rows
def none {H : Type} : Left H := { results := [], args := [] }

/-- 'laws.FnExactValidMatches': WHATEVER THE INPUT: true; the input reads as it did. -/
def fnExactValidMatchesSpec : ChangeSpec := { name := "fnExactValidMatches", fn := fun _ => fun
  | [d1, d2] => { results := [.lit (.bool true)], args := [d1, d2] }
  | _ => none }
def fnExactValidMatchesRow : OpenClaim := { program := "ytencndbckjejaaa", sum := "05500427bc663cd6b75568791d91475677c973eb59fb455f625f6beeb374750b", func := "loop.example/g00926/laws.FnExactValidMatches", spec := "fnExactValidMatches", apart := false }
def FnExactValidMatchesSaid : Prop := fnExactValidMatchesRow.holds Try.pinned (OpenSpec.ofChange fnExactValidMatchesSpec)

/-- ITS FALSE NEIGHBOUR: 'it returns false'. Refute it at one input. -/
def fnExactValidMatchesWrong : ChangeSpec := { name := "fnExactValidMatches", fn := fun _ => fun
  | [d1, d2] => { results := [.lit (.bool false)], args := [d1, d2] }
  | _ => none }
def FnExactValidMatchesWrongFalsely : Prop := fnExactValidMatchesRow.holds Try.pinned (OpenSpec.ofChange fnExactValidMatchesWrong)

/-- 'laws.FnExactDirectScore': WHATEVER THE INPUT: true; the input reads as it did. -/
def fnExactDirectScoreSpec : ChangeSpec := { name := "fnExactDirectScore", fn := fun _ => fun
  | [d1, d2, d3, d4] => { results := [.lit (.bool true)], args := [d1, d2, d3, d4] }
  | _ => none }
def fnExactDirectScoreRow : OpenClaim := { program := "ytencndbckjejaaa", sum := "05500427bc663cd6b75568791d91475677c973eb59fb455f625f6beeb374750b", func := "loop.example/g00926/laws.FnExactDirectScore", spec := "fnExactDirectScore", apart := false }
def FnExactDirectScoreSaid : Prop := fnExactDirectScoreRow.holds Try.pinned (OpenSpec.ofChange fnExactDirectScoreSpec)

/-- ITS FALSE NEIGHBOUR: 'it returns false'. Refute it at one input. -/
def fnExactDirectScoreWrong : ChangeSpec := { name := "fnExactDirectScore", fn := fun _ => fun
  | [d1, d2, d3, d4] => { results := [.lit (.bool false)], args := [d1, d2, d3, d4] }
  | _ => none }
def FnExactDirectScoreWrongFalsely : Prop := fnExactDirectScoreRow.holds Try.pinned (OpenSpec.ofChange fnExactDirectScoreWrong)

/-- 'laws.FnExactDropPlayer': WHATEVER THE INPUT: true; the input reads as it did. -/
def fnExactDropPlayerSpec : ChangeSpec := { name := "fnExactDropPlayer", fn := fun _ => fun
  | [d1, d2, d3] => { results := [.lit (.bool true)], args := [d1, d2, d3] }
  | _ => none }
def fnExactDropPlayerRow : OpenClaim := { program := "ytencndbckjejaaa", sum := "05500427bc663cd6b75568791d91475677c973eb59fb455f625f6beeb374750b", func := "loop.example/g00926/laws.FnExactDropPlayer", spec := "fnExactDropPlayer", apart := false }
def FnExactDropPlayerSaid : Prop := fnExactDropPlayerRow.holds Try.pinned (OpenSpec.ofChange fnExactDropPlayerSpec)

/-- ITS FALSE NEIGHBOUR: 'it returns false'. Refute it at one input. -/
def fnExactDropPlayerWrong : ChangeSpec := { name := "fnExactDropPlayer", fn := fun _ => fun
  | [d1, d2, d3] => { results := [.lit (.bool false)], args := [d1, d2, d3] }
  | _ => none }
def FnExactDropPlayerWrongFalsely : Prop := fnExactDropPlayerRow.holds Try.pinned (OpenSpec.ofChange fnExactDropPlayerWrong)

/-- 'laws.FnExactRanksOf': WHATEVER THE INPUT: true; the input reads as it did. -/
def fnExactRanksOfSpec : ChangeSpec := { name := "fnExactRanksOf", fn := fun _ => fun
  | [d1, d2] => { results := [.lit (.bool true)], args := [d1, d2] }
  | _ => none }
def fnExactRanksOfRow : OpenClaim := { program := "ytencndbckjejaaa", sum := "05500427bc663cd6b75568791d91475677c973eb59fb455f625f6beeb374750b", func := "loop.example/g00926/laws.FnExactRanksOf", spec := "fnExactRanksOf", unfollowed := true, recurses := true, apart := false }
def FnExactRanksOfSaid : Prop := fnExactRanksOfRow.holds Try.pinned (OpenSpec.ofChange fnExactRanksOfSpec)

/-- ITS FALSE NEIGHBOUR: 'it returns false'. Refute it at one input. -/
def fnExactRanksOfWrong : ChangeSpec := { name := "fnExactRanksOf", fn := fun _ => fun
  | [d1, d2] => { results := [.lit (.bool false)], args := [d1, d2] }
  | _ => none }
def FnExactRanksOfWrongFalsely : Prop := fnExactRanksOfRow.holds Try.pinned (OpenSpec.ofChange fnExactRanksOfWrong)

/-- 'laws.FnExactRowsOf': WHATEVER THE INPUT: true; the input reads as it did. -/
def fnExactRowsOfSpec : ChangeSpec := { name := "fnExactRowsOf", fn := fun _ => fun
  | [d1, d2] => { results := [.lit (.bool true)], args := [d1, d2] }
  | _ => none }
def fnExactRowsOfRow : OpenClaim := { program := "ytencndbckjejaaa", sum := "05500427bc663cd6b75568791d91475677c973eb59fb455f625f6beeb374750b", func := "loop.example/g00926/laws.FnExactRowsOf", spec := "fnExactRowsOf", unfollowed := true, recurses := true, apart := false }
def FnExactRowsOfSaid : Prop := fnExactRowsOfRow.holds Try.pinned (OpenSpec.ofChange fnExactRowsOfSpec)

/-- ITS FALSE NEIGHBOUR: 'it returns false'. Refute it at one input. -/
def fnExactRowsOfWrong : ChangeSpec := { name := "fnExactRowsOf", fn := fun _ => fun
  | [d1, d2] => { results := [.lit (.bool false)], args := [d1, d2] }
  | _ => none }
def FnExactRowsOfWrongFalsely : Prop := fnExactRowsOfRow.holds Try.pinned (OpenSpec.ofChange fnExactRowsOfWrong)

/-- 'laws.FnExactTiedWith': WHATEVER THE INPUT: true; the input reads as it did. -/
def fnExactTiedWithSpec : ChangeSpec := { name := "fnExactTiedWith", fn := fun _ => fun
  | [d1, d2, d3] => { results := [.lit (.bool true)], args := [d1, d2, d3] }
  | _ => none }
def fnExactTiedWithRow : OpenClaim := { program := "ytencndbckjejaaa", sum := "05500427bc663cd6b75568791d91475677c973eb59fb455f625f6beeb374750b", func := "loop.example/g00926/laws.FnExactTiedWith", spec := "fnExactTiedWith", unfollowed := true, recurses := true, apart := false }
def FnExactTiedWithSaid : Prop := fnExactTiedWithRow.holds Try.pinned (OpenSpec.ofChange fnExactTiedWithSpec)

/-- ITS FALSE NEIGHBOUR: 'it returns false'. Refute it at one input. -/
def fnExactTiedWithWrong : ChangeSpec := { name := "fnExactTiedWith", fn := fun _ => fun
  | [d1, d2, d3] => { results := [.lit (.bool false)], args := [d1, d2, d3] }
  | _ => none }
def FnExactTiedWithWrongFalsely : Prop := fnExactTiedWithRow.holds Try.pinned (OpenSpec.ofChange fnExactTiedWithWrong)

/-- 'laws.FnTies': WHATEVER THE INPUT: true; the input reads as it did. -/
def fnTiesSpec : ChangeSpec := { name := "fnTies", fn := fun _ => fun
  | [d] => { results := [.lit (.bool true)], args := [d] }
  | _ => none }
def fnTiesRow : OpenClaim := { program := "ytencndbckjejaaa", sum := "05500427bc663cd6b75568791d91475677c973eb59fb455f625f6beeb374750b", func := "loop.example/g00926/laws.FnTies", spec := "fnTies", unfollowed := true, recurses := true, apart := false }
def FnTiesSaid : Prop := fnTiesRow.holds Try.pinned (OpenSpec.ofChange fnTiesSpec)

/-- ITS FALSE NEIGHBOUR: 'it returns false'. Refute it at one input. -/
def fnTiesWrong : ChangeSpec := { name := "fnTies", fn := fun _ => fun
  | [d] => { results := [.lit (.bool false)], args := [d] }
  | _ => none }
def FnTiesWrongFalsely : Prop := fnTiesRow.holds Try.pinned (OpenSpec.ofChange fnTiesWrong)

/- THE SECOND FORM. 'bulk': how many values and letters a reading holds, each counted each time it is reached (what is shared counts as often as it is met; a slice's spare places count too). A statement '..UptoSaid' is the law's where the arguments, and the package variables that the reading takes, are together of bulk at most 1048576: NARROWER than '..Said'. Prove '..Said' where nothing that the law and all that it calls make is longer than what came in: it says more and counts as full. Else prove '..UptoSaid'. A law counts once. -/
mutual
def uptoBulk {H : Type} : DataW H → Nat
  | .lit (.string bytes) => bytes.length + 1
  | .lit _ => 1
  | .nil => 1
  | .ptr d => uptoBulk d + 1
  | .slice elems spare => uptoBulkAll elems + uptoBulkAll spare + 1
  | .agg parts => uptoBulkAll parts + 1
  | .iface _ d => uptoBulk d + 1
  | .map entries => uptoBulkEntries entries + 1
  | .held _ => 1
def uptoBulkAll {H : Type} : List (DataW H) → Nat
  | [] => 0
  | d :: r => uptoBulk d + uptoBulkAll r
def uptoBulkEntries {H : Type} : List (Lit × DataW H) → Nat
  | [] => 0
  | x :: r => uptoBulkEntry x + uptoBulkEntries r
def uptoBulkEntry {H : Type} : Lit × DataW H → Nat
  | (.string bytes, d) => bytes.length + uptoBulk d + 1
  | (_, d) => uptoBulk d + 1
 end
def uptoSmall : (H : Type) → List (DataW H) → Bool := fun _ ds => decide (uptoBulkAll ds ≤ 1048576)
def OpenSpec.upto (s : _root_.Go.ChangeSpec) : _root_.Go.OpenSpec := { _root_.Go.OpenSpec.ofChange s with cond := some uptoSmall }

/-- 'laws.FnExactValidMatches', WHERE WHAT IT READS IS OF BULK AT MOST 1048576: true; the input reads as it did. -/
def fnExactValidMatchesUptoRow : OpenClaim := { program := "ytencndbckjejaaa", sum := "05500427bc663cd6b75568791d91475677c973eb59fb455f625f6beeb374750b", func := "loop.example/g00926/laws.FnExactValidMatches", spec := "fnExactValidMatches", apart := false, narrowed := true }
def FnExactValidMatchesUptoSaid : Prop := fnExactValidMatchesUptoRow.holds Try.pinned (OpenSpec.upto fnExactValidMatchesSpec)

/-- 'laws.FnExactDirectScore', WHERE WHAT IT READS IS OF BULK AT MOST 1048576: true; the input reads as it did. -/
def fnExactDirectScoreUptoRow : OpenClaim := { program := "ytencndbckjejaaa", sum := "05500427bc663cd6b75568791d91475677c973eb59fb455f625f6beeb374750b", func := "loop.example/g00926/laws.FnExactDirectScore", spec := "fnExactDirectScore", apart := false, narrowed := true }
def FnExactDirectScoreUptoSaid : Prop := fnExactDirectScoreUptoRow.holds Try.pinned (OpenSpec.upto fnExactDirectScoreSpec)

/-- 'laws.FnExactDropPlayer', WHERE WHAT IT READS IS OF BULK AT MOST 1048576: true; the input reads as it did. -/
def fnExactDropPlayerUptoRow : OpenClaim := { program := "ytencndbckjejaaa", sum := "05500427bc663cd6b75568791d91475677c973eb59fb455f625f6beeb374750b", func := "loop.example/g00926/laws.FnExactDropPlayer", spec := "fnExactDropPlayer", apart := false, narrowed := true }
def FnExactDropPlayerUptoSaid : Prop := fnExactDropPlayerUptoRow.holds Try.pinned (OpenSpec.upto fnExactDropPlayerSpec)

/-- 'laws.FnExactRanksOf', WHERE WHAT IT READS IS OF BULK AT MOST 1048576: true; the input reads as it did. -/
def fnExactRanksOfUptoRow : OpenClaim := { program := "ytencndbckjejaaa", sum := "05500427bc663cd6b75568791d91475677c973eb59fb455f625f6beeb374750b", func := "loop.example/g00926/laws.FnExactRanksOf", spec := "fnExactRanksOf", unfollowed := true, recurses := true, apart := false, narrowed := true }
def FnExactRanksOfUptoSaid : Prop := fnExactRanksOfUptoRow.holds Try.pinned (OpenSpec.upto fnExactRanksOfSpec)

/-- 'laws.FnExactRowsOf', WHERE WHAT IT READS IS OF BULK AT MOST 1048576: true; the input reads as it did. -/
def fnExactRowsOfUptoRow : OpenClaim := { program := "ytencndbckjejaaa", sum := "05500427bc663cd6b75568791d91475677c973eb59fb455f625f6beeb374750b", func := "loop.example/g00926/laws.FnExactRowsOf", spec := "fnExactRowsOf", unfollowed := true, recurses := true, apart := false, narrowed := true }
def FnExactRowsOfUptoSaid : Prop := fnExactRowsOfUptoRow.holds Try.pinned (OpenSpec.upto fnExactRowsOfSpec)

/-- 'laws.FnExactTiedWith', WHERE WHAT IT READS IS OF BULK AT MOST 1048576: true; the input reads as it did. -/
def fnExactTiedWithUptoRow : OpenClaim := { program := "ytencndbckjejaaa", sum := "05500427bc663cd6b75568791d91475677c973eb59fb455f625f6beeb374750b", func := "loop.example/g00926/laws.FnExactTiedWith", spec := "fnExactTiedWith", unfollowed := true, recurses := true, apart := false, narrowed := true }
def FnExactTiedWithUptoSaid : Prop := fnExactTiedWithUptoRow.holds Try.pinned (OpenSpec.upto fnExactTiedWithSpec)

/-- 'laws.FnTies', WHERE WHAT IT READS IS OF BULK AT MOST 1048576: true; the input reads as it did. -/
def fnTiesUptoRow : OpenClaim := { program := "ytencndbckjejaaa", sum := "05500427bc663cd6b75568791d91475677c973eb59fb455f625f6beeb374750b", func := "loop.example/g00926/laws.FnTies", spec := "fnTies", unfollowed := true, recurses := true, apart := false, narrowed := true }
def FnTiesUptoSaid : Prop := fnTiesUptoRow.holds Try.pinned (OpenSpec.upto fnTiesSpec)

end Rows
end Go.Proofs.Ytencndbckjejaaa
