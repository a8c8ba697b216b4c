/-
  No cell of these rows narrows 'for every input' (looked for: loops, veiled, ifaces, maps, wideKeys, modest, calm, conditions, laid).
  DERIVED. THE GIVEN ROWS OF THIS SEAT. 8 by the template 'for every input the law returns true; each argument reads behind the call as it read before'; 0 by the template 'total and deterministic' (their statements: YtpcenpedbdenmaaTotals.lean).
  GIVEN WITH THE SEED: the statements are not yours to turn. If you find one false, say at which input.
  Laid BY PROGRAM, IN A SANDBOX (cutbox-rows.mjs): the forced cells as the released guide's own fill.sh prints them over the translation 4107657572ea1faa… (all of the seat's roots in one cut). By AI agents, Wed Nov 11 2026. No macro, syntax, notation, axiom, sorry.
-/
import Derived.Test.YtpcenpedbdenmaaChecked
import GoSem.Claim
import GoSem.ClaimJoined
import GoSem.ClaimMapViews
import Derived.JoinedTies
import Derived.KernelRfl
namespace Go.Proofs.Ytpcenpedbdenmaa
/- THE CELL 'sum', in the pinned program and in every row, IS THE sha256 OF THE DUMP (.gsa) THAT YtpcenpedbdenmaaProg.lean LOADS. Nothing in Lean hashes anything: it is a label: what it is worth is what the hold of that sum in a sandbox is worth. -/
noncomputable def Try.pinned : Pinned := { name := "ytpcenpedbdenmaa", sum := "4107657572ea1faa48862420ed4ae2aecd110e93dcf532b2fd5d1bd6a40aa971", checked := Try.checked }
namespace Rows
def none {H : Type} : Left H := { results := [], args := [] }

/-- 'laws.FnExactNewMemory': WHATEVER THE INPUT: true; the input reads as it did. -/
def fnExactNewMemorySpec : ChangeSpec := { name := "fnExactNewMemory", fn := fun _ => fun
  | [d1, d2] => { results := [.lit (.bool true)], args := [d1, d2] }
  | _ => none }
def fnExactNewMemoryRow : OpenClaim := { program := "ytpcenpedbdenmaa", sum := "4107657572ea1faa48862420ed4ae2aecd110e93dcf532b2fd5d1bd6a40aa971", func := "loop.example/g00926/laws.FnExactNewMemory", spec := "fnExactNewMemory", apart := false }
def FnExactNewMemorySaid : Prop := fnExactNewMemoryRow.holds Try.pinned (OpenSpec.ofChange fnExactNewMemorySpec)

/-- ITS FALSE NEIGHBOUR: 'it returns false'. Refute it at one input. -/
def fnExactNewMemoryWrong : ChangeSpec := { name := "fnExactNewMemory", fn := fun _ => fun
  | [d1, d2] => { results := [.lit (.bool false)], args := [d1, d2] }
  | _ => none }
def FnExactNewMemoryWrongFalsely : Prop := fnExactNewMemoryRow.holds Try.pinned (OpenSpec.ofChange fnExactNewMemoryWrong)

/-- 'laws.FnExactSameMemory': WHATEVER THE INPUT: true; the input reads as it did. -/
def fnExactSameMemorySpec : ChangeSpec := { name := "fnExactSameMemory", fn := fun _ => fun
  | [d1, d2] => { results := [.lit (.bool true)], args := [d1, d2] }
  | _ => none }
def fnExactSameMemoryRow : OpenClaim := { program := "ytpcenpedbdenmaa", sum := "4107657572ea1faa48862420ed4ae2aecd110e93dcf532b2fd5d1bd6a40aa971", func := "loop.example/g00926/laws.FnExactSameMemory", spec := "fnExactSameMemory", apart := false }
def FnExactSameMemorySaid : Prop := fnExactSameMemoryRow.holds Try.pinned (OpenSpec.ofChange fnExactSameMemorySpec)

/-- ITS FALSE NEIGHBOUR: 'it returns false'. Refute it at one input. -/
def fnExactSameMemoryWrong : ChangeSpec := { name := "fnExactSameMemory", fn := fun _ => fun
  | [d1, d2] => { results := [.lit (.bool false)], args := [d1, d2] }
  | _ => none }
def FnExactSameMemoryWrongFalsely : Prop := fnExactSameMemoryRow.holds Try.pinned (OpenSpec.ofChange fnExactSameMemoryWrong)

/-- 'laws.FnExactValidMemory': WHATEVER THE INPUT: true; the input reads as it did. -/
def fnExactValidMemorySpec : ChangeSpec := { name := "fnExactValidMemory", fn := fun _ => fun
  | [d] => { results := [.lit (.bool true)], args := [d] }
  | _ => none }
def fnExactValidMemoryRow : OpenClaim := { program := "ytpcenpedbdenmaa", sum := "4107657572ea1faa48862420ed4ae2aecd110e93dcf532b2fd5d1bd6a40aa971", func := "loop.example/g00926/laws.FnExactValidMemory", spec := "fnExactValidMemory", apart := false }
def FnExactValidMemorySaid : Prop := fnExactValidMemoryRow.holds Try.pinned (OpenSpec.ofChange fnExactValidMemorySpec)

/-- ITS FALSE NEIGHBOUR: 'it returns false'. Refute it at one input. -/
def fnExactValidMemoryWrong : ChangeSpec := { name := "fnExactValidMemory", fn := fun _ => fun
  | [d] => { results := [.lit (.bool false)], args := [d] }
  | _ => none }
def FnExactValidMemoryWrongFalsely : Prop := fnExactValidMemoryRow.holds Try.pinned (OpenSpec.ofChange fnExactValidMemoryWrong)

/-- 'laws.FnExactFilledSlots': WHATEVER THE INPUT: true; the input reads as it did. -/
def fnExactFilledSlotsSpec : ChangeSpec := { name := "fnExactFilledSlots", fn := fun _ => fun
  | [d] => { results := [.lit (.bool true)], args := [d] }
  | _ => none }
def fnExactFilledSlotsRow : OpenClaim := { program := "ytpcenpedbdenmaa", sum := "4107657572ea1faa48862420ed4ae2aecd110e93dcf532b2fd5d1bd6a40aa971", func := "loop.example/g00926/laws.FnExactFilledSlots", spec := "fnExactFilledSlots", apart := false }
def FnExactFilledSlotsSaid : Prop := fnExactFilledSlotsRow.holds Try.pinned (OpenSpec.ofChange fnExactFilledSlotsSpec)

/-- ITS FALSE NEIGHBOUR: 'it returns false'. Refute it at one input. -/
def fnExactFilledSlotsWrong : ChangeSpec := { name := "fnExactFilledSlots", fn := fun _ => fun
  | [d] => { results := [.lit (.bool false)], args := [d] }
  | _ => none }
def FnExactFilledSlotsWrongFalsely : Prop := fnExactFilledSlotsRow.holds Try.pinned (OpenSpec.ofChange fnExactFilledSlotsWrong)

/-- 'laws.FnExactSlotOf': WHATEVER THE INPUT: true; the input reads as it did. -/
def fnExactSlotOfSpec : ChangeSpec := { name := "fnExactSlotOf", fn := fun _ => fun
  | [d1, d2] => { results := [.lit (.bool true)], args := [d1, d2] }
  | _ => none }
def fnExactSlotOfRow : OpenClaim := { program := "ytpcenpedbdenmaa", sum := "4107657572ea1faa48862420ed4ae2aecd110e93dcf532b2fd5d1bd6a40aa971", func := "loop.example/g00926/laws.FnExactSlotOf", spec := "fnExactSlotOf", apart := false }
def FnExactSlotOfSaid : Prop := fnExactSlotOfRow.holds Try.pinned (OpenSpec.ofChange fnExactSlotOfSpec)

/-- ITS FALSE NEIGHBOUR: 'it returns false'. Refute it at one input. -/
def fnExactSlotOfWrong : ChangeSpec := { name := "fnExactSlotOf", fn := fun _ => fun
  | [d1, d2] => { results := [.lit (.bool false)], args := [d1, d2] }
  | _ => none }
def FnExactSlotOfWrongFalsely : Prop := fnExactSlotOfRow.holds Try.pinned (OpenSpec.ofChange fnExactSlotOfWrong)

/-- 'laws.FnExactLookValue': WHATEVER THE INPUT: true; the input reads as it did. -/
def fnExactLookValueSpec : ChangeSpec := { name := "fnExactLookValue", fn := fun _ => fun
  | [d1, d2, d3] => { results := [.lit (.bool true)], args := [d1, d2, d3] }
  | _ => none }
def fnExactLookValueRow : OpenClaim := { program := "ytpcenpedbdenmaa", sum := "4107657572ea1faa48862420ed4ae2aecd110e93dcf532b2fd5d1bd6a40aa971", func := "loop.example/g00926/laws.FnExactLookValue", spec := "fnExactLookValue", apart := false }
def FnExactLookValueSaid : Prop := fnExactLookValueRow.holds Try.pinned (OpenSpec.ofChange fnExactLookValueSpec)

/-- ITS FALSE NEIGHBOUR: 'it returns false'. Refute it at one input. -/
def fnExactLookValueWrong : ChangeSpec := { name := "fnExactLookValue", fn := fun _ => fun
  | [d1, d2, d3] => { results := [.lit (.bool false)], args := [d1, d2, d3] }
  | _ => none }
def FnExactLookValueWrongFalsely : Prop := fnExactLookValueRow.holds Try.pinned (OpenSpec.ofChange fnExactLookValueWrong)

/-- 'laws.FnExactNewBook': WHATEVER THE INPUT: true; the input reads as it did. -/
def fnExactNewBookSpec : ChangeSpec := { name := "fnExactNewBook", fn := fun _ => fun
  | [d] => { results := [.lit (.bool true)], args := [d] }
  | _ => none }
def fnExactNewBookRow : OpenClaim := { program := "ytpcenpedbdenmaa", sum := "4107657572ea1faa48862420ed4ae2aecd110e93dcf532b2fd5d1bd6a40aa971", func := "loop.example/g00926/laws.FnExactNewBook", spec := "fnExactNewBook", apart := false }
def FnExactNewBookSaid : Prop := fnExactNewBookRow.holds Try.pinned (OpenSpec.ofChange fnExactNewBookSpec)

/-- ITS FALSE NEIGHBOUR: 'it returns false'. Refute it at one input. -/
def fnExactNewBookWrong : ChangeSpec := { name := "fnExactNewBook", fn := fun _ => fun
  | [d] => { results := [.lit (.bool false)], args := [d] }
  | _ => none }
def FnExactNewBookWrongFalsely : Prop := fnExactNewBookRow.holds Try.pinned (OpenSpec.ofChange fnExactNewBookWrong)

/-- 'laws.FnExactSameBook': WHATEVER THE INPUT: true; the input reads as it did. -/
def fnExactSameBookSpec : ChangeSpec := { name := "fnExactSameBook", fn := fun _ => fun
  | [d1, d2] => { results := [.lit (.bool true)], args := [d1, d2] }
  | _ => none }
def fnExactSameBookRow : OpenClaim := { program := "ytpcenpedbdenmaa", sum := "4107657572ea1faa48862420ed4ae2aecd110e93dcf532b2fd5d1bd6a40aa971", func := "loop.example/g00926/laws.FnExactSameBook", spec := "fnExactSameBook", apart := false }
def FnExactSameBookSaid : Prop := fnExactSameBookRow.holds Try.pinned (OpenSpec.ofChange fnExactSameBookSpec)

/-- ITS FALSE NEIGHBOUR: 'it returns false'. Refute it at one input. -/
def fnExactSameBookWrong : ChangeSpec := { name := "fnExactSameBook", fn := fun _ => fun
  | [d1, d2] => { results := [.lit (.bool false)], args := [d1, d2] }
  | _ => none }
def FnExactSameBookWrongFalsely : Prop := fnExactSameBookRow.holds Try.pinned (OpenSpec.ofChange fnExactSameBookWrong)

/- THE SECOND FORM. 'bulk': how many values and letters a reading holds, each counted each time it is reached (what is shared counts as often as it is met; a slice's spare places count too). A statement '..UptoSaid' is the law's where the arguments, and the package variables that the reading takes, are together of bulk at most 1048576: NARROWER than '..Said'. Prove '..Said' where nothing that the law and all that it calls make is longer than what came in: it says more and counts as full. Else prove '..UptoSaid'. A law counts once. -/
mutual
def uptoBulk {H : Type} : DataW H → Nat
  | .lit (.string bytes) => bytes.length + 1
  | .lit _ => 1
  | .nil => 1
  | .ptr d => uptoBulk d + 1
  | .slice elems spare => uptoBulkAll elems + uptoBulkAll spare + 1
  | .agg parts => uptoBulkAll parts + 1
  | .iface _ d => uptoBulk d + 1
  | .map entries => uptoBulkEntries entries + 1
  | .held _ => 1
def uptoBulkAll {H : Type} : List (DataW H) → Nat
  | [] => 0
  | d :: r => uptoBulk d + uptoBulkAll r
def uptoBulkEntries {H : Type} : List (Lit × DataW H) → Nat
  | [] => 0
  | x :: r => uptoBulkEntry x + uptoBulkEntries r
def uptoBulkEntry {H : Type} : Lit × DataW H → Nat
  | (.string bytes, d) => bytes.length + uptoBulk d + 1
  | (_, d) => uptoBulk d + 1
 end
def uptoSmall : (H : Type) → List (DataW H) → Bool := fun _ ds => decide (uptoBulkAll ds ≤ 1048576)
def OpenSpec.upto (s : _root_.Go.ChangeSpec) : _root_.Go.OpenSpec := { _root_.Go.OpenSpec.ofChange s with cond := some uptoSmall }

/-- 'laws.FnExactNewMemory', WHERE WHAT IT READS IS OF BULK AT MOST 1048576: true; the input reads as it did. -/
def fnExactNewMemoryUptoRow : OpenClaim := { program := "ytpcenpedbdenmaa", sum := "4107657572ea1faa48862420ed4ae2aecd110e93dcf532b2fd5d1bd6a40aa971", func := "loop.example/g00926/laws.FnExactNewMemory", spec := "fnExactNewMemory", apart := false, narrowed := true }
def FnExactNewMemoryUptoSaid : Prop := fnExactNewMemoryUptoRow.holds Try.pinned (OpenSpec.upto fnExactNewMemorySpec)

/-- 'laws.FnExactSameMemory', WHERE WHAT IT READS IS OF BULK AT MOST 1048576: true; the input reads as it did. -/
def fnExactSameMemoryUptoRow : OpenClaim := { program := "ytpcenpedbdenmaa", sum := "4107657572ea1faa48862420ed4ae2aecd110e93dcf532b2fd5d1bd6a40aa971", func := "loop.example/g00926/laws.FnExactSameMemory", spec := "fnExactSameMemory", apart := false, narrowed := true }
def FnExactSameMemoryUptoSaid : Prop := fnExactSameMemoryUptoRow.holds Try.pinned (OpenSpec.upto fnExactSameMemorySpec)

/-- 'laws.FnExactValidMemory', WHERE WHAT IT READS IS OF BULK AT MOST 1048576: true; the input reads as it did. -/
def fnExactValidMemoryUptoRow : OpenClaim := { program := "ytpcenpedbdenmaa", sum := "4107657572ea1faa48862420ed4ae2aecd110e93dcf532b2fd5d1bd6a40aa971", func := "loop.example/g00926/laws.FnExactValidMemory", spec := "fnExactValidMemory", apart := false, narrowed := true }
def FnExactValidMemoryUptoSaid : Prop := fnExactValidMemoryUptoRow.holds Try.pinned (OpenSpec.upto fnExactValidMemorySpec)

/-- 'laws.FnExactFilledSlots', WHERE WHAT IT READS IS OF BULK AT MOST 1048576: true; the input reads as it did. -/
def fnExactFilledSlotsUptoRow : OpenClaim := { program := "ytpcenpedbdenmaa", sum := "4107657572ea1faa48862420ed4ae2aecd110e93dcf532b2fd5d1bd6a40aa971", func := "loop.example/g00926/laws.FnExactFilledSlots", spec := "fnExactFilledSlots", apart := false, narrowed := true }
def FnExactFilledSlotsUptoSaid : Prop := fnExactFilledSlotsUptoRow.holds Try.pinned (OpenSpec.upto fnExactFilledSlotsSpec)

/-- 'laws.FnExactSlotOf', WHERE WHAT IT READS IS OF BULK AT MOST 1048576: true; the input reads as it did. -/
def fnExactSlotOfUptoRow : OpenClaim := { program := "ytpcenpedbdenmaa", sum := "4107657572ea1faa48862420ed4ae2aecd110e93dcf532b2fd5d1bd6a40aa971", func := "loop.example/g00926/laws.FnExactSlotOf", spec := "fnExactSlotOf", apart := false, narrowed := true }
def FnExactSlotOfUptoSaid : Prop := fnExactSlotOfUptoRow.holds Try.pinned (OpenSpec.upto fnExactSlotOfSpec)

/-- 'laws.FnExactLookValue', WHERE WHAT IT READS IS OF BULK AT MOST 1048576: true; the input reads as it did. -/
def fnExactLookValueUptoRow : OpenClaim := { program := "ytpcenpedbdenmaa", sum := "4107657572ea1faa48862420ed4ae2aecd110e93dcf532b2fd5d1bd6a40aa971", func := "loop.example/g00926/laws.FnExactLookValue", spec := "fnExactLookValue", apart := false, narrowed := true }
def FnExactLookValueUptoSaid : Prop := fnExactLookValueUptoRow.holds Try.pinned (OpenSpec.upto fnExactLookValueSpec)

/-- 'laws.FnExactNewBook', WHERE WHAT IT READS IS OF BULK AT MOST 1048576: true; the input reads as it did. -/
def fnExactNewBookUptoRow : OpenClaim := { program := "ytpcenpedbdenmaa", sum := "4107657572ea1faa48862420ed4ae2aecd110e93dcf532b2fd5d1bd6a40aa971", func := "loop.example/g00926/laws.FnExactNewBook", spec := "fnExactNewBook", apart := false, narrowed := true }
def FnExactNewBookUptoSaid : Prop := fnExactNewBookUptoRow.holds Try.pinned (OpenSpec.upto fnExactNewBookSpec)

/-- 'laws.FnExactSameBook', WHERE WHAT IT READS IS OF BULK AT MOST 1048576: true; the input reads as it did. -/
def fnExactSameBookUptoRow : OpenClaim := { program := "ytpcenpedbdenmaa", sum := "4107657572ea1faa48862420ed4ae2aecd110e93dcf532b2fd5d1bd6a40aa971", func := "loop.example/g00926/laws.FnExactSameBook", spec := "fnExactSameBook", apart := false, narrowed := true }
def FnExactSameBookUptoSaid : Prop := fnExactSameBookUptoRow.holds Try.pinned (OpenSpec.upto fnExactSameBookSpec)

end Rows
end Go.Proofs.Ytpcenpedbdenmaa
