/-
  NARROWER THAN 'FOR EVERY INPUT', by the rows' own cells (each row's printed sentence says how): FnExactFlawText: laid · FnExactRatedText: laid · FnExactTimeText: laid · FnExactMatchText: laid · FnExactReadTime: laid · FnExactReadRated: laid · FnExactReadMatch: laid · FnTimes: laid.
  DERIVED. THE GIVEN ROWS OF THIS SEAT. 8 by the template 'for every input the law returns true; each argument reads behind the call as it read before'; 0 by the template 'total and deterministic' (their statements: YtggnajoocfmgpaaDoorTotals.lean).
  GIVEN WITH THE SEED: the statements are not yours to turn. If you find one false, say at which input.
  Laid BY PROGRAM, IN A SANDBOX (cutbox-rows.mjs): the forced cells as the released guide's own fill.sh prints them over the translation d50602548383ff20… (all of the seat's roots in one cut). By AI agents, Wed Nov 11 2026. No macro, syntax, notation, axiom, sorry.
-/
import Derived.Test.YtggnajoocfmgpaaDoorChecked
import GoSem.Claim
import GoSem.ClaimJoined
import GoSem.ClaimMapViews
import Derived.JoinedTies
import Derived.KernelRfl
namespace Go.Proofs.YtggnajoocfmgpaaDoor
/- THE CELL 'sum', in the pinned program and in every row, IS THE sha256 OF THE DUMP (.gsa) THAT YtggnajoocfmgpaaDoorProg.lean LOADS. Nothing in Lean hashes anything: it is a label: what it is worth is what the hold of that sum in a sandbox is worth. -/
noncomputable def Tryd.pinned : Pinned := { name := "ytggnajoocfmgpaadoor", sum := "d50602548383ff202b7da5174848dc7426b0ff9000dc822923cb9a1e0b45dd1c", checked := Tryd.checked }
namespace Rows
def none {H : Type} : Left H := { results := [], args := [] }

/- WHAT THE LISTED PACKAGE-LEVEL VARIABLES READ AS WHEN THE CALL BEGINS. Each datum BY PROGRAM (the guide's laid-datum.mjs) off the statement by which the dump's own 'gosem.cut.vars' lays the variable. In a bare row this is a premise. The card (YtggnajoocfmgpaaDoorCards.lean) ties it to the program's text. -/
def laid_math_bits_deBruijn32tab {H : Type} : DataW H := .agg [.lit (.int .u8 0), .lit (.int .u8 1), .lit (.int .u8 28), .lit (.int .u8 2), .lit (.int .u8 29), .lit (.int .u8 14), .lit (.int .u8 24), .lit (.int .u8 3), .lit (.int .u8 30), .lit (.int .u8 22), .lit (.int .u8 20), .lit (.int .u8 15), .lit (.int .u8 25), .lit (.int .u8 17), .lit (.int .u8 4), .lit (.int .u8 8), .lit (.int .u8 31), .lit (.int .u8 27), .lit (.int .u8 13), .lit (.int .u8 23), .lit (.int .u8 21), .lit (.int .u8 19), .lit (.int .u8 16), .lit (.int .u8 7), .lit (.int .u8 26), .lit (.int .u8 12), .lit (.int .u8 18), .lit (.int .u8 6), .lit (.int .u8 11), .lit (.int .u8 5), .lit (.int .u8 10), .lit (.int .u8 9)]
def laid_math_bits_deBruijn64tab {H : Type} : DataW H := .agg [.lit (.int .u8 0), .lit (.int .u8 1), .lit (.int .u8 56), .lit (.int .u8 2), .lit (.int .u8 57), .lit (.int .u8 49), .lit (.int .u8 28), .lit (.int .u8 3), .lit (.int .u8 61), .lit (.int .u8 58), .lit (.int .u8 42), .lit (.int .u8 50), .lit (.int .u8 38), .lit (.int .u8 29), .lit (.int .u8 17), .lit (.int .u8 4), .lit (.int .u8 62), .lit (.int .u8 47), .lit (.int .u8 59), .lit (.int .u8 36), .lit (.int .u8 45), .lit (.int .u8 43), .lit (.int .u8 51), .lit (.int .u8 22), .lit (.int .u8 53), .lit (.int .u8 39), .lit (.int .u8 33), .lit (.int .u8 30), .lit (.int .u8 24), .lit (.int .u8 18), .lit (.int .u8 12), .lit (.int .u8 5), .lit (.int .u8 63), .lit (.int .u8 55), .lit (.int .u8 48), .lit (.int .u8 27), .lit (.int .u8 60), .lit (.int .u8 41), .lit (.int .u8 37), .lit (.int .u8 16), .lit (.int .u8 46), .lit (.int .u8 35), .lit (.int .u8 44), .lit (.int .u8 21), .lit (.int .u8 52), .lit (.int .u8 32), .lit (.int .u8 23), .lit (.int .u8 11), .lit (.int .u8 54), .lit (.int .u8 26), .lit (.int .u8 40), .lit (.int .u8 15), .lit (.int .u8 34), .lit (.int .u8 20), .lit (.int .u8 31), .lit (.int .u8 10), .lit (.int .u8 25), .lit (.int .u8 14), .lit (.int .u8 19), .lit (.int .u8 9), .lit (.int .u8 13), .lit (.int .u8 8), .lit (.int .u8 7), .lit (.int .u8 6)]
def laid_internal_strconv_uint64pow10 {H : Type} : DataW H := .agg [.lit (.int .u64 1), .lit (.int .u64 10), .lit (.int .u64 100), .lit (.int .u64 1000), .lit (.int .u64 10000), .lit (.int .u64 100000), .lit (.int .u64 1000000), .lit (.int .u64 10000000), .lit (.int .u64 100000000), .lit (.int .u64 1000000000), .lit (.int .u64 10000000000), .lit (.int .u64 100000000000), .lit (.int .u64 1000000000000), .lit (.int .u64 10000000000000), .lit (.int .u64 100000000000000), .lit (.int .u64 1000000000000000), .lit (.int .u64 10000000000000000), .lit (.int .u64 100000000000000000), .lit (.int .u64 1000000000000000000), .lit (.int .u64 10000000000000000000)]

/-- 'laws.FnExactFlawText': WHATEVER THE INPUT: true; the input reads as it did. -/
def fnExactFlawTextSpec : ChangeSpec := { name := "fnExactFlawText", fn := fun _ => fun
  | [d] => { results := [.lit (.bool true)], args := [d] }
  | _ => none }
def fnExactFlawTextRow : OpenClaim := { program := "ytggnajoocfmgpaadoor", sum := "d50602548383ff202b7da5174848dc7426b0ff9000dc822923cb9a1e0b45dd1c", func := "loop.example/g00926/laws.FnExactFlawText", spec := "fnExactFlawText", named := ["internal/strconv.uint64pow10", "math/bits.deBruijn32tab", "math/bits.deBruijn64tab"], apart := false, laid := [("math/bits.deBruijn32tab", laid_math_bits_deBruijn32tab), ("math/bits.deBruijn64tab", laid_math_bits_deBruijn64tab), ("internal/strconv.uint64pow10", laid_internal_strconv_uint64pow10)] }
def FnExactFlawTextSaid : Prop := fnExactFlawTextRow.holds Tryd.pinned (OpenSpec.ofChange fnExactFlawTextSpec)

/-- ITS FALSE NEIGHBOUR: 'it returns false'. Refute it at one input. -/
def fnExactFlawTextWrong : ChangeSpec := { name := "fnExactFlawText", fn := fun _ => fun
  | [d] => { results := [.lit (.bool false)], args := [d] }
  | _ => none }
def FnExactFlawTextWrongFalsely : Prop := fnExactFlawTextRow.holds Tryd.pinned (OpenSpec.ofChange fnExactFlawTextWrong)

/-- 'laws.FnExactRatedText': WHATEVER THE INPUT: true; the input reads as it did. -/
def fnExactRatedTextSpec : ChangeSpec := { name := "fnExactRatedText", fn := fun _ => fun
  | [d] => { results := [.lit (.bool true)], args := [d] }
  | _ => none }
def fnExactRatedTextRow : OpenClaim := { program := "ytggnajoocfmgpaadoor", sum := "d50602548383ff202b7da5174848dc7426b0ff9000dc822923cb9a1e0b45dd1c", func := "loop.example/g00926/laws.FnExactRatedText", spec := "fnExactRatedText", named := ["internal/strconv.uint64pow10", "math/bits.deBruijn32tab", "math/bits.deBruijn64tab"], apart := false, laid := [("math/bits.deBruijn32tab", laid_math_bits_deBruijn32tab), ("math/bits.deBruijn64tab", laid_math_bits_deBruijn64tab), ("internal/strconv.uint64pow10", laid_internal_strconv_uint64pow10)] }
def FnExactRatedTextSaid : Prop := fnExactRatedTextRow.holds Tryd.pinned (OpenSpec.ofChange fnExactRatedTextSpec)

/-- ITS FALSE NEIGHBOUR: 'it returns false'. Refute it at one input. -/
def fnExactRatedTextWrong : ChangeSpec := { name := "fnExactRatedText", fn := fun _ => fun
  | [d] => { results := [.lit (.bool false)], args := [d] }
  | _ => none }
def FnExactRatedTextWrongFalsely : Prop := fnExactRatedTextRow.holds Tryd.pinned (OpenSpec.ofChange fnExactRatedTextWrong)

/-- 'laws.FnExactTimeText': WHATEVER THE INPUT: true; the input reads as it did. -/
def fnExactTimeTextSpec : ChangeSpec := { name := "fnExactTimeText", fn := fun _ => fun
  | [d] => { results := [.lit (.bool true)], args := [d] }
  | _ => none }
def fnExactTimeTextRow : OpenClaim := { program := "ytggnajoocfmgpaadoor", sum := "d50602548383ff202b7da5174848dc7426b0ff9000dc822923cb9a1e0b45dd1c", func := "loop.example/g00926/laws.FnExactTimeText", spec := "fnExactTimeText", named := ["internal/strconv.uint64pow10", "math/bits.deBruijn32tab", "math/bits.deBruijn64tab"], apart := false, laid := [("math/bits.deBruijn32tab", laid_math_bits_deBruijn32tab), ("math/bits.deBruijn64tab", laid_math_bits_deBruijn64tab), ("internal/strconv.uint64pow10", laid_internal_strconv_uint64pow10)] }
def FnExactTimeTextSaid : Prop := fnExactTimeTextRow.holds Tryd.pinned (OpenSpec.ofChange fnExactTimeTextSpec)

/-- ITS FALSE NEIGHBOUR: 'it returns false'. Refute it at one input. -/
def fnExactTimeTextWrong : ChangeSpec := { name := "fnExactTimeText", fn := fun _ => fun
  | [d] => { results := [.lit (.bool false)], args := [d] }
  | _ => none }
def FnExactTimeTextWrongFalsely : Prop := fnExactTimeTextRow.holds Tryd.pinned (OpenSpec.ofChange fnExactTimeTextWrong)

/-- 'laws.FnExactMatchText': WHATEVER THE INPUT: true; the input reads as it did. -/
def fnExactMatchTextSpec : ChangeSpec := { name := "fnExactMatchText", fn := fun _ => fun
  | [d] => { results := [.lit (.bool true)], args := [d] }
  | _ => none }
def fnExactMatchTextRow : OpenClaim := { program := "ytggnajoocfmgpaadoor", sum := "d50602548383ff202b7da5174848dc7426b0ff9000dc822923cb9a1e0b45dd1c", func := "loop.example/g00926/laws.FnExactMatchText", spec := "fnExactMatchText", named := ["internal/strconv.uint64pow10", "math/bits.deBruijn32tab", "math/bits.deBruijn64tab"], apart := false, laid := [("math/bits.deBruijn32tab", laid_math_bits_deBruijn32tab), ("math/bits.deBruijn64tab", laid_math_bits_deBruijn64tab), ("internal/strconv.uint64pow10", laid_internal_strconv_uint64pow10)] }
def FnExactMatchTextSaid : Prop := fnExactMatchTextRow.holds Tryd.pinned (OpenSpec.ofChange fnExactMatchTextSpec)

/-- ITS FALSE NEIGHBOUR: 'it returns false'. Refute it at one input. -/
def fnExactMatchTextWrong : ChangeSpec := { name := "fnExactMatchText", fn := fun _ => fun
  | [d] => { results := [.lit (.bool false)], args := [d] }
  | _ => none }
def FnExactMatchTextWrongFalsely : Prop := fnExactMatchTextRow.holds Tryd.pinned (OpenSpec.ofChange fnExactMatchTextWrong)

/-- 'laws.FnExactReadTime': WHATEVER THE INPUT: true; the input reads as it did. -/
def fnExactReadTimeSpec : ChangeSpec := { name := "fnExactReadTime", fn := fun _ => fun
  | [d] => { results := [.lit (.bool true)], args := [d] }
  | _ => none }
def fnExactReadTimeRow : OpenClaim := { program := "ytggnajoocfmgpaadoor", sum := "d50602548383ff202b7da5174848dc7426b0ff9000dc822923cb9a1e0b45dd1c", func := "loop.example/g00926/laws.FnExactReadTime", spec := "fnExactReadTime", named := ["internal/strconv.uint64pow10", "math/bits.deBruijn32tab", "math/bits.deBruijn64tab"], apart := false, laid := [("math/bits.deBruijn32tab", laid_math_bits_deBruijn32tab), ("math/bits.deBruijn64tab", laid_math_bits_deBruijn64tab), ("internal/strconv.uint64pow10", laid_internal_strconv_uint64pow10)] }
def FnExactReadTimeSaid : Prop := fnExactReadTimeRow.holds Tryd.pinned (OpenSpec.ofChange fnExactReadTimeSpec)

/-- ITS FALSE NEIGHBOUR: 'it returns false'. Refute it at one input. -/
def fnExactReadTimeWrong : ChangeSpec := { name := "fnExactReadTime", fn := fun _ => fun
  | [d] => { results := [.lit (.bool false)], args := [d] }
  | _ => none }
def FnExactReadTimeWrongFalsely : Prop := fnExactReadTimeRow.holds Tryd.pinned (OpenSpec.ofChange fnExactReadTimeWrong)

/-- 'laws.FnExactReadRated': WHATEVER THE INPUT: true; the input reads as it did. -/
def fnExactReadRatedSpec : ChangeSpec := { name := "fnExactReadRated", fn := fun _ => fun
  | [d] => { results := [.lit (.bool true)], args := [d] }
  | _ => none }
def fnExactReadRatedRow : OpenClaim := { program := "ytggnajoocfmgpaadoor", sum := "d50602548383ff202b7da5174848dc7426b0ff9000dc822923cb9a1e0b45dd1c", func := "loop.example/g00926/laws.FnExactReadRated", spec := "fnExactReadRated", named := ["internal/strconv.uint64pow10", "math/bits.deBruijn32tab", "math/bits.deBruijn64tab"], apart := false, laid := [("math/bits.deBruijn32tab", laid_math_bits_deBruijn32tab), ("math/bits.deBruijn64tab", laid_math_bits_deBruijn64tab), ("internal/strconv.uint64pow10", laid_internal_strconv_uint64pow10)] }
def FnExactReadRatedSaid : Prop := fnExactReadRatedRow.holds Tryd.pinned (OpenSpec.ofChange fnExactReadRatedSpec)

/-- ITS FALSE NEIGHBOUR: 'it returns false'. Refute it at one input. -/
def fnExactReadRatedWrong : ChangeSpec := { name := "fnExactReadRated", fn := fun _ => fun
  | [d] => { results := [.lit (.bool false)], args := [d] }
  | _ => none }
def FnExactReadRatedWrongFalsely : Prop := fnExactReadRatedRow.holds Tryd.pinned (OpenSpec.ofChange fnExactReadRatedWrong)

/-- 'laws.FnExactReadMatch': WHATEVER THE INPUT: true; the input reads as it did. -/
def fnExactReadMatchSpec : ChangeSpec := { name := "fnExactReadMatch", fn := fun _ => fun
  | [d] => { results := [.lit (.bool true)], args := [d] }
  | _ => none }
def fnExactReadMatchRow : OpenClaim := { program := "ytggnajoocfmgpaadoor", sum := "d50602548383ff202b7da5174848dc7426b0ff9000dc822923cb9a1e0b45dd1c", func := "loop.example/g00926/laws.FnExactReadMatch", spec := "fnExactReadMatch", named := ["internal/strconv.uint64pow10", "math/bits.deBruijn32tab", "math/bits.deBruijn64tab"], apart := false, laid := [("math/bits.deBruijn32tab", laid_math_bits_deBruijn32tab), ("math/bits.deBruijn64tab", laid_math_bits_deBruijn64tab), ("internal/strconv.uint64pow10", laid_internal_strconv_uint64pow10)] }
def FnExactReadMatchSaid : Prop := fnExactReadMatchRow.holds Tryd.pinned (OpenSpec.ofChange fnExactReadMatchSpec)

/-- ITS FALSE NEIGHBOUR: 'it returns false'. Refute it at one input. -/
def fnExactReadMatchWrong : ChangeSpec := { name := "fnExactReadMatch", fn := fun _ => fun
  | [d] => { results := [.lit (.bool false)], args := [d] }
  | _ => none }
def FnExactReadMatchWrongFalsely : Prop := fnExactReadMatchRow.holds Tryd.pinned (OpenSpec.ofChange fnExactReadMatchWrong)

/-- 'laws.FnTimes': WHATEVER THE INPUT: true; the input reads as it did. -/
def fnTimesSpec : ChangeSpec := { name := "fnTimes", fn := fun _ => fun
  | [d] => { results := [.lit (.bool true)], args := [d] }
  | _ => none }
def fnTimesRow : OpenClaim := { program := "ytggnajoocfmgpaadoor", sum := "d50602548383ff202b7da5174848dc7426b0ff9000dc822923cb9a1e0b45dd1c", func := "loop.example/g00926/laws.FnTimes", spec := "fnTimes", named := ["internal/strconv.uint64pow10", "math/bits.deBruijn32tab", "math/bits.deBruijn64tab"], apart := false, laid := [("math/bits.deBruijn32tab", laid_math_bits_deBruijn32tab), ("math/bits.deBruijn64tab", laid_math_bits_deBruijn64tab), ("internal/strconv.uint64pow10", laid_internal_strconv_uint64pow10)] }
def FnTimesSaid : Prop := fnTimesRow.holds Tryd.pinned (OpenSpec.ofChange fnTimesSpec)

/-- ITS FALSE NEIGHBOUR: 'it returns false'. Refute it at one input. -/
def fnTimesWrong : ChangeSpec := { name := "fnTimes", fn := fun _ => fun
  | [d] => { results := [.lit (.bool false)], args := [d] }
  | _ => none }
def FnTimesWrongFalsely : Prop := fnTimesRow.holds Tryd.pinned (OpenSpec.ofChange fnTimesWrong)

/- THE SECOND FORM. 'bulk': how many values and letters a reading holds, each counted each time it is reached (what is shared counts as often as it is met; a slice's spare places count too). A statement '..UptoSaid' is the law's where the arguments, and the package variables that the reading takes, are together of bulk at most 1048576: NARROWER than '..Said'. Prove '..Said' where nothing that the law and all that it calls make is longer than what came in: it says more and counts as full. Else prove '..UptoSaid'. A law counts once. -/
mutual
def uptoBulk {H : Type} : DataW H → Nat
  | .lit (.string bytes) => bytes.length + 1
  | .lit _ => 1
  | .nil => 1
  | .ptr d => uptoBulk d + 1
  | .slice elems spare => uptoBulkAll elems + uptoBulkAll spare + 1
  | .agg parts => uptoBulkAll parts + 1
  | .iface _ d => uptoBulk d + 1
  | .map entries => uptoBulkEntries entries + 1
  | .held _ => 1
def uptoBulkAll {H : Type} : List (DataW H) → Nat
  | [] => 0
  | d :: r => uptoBulk d + uptoBulkAll r
def uptoBulkEntries {H : Type} : List (Lit × DataW H) → Nat
  | [] => 0
  | x :: r => uptoBulkEntry x + uptoBulkEntries r
def uptoBulkEntry {H : Type} : Lit × DataW H → Nat
  | (.string bytes, d) => bytes.length + uptoBulk d + 1
  | (_, d) => uptoBulk d + 1
 end
def uptoSmall : (H : Type) → List (DataW H) → Bool := fun _ ds => decide (uptoBulkAll ds ≤ 1048576)
def OpenSpec.upto (s : _root_.Go.ChangeSpec) : _root_.Go.OpenSpec := { _root_.Go.OpenSpec.ofChange s with cond := some uptoSmall }

/-- 'laws.FnExactFlawText', WHERE WHAT IT READS IS OF BULK AT MOST 1048576: true; the input reads as it did. -/
def fnExactFlawTextUptoRow : OpenClaim := { program := "ytggnajoocfmgpaadoor", sum := "d50602548383ff202b7da5174848dc7426b0ff9000dc822923cb9a1e0b45dd1c", func := "loop.example/g00926/laws.FnExactFlawText", spec := "fnExactFlawText", named := ["internal/strconv.uint64pow10", "math/bits.deBruijn32tab", "math/bits.deBruijn64tab"], apart := false, laid := [("math/bits.deBruijn32tab", laid_math_bits_deBruijn32tab), ("math/bits.deBruijn64tab", laid_math_bits_deBruijn64tab), ("internal/strconv.uint64pow10", laid_internal_strconv_uint64pow10)], narrowed := true }
def FnExactFlawTextUptoSaid : Prop := fnExactFlawTextUptoRow.holds Tryd.pinned (OpenSpec.upto fnExactFlawTextSpec)

/-- 'laws.FnExactRatedText', WHERE WHAT IT READS IS OF BULK AT MOST 1048576: true; the input reads as it did. -/
def fnExactRatedTextUptoRow : OpenClaim := { program := "ytggnajoocfmgpaadoor", sum := "d50602548383ff202b7da5174848dc7426b0ff9000dc822923cb9a1e0b45dd1c", func := "loop.example/g00926/laws.FnExactRatedText", spec := "fnExactRatedText", named := ["internal/strconv.uint64pow10", "math/bits.deBruijn32tab", "math/bits.deBruijn64tab"], apart := false, laid := [("math/bits.deBruijn32tab", laid_math_bits_deBruijn32tab), ("math/bits.deBruijn64tab", laid_math_bits_deBruijn64tab), ("internal/strconv.uint64pow10", laid_internal_strconv_uint64pow10)], narrowed := true }
def FnExactRatedTextUptoSaid : Prop := fnExactRatedTextUptoRow.holds Tryd.pinned (OpenSpec.upto fnExactRatedTextSpec)

/-- 'laws.FnExactTimeText', WHERE WHAT IT READS IS OF BULK AT MOST 1048576: true; the input reads as it did. -/
def fnExactTimeTextUptoRow : OpenClaim := { program := "ytggnajoocfmgpaadoor", sum := "d50602548383ff202b7da5174848dc7426b0ff9000dc822923cb9a1e0b45dd1c", func := "loop.example/g00926/laws.FnExactTimeText", spec := "fnExactTimeText", named := ["internal/strconv.uint64pow10", "math/bits.deBruijn32tab", "math/bits.deBruijn64tab"], apart := false, laid := [("math/bits.deBruijn32tab", laid_math_bits_deBruijn32tab), ("math/bits.deBruijn64tab", laid_math_bits_deBruijn64tab), ("internal/strconv.uint64pow10", laid_internal_strconv_uint64pow10)], narrowed := true }
def FnExactTimeTextUptoSaid : Prop := fnExactTimeTextUptoRow.holds Tryd.pinned (OpenSpec.upto fnExactTimeTextSpec)

/-- 'laws.FnExactMatchText', WHERE WHAT IT READS IS OF BULK AT MOST 1048576: true; the input reads as it did. -/
def fnExactMatchTextUptoRow : OpenClaim := { program := "ytggnajoocfmgpaadoor", sum := "d50602548383ff202b7da5174848dc7426b0ff9000dc822923cb9a1e0b45dd1c", func := "loop.example/g00926/laws.FnExactMatchText", spec := "fnExactMatchText", named := ["internal/strconv.uint64pow10", "math/bits.deBruijn32tab", "math/bits.deBruijn64tab"], apart := false, laid := [("math/bits.deBruijn32tab", laid_math_bits_deBruijn32tab), ("math/bits.deBruijn64tab", laid_math_bits_deBruijn64tab), ("internal/strconv.uint64pow10", laid_internal_strconv_uint64pow10)], narrowed := true }
def FnExactMatchTextUptoSaid : Prop := fnExactMatchTextUptoRow.holds Tryd.pinned (OpenSpec.upto fnExactMatchTextSpec)

/-- 'laws.FnExactReadTime', WHERE WHAT IT READS IS OF BULK AT MOST 1048576: true; the input reads as it did. -/
def fnExactReadTimeUptoRow : OpenClaim := { program := "ytggnajoocfmgpaadoor", sum := "d50602548383ff202b7da5174848dc7426b0ff9000dc822923cb9a1e0b45dd1c", func := "loop.example/g00926/laws.FnExactReadTime", spec := "fnExactReadTime", named := ["internal/strconv.uint64pow10", "math/bits.deBruijn32tab", "math/bits.deBruijn64tab"], apart := false, laid := [("math/bits.deBruijn32tab", laid_math_bits_deBruijn32tab), ("math/bits.deBruijn64tab", laid_math_bits_deBruijn64tab), ("internal/strconv.uint64pow10", laid_internal_strconv_uint64pow10)], narrowed := true }
def FnExactReadTimeUptoSaid : Prop := fnExactReadTimeUptoRow.holds Tryd.pinned (OpenSpec.upto fnExactReadTimeSpec)

/-- 'laws.FnExactReadRated', WHERE WHAT IT READS IS OF BULK AT MOST 1048576: true; the input reads as it did. -/
def fnExactReadRatedUptoRow : OpenClaim := { program := "ytggnajoocfmgpaadoor", sum := "d50602548383ff202b7da5174848dc7426b0ff9000dc822923cb9a1e0b45dd1c", func := "loop.example/g00926/laws.FnExactReadRated", spec := "fnExactReadRated", named := ["internal/strconv.uint64pow10", "math/bits.deBruijn32tab", "math/bits.deBruijn64tab"], apart := false, laid := [("math/bits.deBruijn32tab", laid_math_bits_deBruijn32tab), ("math/bits.deBruijn64tab", laid_math_bits_deBruijn64tab), ("internal/strconv.uint64pow10", laid_internal_strconv_uint64pow10)], narrowed := true }
def FnExactReadRatedUptoSaid : Prop := fnExactReadRatedUptoRow.holds Tryd.pinned (OpenSpec.upto fnExactReadRatedSpec)

/-- 'laws.FnExactReadMatch', WHERE WHAT IT READS IS OF BULK AT MOST 1048576: true; the input reads as it did. -/
def fnExactReadMatchUptoRow : OpenClaim := { program := "ytggnajoocfmgpaadoor", sum := "d50602548383ff202b7da5174848dc7426b0ff9000dc822923cb9a1e0b45dd1c", func := "loop.example/g00926/laws.FnExactReadMatch", spec := "fnExactReadMatch", named := ["internal/strconv.uint64pow10", "math/bits.deBruijn32tab", "math/bits.deBruijn64tab"], apart := false, laid := [("math/bits.deBruijn32tab", laid_math_bits_deBruijn32tab), ("math/bits.deBruijn64tab", laid_math_bits_deBruijn64tab), ("internal/strconv.uint64pow10", laid_internal_strconv_uint64pow10)], narrowed := true }
def FnExactReadMatchUptoSaid : Prop := fnExactReadMatchUptoRow.holds Tryd.pinned (OpenSpec.upto fnExactReadMatchSpec)

/-- 'laws.FnTimes', WHERE WHAT IT READS IS OF BULK AT MOST 1048576: true; the input reads as it did. -/
def fnTimesUptoRow : OpenClaim := { program := "ytggnajoocfmgpaadoor", sum := "d50602548383ff202b7da5174848dc7426b0ff9000dc822923cb9a1e0b45dd1c", func := "loop.example/g00926/laws.FnTimes", spec := "fnTimes", named := ["internal/strconv.uint64pow10", "math/bits.deBruijn32tab", "math/bits.deBruijn64tab"], apart := false, laid := [("math/bits.deBruijn32tab", laid_math_bits_deBruijn32tab), ("math/bits.deBruijn64tab", laid_math_bits_deBruijn64tab), ("internal/strconv.uint64pow10", laid_internal_strconv_uint64pow10)], narrowed := true }
def FnTimesUptoSaid : Prop := fnTimesUptoRow.holds Tryd.pinned (OpenSpec.upto fnTimesSpec)

end Rows
end Go.Proofs.YtggnajoocfmgpaaDoor
