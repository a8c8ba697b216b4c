/-
  No cell of these rows narrows 'for every input' (looked for: loops, veiled, ifaces, maps, wideKeys, modest, calm, conditions, laid).
  DERIVED. THE GIVEN ROWS OF THIS SEAT. 5 by the template 'for every input the law returns true; each argument reads behind the call as it read before'; 0 by the template 'total and deterministic' (their statements: YtdkljnlkfkjdpaaTotals.lean).
  GIVEN WITH THE SEED: the statements are not yours to turn. If you find one false, say at which input.
  Laid BY PROGRAM, IN A SANDBOX (cutbox-rows.mjs): the forced cells as the released guide's own fill.sh prints them over the translation ba84969a3ae406a7… (all of the seat's roots in one cut). By AI agents, Wed Nov 11 2026. No macro, syntax, notation, axiom, sorry.
-/
import Derived.Test.YtdkljnlkfkjdpaaChecked
import GoSem.Claim
import GoSem.ClaimJoined
import GoSem.ClaimMapViews
import Derived.JoinedTies
import Derived.KernelRfl
namespace Go.Proofs.Ytdkljnlkfkjdpaa
/- THE CELL 'sum', in the pinned program and in every row, IS THE sha256 OF THE DUMP (.gsa) THAT YtdkljnlkfkjdpaaProg.lean LOADS. Nothing in Lean hashes anything: it is a label: what it is worth is what the hold of that sum in a sandbox is worth. -/
noncomputable def Try.pinned : Pinned := { name := "ytdkljnlkfkjdpaa", sum := "ba84969a3ae406a77826a7695e9bb3f0f8c13eb64475733ff1fdf0587e3e7bb7", checked := Try.checked }
namespace Rows
def none {H : Type} : Left H := { results := [], args := [] }

/-- 'laws.FnExactIsSlam': WHATEVER THE INPUT: true; the input reads as it did. -/
def fnExactIsSlamSpec : ChangeSpec := { name := "fnExactIsSlam", fn := fun _ => fun
  | [d1, d2, d3] => { results := [.lit (.bool true)], args := [d1, d2, d3] }
  | _ => none }
def fnExactIsSlamRow : OpenClaim := { program := "ytdkljnlkfkjdpaa", sum := "ba84969a3ae406a77826a7695e9bb3f0f8c13eb64475733ff1fdf0587e3e7bb7", func := "loop.example/g00926/laws.FnExactIsSlam", spec := "fnExactIsSlam", apart := false }
def FnExactIsSlamSaid : Prop := fnExactIsSlamRow.holds Try.pinned (OpenSpec.ofChange fnExactIsSlamSpec)

/-- ITS FALSE NEIGHBOUR: 'it returns false'. Refute it at one input. -/
def fnExactIsSlamWrong : ChangeSpec := { name := "fnExactIsSlam", fn := fun _ => fun
  | [d1, d2, d3] => { results := [.lit (.bool false)], args := [d1, d2, d3] }
  | _ => none }
def FnExactIsSlamWrongFalsely : Prop := fnExactIsSlamRow.holds Try.pinned (OpenSpec.ofChange fnExactIsSlamWrong)

/-- 'laws.FnExactCaptureGain': WHATEVER THE INPUT: true; the input reads as it did. -/
def fnExactCaptureGainSpec : ChangeSpec := { name := "fnExactCaptureGain", fn := fun _ => fun
  | [d1, d2, d3] => { results := [.lit (.bool true)], args := [d1, d2, d3] }
  | _ => none }
def fnExactCaptureGainRow : OpenClaim := { program := "ytdkljnlkfkjdpaa", sum := "ba84969a3ae406a77826a7695e9bb3f0f8c13eb64475733ff1fdf0587e3e7bb7", func := "loop.example/g00926/laws.FnExactCaptureGain", spec := "fnExactCaptureGain", apart := false }
def FnExactCaptureGainSaid : Prop := fnExactCaptureGainRow.holds Try.pinned (OpenSpec.ofChange fnExactCaptureGainSpec)

/-- ITS FALSE NEIGHBOUR: 'it returns false'. Refute it at one input. -/
def fnExactCaptureGainWrong : ChangeSpec := { name := "fnExactCaptureGain", fn := fun _ => fun
  | [d1, d2, d3] => { results := [.lit (.bool false)], args := [d1, d2, d3] }
  | _ => none }
def FnExactCaptureGainWrongFalsely : Prop := fnExactCaptureGainRow.holds Try.pinned (OpenSpec.ofChange fnExactCaptureGainWrong)

/-- 'laws.FnExactCapturePits': WHATEVER THE INPUT: true; the input reads as it did. -/
def fnExactCapturePitsSpec : ChangeSpec := { name := "fnExactCapturePits", fn := fun _ => fun
  | [d1, d2, d3] => { results := [.lit (.bool true)], args := [d1, d2, d3] }
  | _ => none }
def fnExactCapturePitsRow : OpenClaim := { program := "ytdkljnlkfkjdpaa", sum := "ba84969a3ae406a77826a7695e9bb3f0f8c13eb64475733ff1fdf0587e3e7bb7", func := "loop.example/g00926/laws.FnExactCapturePits", spec := "fnExactCapturePits", apart := false }
def FnExactCapturePitsSaid : Prop := fnExactCapturePitsRow.holds Try.pinned (OpenSpec.ofChange fnExactCapturePitsSpec)

/-- ITS FALSE NEIGHBOUR: 'it returns false'. Refute it at one input. -/
def fnExactCapturePitsWrong : ChangeSpec := { name := "fnExactCapturePits", fn := fun _ => fun
  | [d1, d2, d3] => { results := [.lit (.bool false)], args := [d1, d2, d3] }
  | _ => none }
def FnExactCapturePitsWrongFalsely : Prop := fnExactCapturePitsRow.holds Try.pinned (OpenSpec.ofChange fnExactCapturePitsWrong)

/-- 'laws.FnCaptures': WHATEVER THE INPUT: true; the input reads as it did. -/
def fnCapturesSpec : ChangeSpec := { name := "fnCaptures", fn := fun _ => fun
  | [d] => { results := [.lit (.bool true)], args := [d] }
  | _ => none }
def fnCapturesRow : OpenClaim := { program := "ytdkljnlkfkjdpaa", sum := "ba84969a3ae406a77826a7695e9bb3f0f8c13eb64475733ff1fdf0587e3e7bb7", func := "loop.example/g00926/laws.FnCaptures", spec := "fnCaptures", apart := false }
def FnCapturesSaid : Prop := fnCapturesRow.holds Try.pinned (OpenSpec.ofChange fnCapturesSpec)

/-- ITS FALSE NEIGHBOUR: 'it returns false'. Refute it at one input. -/
def fnCapturesWrong : ChangeSpec := { name := "fnCaptures", fn := fun _ => fun
  | [d] => { results := [.lit (.bool false)], args := [d] }
  | _ => none }
def FnCapturesWrongFalsely : Prop := fnCapturesRow.holds Try.pinned (OpenSpec.ofChange fnCapturesWrong)

/-- 'laws.FnExactTakeCaptures': WHATEVER THE INPUT: true; the input reads as it did. -/
def fnExactTakeCapturesSpec : ChangeSpec := { name := "fnExactTakeCaptures", fn := fun _ => fun
  | [d1, d2, d3] => { results := [.lit (.bool true)], args := [d1, d2, d3] }
  | _ => none }
def fnExactTakeCapturesRow : OpenClaim := { program := "ytdkljnlkfkjdpaa", sum := "ba84969a3ae406a77826a7695e9bb3f0f8c13eb64475733ff1fdf0587e3e7bb7", func := "loop.example/g00926/laws.FnExactTakeCaptures", spec := "fnExactTakeCaptures", apart := false }
def FnExactTakeCapturesSaid : Prop := fnExactTakeCapturesRow.holds Try.pinned (OpenSpec.ofChange fnExactTakeCapturesSpec)

/-- ITS FALSE NEIGHBOUR: 'it returns false'. Refute it at one input. -/
def fnExactTakeCapturesWrong : ChangeSpec := { name := "fnExactTakeCaptures", fn := fun _ => fun
  | [d1, d2, d3] => { results := [.lit (.bool false)], args := [d1, d2, d3] }
  | _ => none }
def FnExactTakeCapturesWrongFalsely : Prop := fnExactTakeCapturesRow.holds Try.pinned (OpenSpec.ofChange fnExactTakeCapturesWrong)

/- THE SECOND FORM. 'bulk': how many values and letters a reading holds, each counted each time it is reached (what is shared counts as often as it is met; a slice's spare places count too). A statement '..UptoSaid' is the law's where the arguments, and the package variables that the reading takes, are together of bulk at most 1048576: NARROWER than '..Said'. Prove '..Said' where nothing that the law and all that it calls make is longer than what came in: it says more and counts as full. Else prove '..UptoSaid'. A law counts once. -/
mutual
def uptoBulk {H : Type} : DataW H → Nat
  | .lit (.string bytes) => bytes.length + 1
  | .lit _ => 1
  | .nil => 1
  | .ptr d => uptoBulk d + 1
  | .slice elems spare => uptoBulkAll elems + uptoBulkAll spare + 1
  | .agg parts => uptoBulkAll parts + 1
  | .iface _ d => uptoBulk d + 1
  | .map entries => uptoBulkEntries entries + 1
  | .held _ => 1
def uptoBulkAll {H : Type} : List (DataW H) → Nat
  | [] => 0
  | d :: r => uptoBulk d + uptoBulkAll r
def uptoBulkEntries {H : Type} : List (Lit × DataW H) → Nat
  | [] => 0
  | x :: r => uptoBulkEntry x + uptoBulkEntries r
def uptoBulkEntry {H : Type} : Lit × DataW H → Nat
  | (.string bytes, d) => bytes.length + uptoBulk d + 1
  | (_, d) => uptoBulk d + 1
 end
def uptoSmall : (H : Type) → List (DataW H) → Bool := fun _ ds => decide (uptoBulkAll ds ≤ 1048576)
def OpenSpec.upto (s : _root_.Go.ChangeSpec) : _root_.Go.OpenSpec := { _root_.Go.OpenSpec.ofChange s with cond := some uptoSmall }

/-- 'laws.FnExactIsSlam', WHERE WHAT IT READS IS OF BULK AT MOST 1048576: true; the input reads as it did. -/
def fnExactIsSlamUptoRow : OpenClaim := { program := "ytdkljnlkfkjdpaa", sum := "ba84969a3ae406a77826a7695e9bb3f0f8c13eb64475733ff1fdf0587e3e7bb7", func := "loop.example/g00926/laws.FnExactIsSlam", spec := "fnExactIsSlam", apart := false, narrowed := true }
def FnExactIsSlamUptoSaid : Prop := fnExactIsSlamUptoRow.holds Try.pinned (OpenSpec.upto fnExactIsSlamSpec)

/-- 'laws.FnExactCaptureGain', WHERE WHAT IT READS IS OF BULK AT MOST 1048576: true; the input reads as it did. -/
def fnExactCaptureGainUptoRow : OpenClaim := { program := "ytdkljnlkfkjdpaa", sum := "ba84969a3ae406a77826a7695e9bb3f0f8c13eb64475733ff1fdf0587e3e7bb7", func := "loop.example/g00926/laws.FnExactCaptureGain", spec := "fnExactCaptureGain", apart := false, narrowed := true }
def FnExactCaptureGainUptoSaid : Prop := fnExactCaptureGainUptoRow.holds Try.pinned (OpenSpec.upto fnExactCaptureGainSpec)

/-- 'laws.FnExactCapturePits', WHERE WHAT IT READS IS OF BULK AT MOST 1048576: true; the input reads as it did. -/
def fnExactCapturePitsUptoRow : OpenClaim := { program := "ytdkljnlkfkjdpaa", sum := "ba84969a3ae406a77826a7695e9bb3f0f8c13eb64475733ff1fdf0587e3e7bb7", func := "loop.example/g00926/laws.FnExactCapturePits", spec := "fnExactCapturePits", apart := false, narrowed := true }
def FnExactCapturePitsUptoSaid : Prop := fnExactCapturePitsUptoRow.holds Try.pinned (OpenSpec.upto fnExactCapturePitsSpec)

/-- 'laws.FnCaptures', WHERE WHAT IT READS IS OF BULK AT MOST 1048576: true; the input reads as it did. -/
def fnCapturesUptoRow : OpenClaim := { program := "ytdkljnlkfkjdpaa", sum := "ba84969a3ae406a77826a7695e9bb3f0f8c13eb64475733ff1fdf0587e3e7bb7", func := "loop.example/g00926/laws.FnCaptures", spec := "fnCaptures", apart := false, narrowed := true }
def FnCapturesUptoSaid : Prop := fnCapturesUptoRow.holds Try.pinned (OpenSpec.upto fnCapturesSpec)

/-- 'laws.FnExactTakeCaptures', WHERE WHAT IT READS IS OF BULK AT MOST 1048576: true; the input reads as it did. -/
def fnExactTakeCapturesUptoRow : OpenClaim := { program := "ytdkljnlkfkjdpaa", sum := "ba84969a3ae406a77826a7695e9bb3f0f8c13eb64475733ff1fdf0587e3e7bb7", func := "loop.example/g00926/laws.FnExactTakeCaptures", spec := "fnExactTakeCaptures", apart := false, narrowed := true }
def FnExactTakeCapturesUptoSaid : Prop := fnExactTakeCapturesUptoRow.holds Try.pinned (OpenSpec.upto fnExactTakeCapturesSpec)

end Rows
end Go.Proofs.Ytdkljnlkfkjdpaa
