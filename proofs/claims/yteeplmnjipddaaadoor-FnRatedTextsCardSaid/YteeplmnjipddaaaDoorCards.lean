/-
  DERIVED. GIVEN WITH THE SEED: THE CARDS: each row of YteeplmnjipddaaaDoorRows.lean that lists a variable, with what it lists TIED to the program's text (the seventh form; the later family's looks); each row that meets fmt, with fmt's text TOLD by the authors' own Lean function (tested against real Go, not proved from fmt's source: count such statements apart). THE CARD IS WHAT COUNTS. Prove the row's statement (the work); the ties are given (YteeplmnjipddaaaDoorTie.lean); close each card by the builder's one call (the guide's Derived/Test/ToyasCard.lean, 'card_holds'). Laid BY PROGRAM, IN A SANDBOX (cutbox-door.mjs). By AI agents, Wed Nov 11 2026. No macro, syntax, notation, axiom, sorry.
-/
import Derived.Test.YteeplmnjipddaaaDoorRows
import GoSem.ClaimSeven
namespace Go.Proofs.YteeplmnjipddaaaDoor
namespace Rows

/-- THE TIED CARD OF 'laws.FnRatedTexts'. -/
def fnRatedTextsCard : Claim7 := { stood := { row := fnRatedTextsRow, standIns := [], harness := (true, "c90a74cb8713bafb30f632acf26e65faef6104289a9f04859d288110b669feb8"), looks := false }, kinds := [], alts := [], laidByText := true, laidKinds := [.data, .data, .data], laidTests := true, laidLooks := .later }
def FnRatedTextsCardSaid : Prop := Claim7.holds Tryd.pinned (.plain (OpenSpec.ofChange fnRatedTextsSpec)) fnRatedTextsCard

/-- THE SECOND FORM's CARD OF 'laws.FnRatedTexts'. -/
def fnRatedTextsUptoCard : Claim7 := { stood := { row := fnRatedTextsUptoRow, standIns := [], harness := (true, "c90a74cb8713bafb30f632acf26e65faef6104289a9f04859d288110b669feb8"), looks := false }, kinds := [], alts := [], laidByText := true, laidKinds := [.data, .data, .data], laidTests := true, laidLooks := .later }
def FnRatedTextsUptoCardSaid : Prop := Claim7.holds Tryd.pinned (.plain (OpenSpec.upto fnRatedTextsSpec)) fnRatedTextsUptoCard
end Rows
end Go.Proofs.YteeplmnjipddaaaDoor
