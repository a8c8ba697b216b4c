/-
  DERIVED. GIVEN WITH THE SEED: THE CARDS: each row of YtggnajoocfmgpaaDoorRows.lean that lists a variable, with what it lists TIED to the program's text (the seventh form; the later family's looks); each row that meets fmt, with fmt's text TOLD by the authors' own Lean function (tested against real Go, not proved from fmt's source: count such statements apart). THE CARD IS WHAT COUNTS. Prove the row's statement (the work); the ties are given (YtggnajoocfmgpaaDoorTie.lean); close each card by the builder's one call (the guide's Derived/Test/ToyasCard.lean, 'card_holds'). Laid BY PROGRAM, IN A SANDBOX (cutbox-door.mjs). By AI agents, Wed Nov 11 2026. No macro, syntax, notation, axiom, sorry.
-/
import Derived.Test.YtggnajoocfmgpaaDoorRows
import GoSem.ClaimSeven
namespace Go.Proofs.YtggnajoocfmgpaaDoor
namespace Rows

/-- THE TIED CARD OF 'laws.FnExactFlawText'. -/
def fnExactFlawTextCard : Claim7 := { stood := { row := fnExactFlawTextRow, standIns := [], harness := (true, "2348e491bb5e8153f3c2b046bb0cb2904877f52c37fa902c388ad3a9e1f069ee"), looks := false }, kinds := [], alts := [], laidByText := true, laidKinds := [.data, .data, .data], laidTests := true, laidLooks := .later }
def FnExactFlawTextCardSaid : Prop := Claim7.holds Tryd.pinned (.plain (OpenSpec.ofChange fnExactFlawTextSpec)) fnExactFlawTextCard

/-- THE TIED CARD OF 'laws.FnExactRatedText'. -/
def fnExactRatedTextCard : Claim7 := { stood := { row := fnExactRatedTextRow, standIns := [], harness := (true, "2348e491bb5e8153f3c2b046bb0cb2904877f52c37fa902c388ad3a9e1f069ee"), looks := false }, kinds := [], alts := [], laidByText := true, laidKinds := [.data, .data, .data], laidTests := true, laidLooks := .later }
def FnExactRatedTextCardSaid : Prop := Claim7.holds Tryd.pinned (.plain (OpenSpec.ofChange fnExactRatedTextSpec)) fnExactRatedTextCard

/-- THE TIED CARD OF 'laws.FnExactTimeText'. -/
def fnExactTimeTextCard : Claim7 := { stood := { row := fnExactTimeTextRow, standIns := [], harness := (true, "2348e491bb5e8153f3c2b046bb0cb2904877f52c37fa902c388ad3a9e1f069ee"), looks := false }, kinds := [], alts := [], laidByText := true, laidKinds := [.data, .data, .data], laidTests := true, laidLooks := .later }
def FnExactTimeTextCardSaid : Prop := Claim7.holds Tryd.pinned (.plain (OpenSpec.ofChange fnExactTimeTextSpec)) fnExactTimeTextCard

/-- THE TIED CARD OF 'laws.FnExactMatchText'. -/
def fnExactMatchTextCard : Claim7 := { stood := { row := fnExactMatchTextRow, standIns := [], harness := (true, "2348e491bb5e8153f3c2b046bb0cb2904877f52c37fa902c388ad3a9e1f069ee"), looks := false }, kinds := [], alts := [], laidByText := true, laidKinds := [.data, .data, .data], laidTests := true, laidLooks := .later }
def FnExactMatchTextCardSaid : Prop := Claim7.holds Tryd.pinned (.plain (OpenSpec.ofChange fnExactMatchTextSpec)) fnExactMatchTextCard

/-- THE TIED CARD OF 'laws.FnExactReadTime'. -/
def fnExactReadTimeCard : Claim7 := { stood := { row := fnExactReadTimeRow, standIns := [], harness := (true, "2348e491bb5e8153f3c2b046bb0cb2904877f52c37fa902c388ad3a9e1f069ee"), looks := false }, kinds := [], alts := [], laidByText := true, laidKinds := [.data, .data, .data], laidTests := true, laidLooks := .later }
def FnExactReadTimeCardSaid : Prop := Claim7.holds Tryd.pinned (.plain (OpenSpec.ofChange fnExactReadTimeSpec)) fnExactReadTimeCard

/-- THE TIED CARD OF 'laws.FnExactReadRated'. -/
def fnExactReadRatedCard : Claim7 := { stood := { row := fnExactReadRatedRow, standIns := [], harness := (true, "2348e491bb5e8153f3c2b046bb0cb2904877f52c37fa902c388ad3a9e1f069ee"), looks := false }, kinds := [], alts := [], laidByText := true, laidKinds := [.data, .data, .data], laidTests := true, laidLooks := .later }
def FnExactReadRatedCardSaid : Prop := Claim7.holds Tryd.pinned (.plain (OpenSpec.ofChange fnExactReadRatedSpec)) fnExactReadRatedCard

/-- THE TIED CARD OF 'laws.FnExactReadMatch'. -/
def fnExactReadMatchCard : Claim7 := { stood := { row := fnExactReadMatchRow, standIns := [], harness := (true, "2348e491bb5e8153f3c2b046bb0cb2904877f52c37fa902c388ad3a9e1f069ee"), looks := false }, kinds := [], alts := [], laidByText := true, laidKinds := [.data, .data, .data], laidTests := true, laidLooks := .later }
def FnExactReadMatchCardSaid : Prop := Claim7.holds Tryd.pinned (.plain (OpenSpec.ofChange fnExactReadMatchSpec)) fnExactReadMatchCard

/-- THE TIED CARD OF 'laws.FnTimes'. -/
def fnTimesCard : Claim7 := { stood := { row := fnTimesRow, standIns := [], harness := (true, "2348e491bb5e8153f3c2b046bb0cb2904877f52c37fa902c388ad3a9e1f069ee"), looks := false }, kinds := [], alts := [], laidByText := true, laidKinds := [.data, .data, .data], laidTests := true, laidLooks := .later }
def FnTimesCardSaid : Prop := Claim7.holds Tryd.pinned (.plain (OpenSpec.ofChange fnTimesSpec)) fnTimesCard

/-- THE SECOND FORM's CARD OF 'laws.FnExactFlawText'. -/
def fnExactFlawTextUptoCard : Claim7 := { stood := { row := fnExactFlawTextUptoRow, standIns := [], harness := (true, "2348e491bb5e8153f3c2b046bb0cb2904877f52c37fa902c388ad3a9e1f069ee"), looks := false }, kinds := [], alts := [], laidByText := true, laidKinds := [.data, .data, .data], laidTests := true, laidLooks := .later }
def FnExactFlawTextUptoCardSaid : Prop := Claim7.holds Tryd.pinned (.plain (OpenSpec.upto fnExactFlawTextSpec)) fnExactFlawTextUptoCard

/-- THE SECOND FORM's CARD OF 'laws.FnExactRatedText'. -/
def fnExactRatedTextUptoCard : Claim7 := { stood := { row := fnExactRatedTextUptoRow, standIns := [], harness := (true, "2348e491bb5e8153f3c2b046bb0cb2904877f52c37fa902c388ad3a9e1f069ee"), looks := false }, kinds := [], alts := [], laidByText := true, laidKinds := [.data, .data, .data], laidTests := true, laidLooks := .later }
def FnExactRatedTextUptoCardSaid : Prop := Claim7.holds Tryd.pinned (.plain (OpenSpec.upto fnExactRatedTextSpec)) fnExactRatedTextUptoCard

/-- THE SECOND FORM's CARD OF 'laws.FnExactTimeText'. -/
def fnExactTimeTextUptoCard : Claim7 := { stood := { row := fnExactTimeTextUptoRow, standIns := [], harness := (true, "2348e491bb5e8153f3c2b046bb0cb2904877f52c37fa902c388ad3a9e1f069ee"), looks := false }, kinds := [], alts := [], laidByText := true, laidKinds := [.data, .data, .data], laidTests := true, laidLooks := .later }
def FnExactTimeTextUptoCardSaid : Prop := Claim7.holds Tryd.pinned (.plain (OpenSpec.upto fnExactTimeTextSpec)) fnExactTimeTextUptoCard

/-- THE SECOND FORM's CARD OF 'laws.FnExactMatchText'. -/
def fnExactMatchTextUptoCard : Claim7 := { stood := { row := fnExactMatchTextUptoRow, standIns := [], harness := (true, "2348e491bb5e8153f3c2b046bb0cb2904877f52c37fa902c388ad3a9e1f069ee"), looks := false }, kinds := [], alts := [], laidByText := true, laidKinds := [.data, .data, .data], laidTests := true, laidLooks := .later }
def FnExactMatchTextUptoCardSaid : Prop := Claim7.holds Tryd.pinned (.plain (OpenSpec.upto fnExactMatchTextSpec)) fnExactMatchTextUptoCard

/-- THE SECOND FORM's CARD OF 'laws.FnExactReadTime'. -/
def fnExactReadTimeUptoCard : Claim7 := { stood := { row := fnExactReadTimeUptoRow, standIns := [], harness := (true, "2348e491bb5e8153f3c2b046bb0cb2904877f52c37fa902c388ad3a9e1f069ee"), looks := false }, kinds := [], alts := [], laidByText := true, laidKinds := [.data, .data, .data], laidTests := true, laidLooks := .later }
def FnExactReadTimeUptoCardSaid : Prop := Claim7.holds Tryd.pinned (.plain (OpenSpec.upto fnExactReadTimeSpec)) fnExactReadTimeUptoCard

/-- THE SECOND FORM's CARD OF 'laws.FnExactReadRated'. -/
def fnExactReadRatedUptoCard : Claim7 := { stood := { row := fnExactReadRatedUptoRow, standIns := [], harness := (true, "2348e491bb5e8153f3c2b046bb0cb2904877f52c37fa902c388ad3a9e1f069ee"), looks := false }, kinds := [], alts := [], laidByText := true, laidKinds := [.data, .data, .data], laidTests := true, laidLooks := .later }
def FnExactReadRatedUptoCardSaid : Prop := Claim7.holds Tryd.pinned (.plain (OpenSpec.upto fnExactReadRatedSpec)) fnExactReadRatedUptoCard

/-- THE SECOND FORM's CARD OF 'laws.FnExactReadMatch'. -/
def fnExactReadMatchUptoCard : Claim7 := { stood := { row := fnExactReadMatchUptoRow, standIns := [], harness := (true, "2348e491bb5e8153f3c2b046bb0cb2904877f52c37fa902c388ad3a9e1f069ee"), looks := false }, kinds := [], alts := [], laidByText := true, laidKinds := [.data, .data, .data], laidTests := true, laidLooks := .later }
def FnExactReadMatchUptoCardSaid : Prop := Claim7.holds Tryd.pinned (.plain (OpenSpec.upto fnExactReadMatchSpec)) fnExactReadMatchUptoCard

/-- THE SECOND FORM's CARD OF 'laws.FnTimes'. -/
def fnTimesUptoCard : Claim7 := { stood := { row := fnTimesUptoRow, standIns := [], harness := (true, "2348e491bb5e8153f3c2b046bb0cb2904877f52c37fa902c388ad3a9e1f069ee"), looks := false }, kinds := [], alts := [], laidByText := true, laidKinds := [.data, .data, .data], laidTests := true, laidLooks := .later }
def FnTimesUptoCardSaid : Prop := Claim7.holds Tryd.pinned (.plain (OpenSpec.upto fnTimesSpec)) fnTimesUptoCard
end Rows
end Go.Proofs.YtggnajoocfmgpaaDoor
