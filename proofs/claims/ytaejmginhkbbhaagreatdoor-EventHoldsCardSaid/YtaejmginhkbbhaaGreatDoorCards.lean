/-
  DERIVED. GIVEN WITH THE SEED: THE CARDS: each row of YtaejmginhkbbhaaGreatDoorRows.lean that lists a variable, with what it lists TIED to the program's text (the seventh form; the later family's looks); each row that meets fmt, with fmt's text TOLD by the authors' own Lean function (tested against real Go, not proved from fmt's source: count such statements apart). THE CARD IS WHAT COUNTS. Prove the row's statement (the work); the ties are given (YtaejmginhkbbhaaGreatDoorTie.lean); close each card by the builder's one call (the guide's Derived/Test/ToyasCard.lean, 'card_holds'). Laid BY PROGRAM, IN A SANDBOX (cutbox-door.mjs). By AI agents, Wed Nov 11 2026. No macro, syntax, notation, axiom, sorry.
-/
import Derived.Test.YtaejmginhkbbhaaGreatDoorRows
import GoSem.ClaimSeven
namespace Go.Proofs.YtaejmginhkbbhaaGreatDoor
namespace Rows

/-- THE TIED CARD OF 'bellmanlaw19.LogHolds'. -/
def logHoldsCard : Claim7 := { stood := { row := logHoldsRow, standIns := [], harness := (true, "ad3379244174df8ea36b8eb533d690d9d6e7f98121d363a87c0c9350fc7a453b"), looks := true }, kinds := [], alts := [], laidByText := true, laidKinds := [.data, .pinned], laidTests := true, laidLooks := .later }
def LogHoldsCardSaid : Prop := Claim7.holds Tryz.pinned (.plain (OpenSpec.ofChange logHoldsSpec)) logHoldsCard

/-- THE TIED CARD OF 'bellmanlaw07.EventResets'. -/
def eventResetsCard : Claim7 := { stood := { row := eventResetsRow, standIns := [], harness := (true, "ad3379244174df8ea36b8eb533d690d9d6e7f98121d363a87c0c9350fc7a453b"), looks := true }, kinds := [], alts := [], laidByText := true, laidKinds := [.data, .data, .data, .data, .pinned], laidTests := true, laidLooks := .later }
def EventResetsCardSaid : Prop := Claim7.holds Tryz.pinned (.plain (OpenSpec.ofChange eventResetsSpec)) eventResetsCard

/-- THE TIED CARD OF 'bellmanlaw07.EventBounds'. -/
def eventBoundsCard : Claim7 := { stood := { row := eventBoundsRow, standIns := [], harness := (true, "ad3379244174df8ea36b8eb533d690d9d6e7f98121d363a87c0c9350fc7a453b"), looks := true }, kinds := [], alts := [], laidByText := true, laidKinds := [.data, .data, .data, .data, .pinned], laidTests := true, laidLooks := .later }
def EventBoundsCardSaid : Prop := Claim7.holds Tryz.pinned (.plain (OpenSpec.ofChange eventBoundsSpec)) eventBoundsCard

/-- THE TIED CARD OF 'bellmanlaw07.EventEncodes'. -/
def eventEncodesCard : Claim7 := { stood := { row := eventEncodesRow, standIns := [], harness := (true, "ad3379244174df8ea36b8eb533d690d9d6e7f98121d363a87c0c9350fc7a453b"), looks := true }, kinds := [], alts := [], laidByText := true, laidKinds := [.data, .data, .data, .data, .pinned], laidTests := true, laidLooks := .later }
def EventEncodesCardSaid : Prop := Claim7.holds Tryz.pinned (.plain (OpenSpec.ofChange eventEncodesSpec)) eventEncodesCard

/-- THE TIED CARD OF 'bellmanlaw25.TopicCopies'. -/
def topicCopiesCard : Claim7 := { stood := { row := topicCopiesRow, standIns := [], harness := (true, "ad3379244174df8ea36b8eb533d690d9d6e7f98121d363a87c0c9350fc7a453b"), looks := true }, kinds := [], alts := [], laidByText := true, laidKinds := [.data, .data, .data, .data, .pinned], laidTests := true, laidLooks := .later }
def TopicCopiesCardSaid : Prop := Claim7.holds Tryz.pinned (.plain (OpenSpec.ofChange topicCopiesSpec)) topicCopiesCard

/-- THE TIED CARD OF 'bellmanlaw08.ParsePieces'. -/
def parsePiecesCard : Claim7 := { stood := { row := parsePiecesRow, standIns := [], harness := (true, "ad3379244174df8ea36b8eb533d690d9d6e7f98121d363a87c0c9350fc7a453b"), looks := true }, kinds := [], alts := [], laidByText := true, laidKinds := [.data, .pinned], laidTests := true, laidLooks := .later }
def ParsePiecesCardSaid : Prop := Claim7.holds Tryz.pinned (.plain (OpenSpec.ofChange parsePiecesSpec)) parsePiecesCard

/-- THE TIED CARD OF 'bellmanlaw25.TopicHolds'. -/
def topicHoldsCard : Claim7 := { stood := { row := topicHoldsRow, standIns := [], harness := (true, "ad3379244174df8ea36b8eb533d690d9d6e7f98121d363a87c0c9350fc7a453b"), looks := true }, kinds := [], alts := [], laidByText := true, laidKinds := [.data, .data, .data, .data, .pinned], laidTests := true, laidLooks := .later }
def TopicHoldsCardSaid : Prop := Claim7.holds Tryz.pinned (.plain (OpenSpec.ofChange topicHoldsSpec)) topicHoldsCard

/-- THE TIED CARD OF 'bellmanlaw19.LogResumes'. -/
def logResumesCard : Claim7 := { stood := { row := logResumesRow, standIns := [], harness := (true, "ad3379244174df8ea36b8eb533d690d9d6e7f98121d363a87c0c9350fc7a453b"), looks := true }, kinds := [], alts := [], laidByText := true, laidKinds := [.data, .pinned], laidTests := true, laidLooks := .later }
def LogResumesCardSaid : Prop := Claim7.holds Tryz.pinned (.plain (OpenSpec.ofChange logResumesSpec)) logResumesCard

/-- THE TIED CARD OF 'bellmanlaw19.LogPlays'. -/
def logPlaysCard : Claim7 := { stood := { row := logPlaysRow, standIns := [], harness := (true, "ad3379244174df8ea36b8eb533d690d9d6e7f98121d363a87c0c9350fc7a453b"), looks := true }, kinds := [], alts := [], laidByText := true, laidKinds := [.data, .pinned], laidTests := true, laidLooks := .later }
def LogPlaysCardSaid : Prop := Claim7.holds Tryz.pinned (.plain (OpenSpec.ofChange logPlaysSpec)) logPlaysCard

/-- THE TIED CARD OF 'bellmanlaw08.ParseOf'. -/
def parseOfCard : Claim7 := { stood := { row := parseOfRow, standIns := [], harness := (true, "ad3379244174df8ea36b8eb533d690d9d6e7f98121d363a87c0c9350fc7a453b"), looks := true }, kinds := [], alts := [], laidByText := true, laidKinds := [.data, .pinned], laidTests := true, laidLooks := .later }
def ParseOfCardSaid : Prop := Claim7.holds Tryz.pinned (.plain (OpenSpec.ofChange parseOfSpec)) parseOfCard

/-- THE TIED CARD OF 'bellmanlaw07.EventLines'. -/
def eventLinesCard : Claim7 := { stood := { row := eventLinesRow, standIns := [], harness := (true, "ad3379244174df8ea36b8eb533d690d9d6e7f98121d363a87c0c9350fc7a453b"), looks := true }, kinds := [], alts := [], laidByText := true, laidKinds := [.data, .data, .data, .data, .pinned], laidTests := true, laidLooks := .later }
def EventLinesCardSaid : Prop := Claim7.holds Tryz.pinned (.plain (OpenSpec.ofChange eventLinesSpec)) eventLinesCard

/-- THE TIED CARD OF 'bellmanlaw07.EventHolds'. -/
def eventHoldsCard : Claim7 := { stood := { row := eventHoldsRow, standIns := [], harness := (true, "ad3379244174df8ea36b8eb533d690d9d6e7f98121d363a87c0c9350fc7a453b"), looks := true }, kinds := [], alts := [], laidByText := true, laidKinds := [.data, .data, .data, .data, .pinned], laidTests := true, laidLooks := .later }
def EventHoldsCardSaid : Prop := Claim7.holds Tryz.pinned (.plain (OpenSpec.ofChange eventHoldsSpec)) eventHoldsCard

/-- THE TIED CARD OF 'bellmanlaw19.LogCopies'. -/
def logCopiesCard : Claim7 := { stood := { row := logCopiesRow, standIns := [], harness := (true, "ad3379244174df8ea36b8eb533d690d9d6e7f98121d363a87c0c9350fc7a453b"), looks := true }, kinds := [], alts := [], laidByText := true, laidKinds := [.data, .pinned], laidTests := true, laidLooks := .later }
def LogCopiesCardSaid : Prop := Claim7.holds Tryz.pinned (.plain (OpenSpec.ofChange logCopiesSpec)) logCopiesCard

/-- THE TIED CARD OF 'bellmanlaw19.LogNone'. -/
def logNoneCard : Claim7 := { stood := { row := logNoneRow, standIns := [], harness := (true, "ad3379244174df8ea36b8eb533d690d9d6e7f98121d363a87c0c9350fc7a453b"), looks := true }, kinds := [], alts := [], laidByText := true, laidKinds := [.data, .pinned], laidTests := true, laidLooks := .later }
def LogNoneCardSaid : Prop := Claim7.holds Tryz.pinned (.plain (OpenSpec.ofChange logNoneSpec)) logNoneCard

/-- THE TIED CARD OF 'bellmanlaw08.ParseWrites'. -/
def parseWritesCard : Claim7 := { stood := { row := parseWritesRow, standIns := [], harness := (true, "ad3379244174df8ea36b8eb533d690d9d6e7f98121d363a87c0c9350fc7a453b"), looks := true }, kinds := [], alts := [], laidByText := true, laidKinds := [.data, .pinned], laidTests := true, laidLooks := .later }
def ParseWritesCardSaid : Prop := Claim7.holds Tryz.pinned (.plain (OpenSpec.ofChange parseWritesSpec)) parseWritesCard

/-- THE TIED CARD OF 'bellmanlaw25.TopicNames'. -/
def topicNamesCard : Claim7 := { stood := { row := topicNamesRow, standIns := [], harness := (true, "ad3379244174df8ea36b8eb533d690d9d6e7f98121d363a87c0c9350fc7a453b"), looks := true }, kinds := [], alts := [], laidByText := true, laidKinds := [.data, .data, .data, .data, .pinned], laidTests := true, laidLooks := .later }
def TopicNamesCardSaid : Prop := Claim7.holds Tryz.pinned (.plain (OpenSpec.ofChange topicNamesSpec)) topicNamesCard

/-- THE TIED CARD OF 'bellmanlaw25.TopicPlays'. -/
def topicPlaysCard : Claim7 := { stood := { row := topicPlaysRow, standIns := [], harness := (true, "ad3379244174df8ea36b8eb533d690d9d6e7f98121d363a87c0c9350fc7a453b"), looks := true }, kinds := [], alts := [], laidByText := true, laidKinds := [.data, .data, .data, .data, .pinned], laidTests := true, laidLooks := .later }
def TopicPlaysCardSaid : Prop := Claim7.holds Tryz.pinned (.plain (OpenSpec.ofChange topicPlaysSpec)) topicPlaysCard

/-- THE TIED CARD OF 'bellmanlaw25.TopicJoins'. -/
def topicJoinsCard : Claim7 := { stood := { row := topicJoinsRow, standIns := [], harness := (true, "ad3379244174df8ea36b8eb533d690d9d6e7f98121d363a87c0c9350fc7a453b"), looks := true }, kinds := [], alts := [], laidByText := true, laidKinds := [.data, .data, .data, .data, .pinned], laidTests := true, laidLooks := .later }
def TopicJoinsCardSaid : Prop := Claim7.holds Tryz.pinned (.plain (OpenSpec.ofChange topicJoinsSpec)) topicJoinsCard

/-- THE SECOND FORM's CARD OF 'bellmanlaw19.LogHolds'. -/
def logHoldsUptoCard : Claim7 := { stood := { row := logHoldsUptoRow, standIns := [], harness := (true, "ad3379244174df8ea36b8eb533d690d9d6e7f98121d363a87c0c9350fc7a453b"), looks := true }, kinds := [], alts := [], laidByText := true, laidKinds := [.data, .pinned], laidTests := true, laidLooks := .later }
def LogHoldsUptoCardSaid : Prop := Claim7.holds Tryz.pinned (.plain (OpenSpec.upto logHoldsSpec)) logHoldsUptoCard

/-- THE SECOND FORM's CARD OF 'bellmanlaw07.EventResets'. -/
def eventResetsUptoCard : Claim7 := { stood := { row := eventResetsUptoRow, standIns := [], harness := (true, "ad3379244174df8ea36b8eb533d690d9d6e7f98121d363a87c0c9350fc7a453b"), looks := true }, kinds := [], alts := [], laidByText := true, laidKinds := [.data, .data, .data, .data, .pinned], laidTests := true, laidLooks := .later }
def EventResetsUptoCardSaid : Prop := Claim7.holds Tryz.pinned (.plain (OpenSpec.upto eventResetsSpec)) eventResetsUptoCard

/-- THE SECOND FORM's CARD OF 'bellmanlaw07.EventBounds'. -/
def eventBoundsUptoCard : Claim7 := { stood := { row := eventBoundsUptoRow, standIns := [], harness := (true, "ad3379244174df8ea36b8eb533d690d9d6e7f98121d363a87c0c9350fc7a453b"), looks := true }, kinds := [], alts := [], laidByText := true, laidKinds := [.data, .data, .data, .data, .pinned], laidTests := true, laidLooks := .later }
def EventBoundsUptoCardSaid : Prop := Claim7.holds Tryz.pinned (.plain (OpenSpec.upto eventBoundsSpec)) eventBoundsUptoCard

/-- THE SECOND FORM's CARD OF 'bellmanlaw07.EventEncodes'. -/
def eventEncodesUptoCard : Claim7 := { stood := { row := eventEncodesUptoRow, standIns := [], harness := (true, "ad3379244174df8ea36b8eb533d690d9d6e7f98121d363a87c0c9350fc7a453b"), looks := true }, kinds := [], alts := [], laidByText := true, laidKinds := [.data, .data, .data, .data, .pinned], laidTests := true, laidLooks := .later }
def EventEncodesUptoCardSaid : Prop := Claim7.holds Tryz.pinned (.plain (OpenSpec.upto eventEncodesSpec)) eventEncodesUptoCard

/-- THE SECOND FORM's CARD OF 'bellmanlaw25.TopicCopies'. -/
def topicCopiesUptoCard : Claim7 := { stood := { row := topicCopiesUptoRow, standIns := [], harness := (true, "ad3379244174df8ea36b8eb533d690d9d6e7f98121d363a87c0c9350fc7a453b"), looks := true }, kinds := [], alts := [], laidByText := true, laidKinds := [.data, .data, .data, .data, .pinned], laidTests := true, laidLooks := .later }
def TopicCopiesUptoCardSaid : Prop := Claim7.holds Tryz.pinned (.plain (OpenSpec.upto topicCopiesSpec)) topicCopiesUptoCard

/-- THE SECOND FORM's CARD OF 'bellmanlaw08.ParsePieces'. -/
def parsePiecesUptoCard : Claim7 := { stood := { row := parsePiecesUptoRow, standIns := [], harness := (true, "ad3379244174df8ea36b8eb533d690d9d6e7f98121d363a87c0c9350fc7a453b"), looks := true }, kinds := [], alts := [], laidByText := true, laidKinds := [.data, .pinned], laidTests := true, laidLooks := .later }
def ParsePiecesUptoCardSaid : Prop := Claim7.holds Tryz.pinned (.plain (OpenSpec.upto parsePiecesSpec)) parsePiecesUptoCard

/-- THE SECOND FORM's CARD OF 'bellmanlaw25.TopicHolds'. -/
def topicHoldsUptoCard : Claim7 := { stood := { row := topicHoldsUptoRow, standIns := [], harness := (true, "ad3379244174df8ea36b8eb533d690d9d6e7f98121d363a87c0c9350fc7a453b"), looks := true }, kinds := [], alts := [], laidByText := true, laidKinds := [.data, .data, .data, .data, .pinned], laidTests := true, laidLooks := .later }
def TopicHoldsUptoCardSaid : Prop := Claim7.holds Tryz.pinned (.plain (OpenSpec.upto topicHoldsSpec)) topicHoldsUptoCard

/-- THE SECOND FORM's CARD OF 'bellmanlaw19.LogResumes'. -/
def logResumesUptoCard : Claim7 := { stood := { row := logResumesUptoRow, standIns := [], harness := (true, "ad3379244174df8ea36b8eb533d690d9d6e7f98121d363a87c0c9350fc7a453b"), looks := true }, kinds := [], alts := [], laidByText := true, laidKinds := [.data, .pinned], laidTests := true, laidLooks := .later }
def LogResumesUptoCardSaid : Prop := Claim7.holds Tryz.pinned (.plain (OpenSpec.upto logResumesSpec)) logResumesUptoCard

/-- THE SECOND FORM's CARD OF 'bellmanlaw19.LogPlays'. -/
def logPlaysUptoCard : Claim7 := { stood := { row := logPlaysUptoRow, standIns := [], harness := (true, "ad3379244174df8ea36b8eb533d690d9d6e7f98121d363a87c0c9350fc7a453b"), looks := true }, kinds := [], alts := [], laidByText := true, laidKinds := [.data, .pinned], laidTests := true, laidLooks := .later }
def LogPlaysUptoCardSaid : Prop := Claim7.holds Tryz.pinned (.plain (OpenSpec.upto logPlaysSpec)) logPlaysUptoCard

/-- THE SECOND FORM's CARD OF 'bellmanlaw08.ParseOf'. -/
def parseOfUptoCard : Claim7 := { stood := { row := parseOfUptoRow, standIns := [], harness := (true, "ad3379244174df8ea36b8eb533d690d9d6e7f98121d363a87c0c9350fc7a453b"), looks := true }, kinds := [], alts := [], laidByText := true, laidKinds := [.data, .pinned], laidTests := true, laidLooks := .later }
def ParseOfUptoCardSaid : Prop := Claim7.holds Tryz.pinned (.plain (OpenSpec.upto parseOfSpec)) parseOfUptoCard

/-- THE SECOND FORM's CARD OF 'bellmanlaw07.EventLines'. -/
def eventLinesUptoCard : Claim7 := { stood := { row := eventLinesUptoRow, standIns := [], harness := (true, "ad3379244174df8ea36b8eb533d690d9d6e7f98121d363a87c0c9350fc7a453b"), looks := true }, kinds := [], alts := [], laidByText := true, laidKinds := [.data, .data, .data, .data, .pinned], laidTests := true, laidLooks := .later }
def EventLinesUptoCardSaid : Prop := Claim7.holds Tryz.pinned (.plain (OpenSpec.upto eventLinesSpec)) eventLinesUptoCard

/-- THE SECOND FORM's CARD OF 'bellmanlaw07.EventHolds'. -/
def eventHoldsUptoCard : Claim7 := { stood := { row := eventHoldsUptoRow, standIns := [], harness := (true, "ad3379244174df8ea36b8eb533d690d9d6e7f98121d363a87c0c9350fc7a453b"), looks := true }, kinds := [], alts := [], laidByText := true, laidKinds := [.data, .data, .data, .data, .pinned], laidTests := true, laidLooks := .later }
def EventHoldsUptoCardSaid : Prop := Claim7.holds Tryz.pinned (.plain (OpenSpec.upto eventHoldsSpec)) eventHoldsUptoCard

/-- THE SECOND FORM's CARD OF 'bellmanlaw19.LogCopies'. -/
def logCopiesUptoCard : Claim7 := { stood := { row := logCopiesUptoRow, standIns := [], harness := (true, "ad3379244174df8ea36b8eb533d690d9d6e7f98121d363a87c0c9350fc7a453b"), looks := true }, kinds := [], alts := [], laidByText := true, laidKinds := [.data, .pinned], laidTests := true, laidLooks := .later }
def LogCopiesUptoCardSaid : Prop := Claim7.holds Tryz.pinned (.plain (OpenSpec.upto logCopiesSpec)) logCopiesUptoCard

/-- THE SECOND FORM's CARD OF 'bellmanlaw19.LogNone'. -/
def logNoneUptoCard : Claim7 := { stood := { row := logNoneUptoRow, standIns := [], harness := (true, "ad3379244174df8ea36b8eb533d690d9d6e7f98121d363a87c0c9350fc7a453b"), looks := true }, kinds := [], alts := [], laidByText := true, laidKinds := [.data, .pinned], laidTests := true, laidLooks := .later }
def LogNoneUptoCardSaid : Prop := Claim7.holds Tryz.pinned (.plain (OpenSpec.upto logNoneSpec)) logNoneUptoCard

/-- THE SECOND FORM's CARD OF 'bellmanlaw08.ParseWrites'. -/
def parseWritesUptoCard : Claim7 := { stood := { row := parseWritesUptoRow, standIns := [], harness := (true, "ad3379244174df8ea36b8eb533d690d9d6e7f98121d363a87c0c9350fc7a453b"), looks := true }, kinds := [], alts := [], laidByText := true, laidKinds := [.data, .pinned], laidTests := true, laidLooks := .later }
def ParseWritesUptoCardSaid : Prop := Claim7.holds Tryz.pinned (.plain (OpenSpec.upto parseWritesSpec)) parseWritesUptoCard

/-- THE SECOND FORM's CARD OF 'bellmanlaw25.TopicNames'. -/
def topicNamesUptoCard : Claim7 := { stood := { row := topicNamesUptoRow, standIns := [], harness := (true, "ad3379244174df8ea36b8eb533d690d9d6e7f98121d363a87c0c9350fc7a453b"), looks := true }, kinds := [], alts := [], laidByText := true, laidKinds := [.data, .data, .data, .data, .pinned], laidTests := true, laidLooks := .later }
def TopicNamesUptoCardSaid : Prop := Claim7.holds Tryz.pinned (.plain (OpenSpec.upto topicNamesSpec)) topicNamesUptoCard

/-- THE SECOND FORM's CARD OF 'bellmanlaw25.TopicPlays'. -/
def topicPlaysUptoCard : Claim7 := { stood := { row := topicPlaysUptoRow, standIns := [], harness := (true, "ad3379244174df8ea36b8eb533d690d9d6e7f98121d363a87c0c9350fc7a453b"), looks := true }, kinds := [], alts := [], laidByText := true, laidKinds := [.data, .data, .data, .data, .pinned], laidTests := true, laidLooks := .later }
def TopicPlaysUptoCardSaid : Prop := Claim7.holds Tryz.pinned (.plain (OpenSpec.upto topicPlaysSpec)) topicPlaysUptoCard

/-- THE SECOND FORM's CARD OF 'bellmanlaw25.TopicJoins'. -/
def topicJoinsUptoCard : Claim7 := { stood := { row := topicJoinsUptoRow, standIns := [], harness := (true, "ad3379244174df8ea36b8eb533d690d9d6e7f98121d363a87c0c9350fc7a453b"), looks := true }, kinds := [], alts := [], laidByText := true, laidKinds := [.data, .data, .data, .data, .pinned], laidTests := true, laidLooks := .later }
def TopicJoinsUptoCardSaid : Prop := Claim7.holds Tryz.pinned (.plain (OpenSpec.upto topicJoinsSpec)) topicJoinsUptoCard
end Rows
end Go.Proofs.YtaejmginhkbbhaaGreatDoor
