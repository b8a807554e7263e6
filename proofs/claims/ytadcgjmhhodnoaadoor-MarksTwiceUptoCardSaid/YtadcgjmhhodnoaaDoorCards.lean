/-
  DERIVED. GIVEN WITH THE SEED: THE CARDS: each row of YtadcgjmhhodnoaaDoorRows.lean that lists a variable, with what it lists TIED to the program's text (the seventh form; the later family's looks); each row that meets fmt, with fmt's text TOLD by the authors' own Lean function (tested against real Go, not proved from fmt's source: count such statements apart). THE CARD IS WHAT COUNTS. Prove the row's statement (the work); the ties are given (YtadcgjmhhodnoaaDoorTie.lean); close each card by the builder's one call (the guide's Derived/Test/ToyasCard.lean, 'card_holds'). Laid BY PROGRAM, IN A SANDBOX (cutbox-door.mjs). By AI agents, Wed Nov 11 2026. No macro, syntax, notation, axiom, sorry.
-/
import Derived.Test.YtadcgjmhhodnoaaDoorRows
import GoSem.ClaimSeven
namespace Go.Proofs.YtadcgjmhhodnoaaDoor
namespace Rows

/-- THE TIED CARD OF 'quarrylaw08.MarksIndexes'. -/
def marksIndexesCard : Claim7 := { stood := { row := marksIndexesRow, standIns := [], harness := (true, "7456d2b5ee39600b677eae34b78d448b26c75ef33fe95197a508c6c11bf03885"), looks := false }, kinds := [], alts := [], laidByText := true, laidKinds := [.data], laidTests := true, laidLooks := .later }
def MarksIndexesCardSaid : Prop := Claim7.holds Tryd.pinned (.plain (OpenSpec.ofChange marksIndexesSpec)) marksIndexesCard

/-- THE TIED CARD OF 'quarrylaw08.MarksWords'. -/
def marksWordsCard : Claim7 := { stood := { row := marksWordsRow, standIns := [], harness := (true, "7456d2b5ee39600b677eae34b78d448b26c75ef33fe95197a508c6c11bf03885"), looks := false }, kinds := [], alts := [], laidByText := true, laidKinds := [.data], laidTests := true, laidLooks := .later }
def MarksWordsCardSaid : Prop := Claim7.holds Tryd.pinned (.plain (OpenSpec.ofChange marksWordsSpec)) marksWordsCard

/-- THE TIED CARD OF 'quarrylaw07.QuotesMarks'. -/
def quotesMarksCard : Claim7 := { stood := { row := quotesMarksRow, standIns := [], harness := (true, "7456d2b5ee39600b677eae34b78d448b26c75ef33fe95197a508c6c11bf03885"), looks := false }, kinds := [], alts := [], laidByText := true, laidKinds := [.data], laidTests := true, laidLooks := .later }
def QuotesMarksCardSaid : Prop := Claim7.holds Tryd.pinned (.plain (OpenSpec.ofChange quotesMarksSpec)) quotesMarksCard

/-- THE TIED CARD OF 'quarrylaw07.QuotesControl'. -/
def quotesControlCard : Claim7 := { stood := { row := quotesControlRow, standIns := [], harness := (true, "7456d2b5ee39600b677eae34b78d448b26c75ef33fe95197a508c6c11bf03885"), looks := false }, kinds := [], alts := [], laidByText := true, laidKinds := [.data], laidTests := true, laidLooks := .later }
def QuotesControlCardSaid : Prop := Claim7.holds Tryd.pinned (.plain (OpenSpec.ofChange quotesControlSpec)) quotesControlCard

/-- THE TIED CARD OF 'quarrylaw07.QuotesTexts'. -/
def quotesTextsCard : Claim7 := { stood := { row := quotesTextsRow, standIns := [], harness := (true, "7456d2b5ee39600b677eae34b78d448b26c75ef33fe95197a508c6c11bf03885"), looks := false }, kinds := [], alts := [], laidByText := true, laidKinds := [.data], laidTests := true, laidLooks := .later }
def QuotesTextsCardSaid : Prop := Claim7.holds Tryd.pinned (.plain (OpenSpec.ofChange quotesTextsSpec)) quotesTextsCard

/-- THE TIED CARD OF 'quarrylaw07.QuotesKeeps'. -/
def quotesKeepsCard : Claim7 := { stood := { row := quotesKeepsRow, standIns := [], harness := (true, "7456d2b5ee39600b677eae34b78d448b26c75ef33fe95197a508c6c11bf03885"), looks := false }, kinds := [], alts := [], laidByText := true, laidKinds := [.data], laidTests := true, laidLooks := .later }
def QuotesKeepsCardSaid : Prop := Claim7.holds Tryd.pinned (.plain (OpenSpec.ofChange quotesKeepsSpec)) quotesKeepsCard

/-- THE TIED CARD OF 'quarrylaw07.QuotesSpans'. -/
def quotesSpansCard : Claim7 := { stood := { row := quotesSpansRow, standIns := [], harness := (true, "7456d2b5ee39600b677eae34b78d448b26c75ef33fe95197a508c6c11bf03885"), looks := false }, kinds := [], alts := [], laidByText := true, laidKinds := [.data], laidTests := true, laidLooks := .later }
def QuotesSpansCardSaid : Prop := Claim7.holds Tryd.pinned (.plain (OpenSpec.ofChange quotesSpansSpec)) quotesSpansCard

/-- THE TIED CARD OF 'quarrylaw07.QuotesBehind'. -/
def quotesBehindCard : Claim7 := { stood := { row := quotesBehindRow, standIns := [], harness := (true, "7456d2b5ee39600b677eae34b78d448b26c75ef33fe95197a508c6c11bf03885"), looks := false }, kinds := [], alts := [], laidByText := true, laidKinds := [.data], laidTests := true, laidLooks := .later }
def QuotesBehindCardSaid : Prop := Claim7.holds Tryd.pinned (.plain (OpenSpec.ofChange quotesBehindSpec)) quotesBehindCard

/-- THE TIED CARD OF 'quarrylaw07.QuotesTurns'. -/
def quotesTurnsCard : Claim7 := { stood := { row := quotesTurnsRow, standIns := [], harness := (true, "7456d2b5ee39600b677eae34b78d448b26c75ef33fe95197a508c6c11bf03885"), looks := false }, kinds := [], alts := [], laidByText := true, laidKinds := [.data], laidTests := true, laidLooks := .later }
def QuotesTurnsCardSaid : Prop := Claim7.holds Tryd.pinned (.plain (OpenSpec.ofChange quotesTurnsSpec)) quotesTurnsCard

/-- THE TIED CARD OF 'quarrylaw08.MarksParts'. -/
def marksPartsCard : Claim7 := { stood := { row := marksPartsRow, standIns := [], harness := (true, "7456d2b5ee39600b677eae34b78d448b26c75ef33fe95197a508c6c11bf03885"), looks := false }, kinds := [], alts := [], laidByText := true, laidKinds := [.data], laidTests := true, laidLooks := .later }
def MarksPartsCardSaid : Prop := Claim7.holds Tryd.pinned (.plain (OpenSpec.ofChange marksPartsSpec)) marksPartsCard

/-- THE TIED CARD OF 'quarrylaw08.MarksTwice'. -/
def marksTwiceCard : Claim7 := { stood := { row := marksTwiceRow, standIns := [], harness := (true, "7456d2b5ee39600b677eae34b78d448b26c75ef33fe95197a508c6c11bf03885"), looks := false }, kinds := [], alts := [], laidByText := true, laidKinds := [.data], laidTests := true, laidLooks := .later }
def MarksTwiceCardSaid : Prop := Claim7.holds Tryd.pinned (.plain (OpenSpec.ofChange marksTwiceSpec)) marksTwiceCard

/-- THE TIED CARD OF 'quarrylaw08.MarksJoins'. -/
def marksJoinsCard : Claim7 := { stood := { row := marksJoinsRow, standIns := [], harness := (true, "7456d2b5ee39600b677eae34b78d448b26c75ef33fe95197a508c6c11bf03885"), looks := false }, kinds := [], alts := [], laidByText := true, laidKinds := [.data], laidTests := true, laidLooks := .later }
def MarksJoinsCardSaid : Prop := Claim7.holds Tryd.pinned (.plain (OpenSpec.ofChange marksJoinsSpec)) marksJoinsCard

/-- THE SECOND FORM's CARD OF 'quarrylaw08.MarksIndexes'. -/
def marksIndexesUptoCard : Claim7 := { stood := { row := marksIndexesUptoRow, standIns := [], harness := (true, "7456d2b5ee39600b677eae34b78d448b26c75ef33fe95197a508c6c11bf03885"), looks := false }, kinds := [], alts := [], laidByText := true, laidKinds := [.data], laidTests := true, laidLooks := .later }
def MarksIndexesUptoCardSaid : Prop := Claim7.holds Tryd.pinned (.plain (OpenSpec.upto marksIndexesSpec)) marksIndexesUptoCard

/-- THE SECOND FORM's CARD OF 'quarrylaw08.MarksWords'. -/
def marksWordsUptoCard : Claim7 := { stood := { row := marksWordsUptoRow, standIns := [], harness := (true, "7456d2b5ee39600b677eae34b78d448b26c75ef33fe95197a508c6c11bf03885"), looks := false }, kinds := [], alts := [], laidByText := true, laidKinds := [.data], laidTests := true, laidLooks := .later }
def MarksWordsUptoCardSaid : Prop := Claim7.holds Tryd.pinned (.plain (OpenSpec.upto marksWordsSpec)) marksWordsUptoCard

/-- THE SECOND FORM's CARD OF 'quarrylaw07.QuotesMarks'. -/
def quotesMarksUptoCard : Claim7 := { stood := { row := quotesMarksUptoRow, standIns := [], harness := (true, "7456d2b5ee39600b677eae34b78d448b26c75ef33fe95197a508c6c11bf03885"), looks := false }, kinds := [], alts := [], laidByText := true, laidKinds := [.data], laidTests := true, laidLooks := .later }
def QuotesMarksUptoCardSaid : Prop := Claim7.holds Tryd.pinned (.plain (OpenSpec.upto quotesMarksSpec)) quotesMarksUptoCard

/-- THE SECOND FORM's CARD OF 'quarrylaw07.QuotesControl'. -/
def quotesControlUptoCard : Claim7 := { stood := { row := quotesControlUptoRow, standIns := [], harness := (true, "7456d2b5ee39600b677eae34b78d448b26c75ef33fe95197a508c6c11bf03885"), looks := false }, kinds := [], alts := [], laidByText := true, laidKinds := [.data], laidTests := true, laidLooks := .later }
def QuotesControlUptoCardSaid : Prop := Claim7.holds Tryd.pinned (.plain (OpenSpec.upto quotesControlSpec)) quotesControlUptoCard

/-- THE SECOND FORM's CARD OF 'quarrylaw07.QuotesTexts'. -/
def quotesTextsUptoCard : Claim7 := { stood := { row := quotesTextsUptoRow, standIns := [], harness := (true, "7456d2b5ee39600b677eae34b78d448b26c75ef33fe95197a508c6c11bf03885"), looks := false }, kinds := [], alts := [], laidByText := true, laidKinds := [.data], laidTests := true, laidLooks := .later }
def QuotesTextsUptoCardSaid : Prop := Claim7.holds Tryd.pinned (.plain (OpenSpec.upto quotesTextsSpec)) quotesTextsUptoCard

/-- THE SECOND FORM's CARD OF 'quarrylaw07.QuotesKeeps'. -/
def quotesKeepsUptoCard : Claim7 := { stood := { row := quotesKeepsUptoRow, standIns := [], harness := (true, "7456d2b5ee39600b677eae34b78d448b26c75ef33fe95197a508c6c11bf03885"), looks := false }, kinds := [], alts := [], laidByText := true, laidKinds := [.data], laidTests := true, laidLooks := .later }
def QuotesKeepsUptoCardSaid : Prop := Claim7.holds Tryd.pinned (.plain (OpenSpec.upto quotesKeepsSpec)) quotesKeepsUptoCard

/-- THE SECOND FORM's CARD OF 'quarrylaw07.QuotesSpans'. -/
def quotesSpansUptoCard : Claim7 := { stood := { row := quotesSpansUptoRow, standIns := [], harness := (true, "7456d2b5ee39600b677eae34b78d448b26c75ef33fe95197a508c6c11bf03885"), looks := false }, kinds := [], alts := [], laidByText := true, laidKinds := [.data], laidTests := true, laidLooks := .later }
def QuotesSpansUptoCardSaid : Prop := Claim7.holds Tryd.pinned (.plain (OpenSpec.upto quotesSpansSpec)) quotesSpansUptoCard

/-- THE SECOND FORM's CARD OF 'quarrylaw07.QuotesBehind'. -/
def quotesBehindUptoCard : Claim7 := { stood := { row := quotesBehindUptoRow, standIns := [], harness := (true, "7456d2b5ee39600b677eae34b78d448b26c75ef33fe95197a508c6c11bf03885"), looks := false }, kinds := [], alts := [], laidByText := true, laidKinds := [.data], laidTests := true, laidLooks := .later }
def QuotesBehindUptoCardSaid : Prop := Claim7.holds Tryd.pinned (.plain (OpenSpec.upto quotesBehindSpec)) quotesBehindUptoCard

/-- THE SECOND FORM's CARD OF 'quarrylaw07.QuotesTurns'. -/
def quotesTurnsUptoCard : Claim7 := { stood := { row := quotesTurnsUptoRow, standIns := [], harness := (true, "7456d2b5ee39600b677eae34b78d448b26c75ef33fe95197a508c6c11bf03885"), looks := false }, kinds := [], alts := [], laidByText := true, laidKinds := [.data], laidTests := true, laidLooks := .later }
def QuotesTurnsUptoCardSaid : Prop := Claim7.holds Tryd.pinned (.plain (OpenSpec.upto quotesTurnsSpec)) quotesTurnsUptoCard

/-- THE SECOND FORM's CARD OF 'quarrylaw08.MarksParts'. -/
def marksPartsUptoCard : Claim7 := { stood := { row := marksPartsUptoRow, standIns := [], harness := (true, "7456d2b5ee39600b677eae34b78d448b26c75ef33fe95197a508c6c11bf03885"), looks := false }, kinds := [], alts := [], laidByText := true, laidKinds := [.data], laidTests := true, laidLooks := .later }
def MarksPartsUptoCardSaid : Prop := Claim7.holds Tryd.pinned (.plain (OpenSpec.upto marksPartsSpec)) marksPartsUptoCard

/-- THE SECOND FORM's CARD OF 'quarrylaw08.MarksTwice'. -/
def marksTwiceUptoCard : Claim7 := { stood := { row := marksTwiceUptoRow, standIns := [], harness := (true, "7456d2b5ee39600b677eae34b78d448b26c75ef33fe95197a508c6c11bf03885"), looks := false }, kinds := [], alts := [], laidByText := true, laidKinds := [.data], laidTests := true, laidLooks := .later }
def MarksTwiceUptoCardSaid : Prop := Claim7.holds Tryd.pinned (.plain (OpenSpec.upto marksTwiceSpec)) marksTwiceUptoCard

/-- THE SECOND FORM's CARD OF 'quarrylaw08.MarksJoins'. -/
def marksJoinsUptoCard : Claim7 := { stood := { row := marksJoinsUptoRow, standIns := [], harness := (true, "7456d2b5ee39600b677eae34b78d448b26c75ef33fe95197a508c6c11bf03885"), looks := false }, kinds := [], alts := [], laidByText := true, laidKinds := [.data], laidTests := true, laidLooks := .later }
def MarksJoinsUptoCardSaid : Prop := Claim7.holds Tryd.pinned (.plain (OpenSpec.upto marksJoinsSpec)) marksJoinsUptoCard
end Rows
end Go.Proofs.YtadcgjmhhodnoaaDoor
