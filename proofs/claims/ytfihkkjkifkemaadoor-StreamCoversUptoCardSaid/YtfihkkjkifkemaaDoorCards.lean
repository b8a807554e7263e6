/-
  DERIVED. GIVEN WITH THE SEED: THE CARDS: each row of YtfihkkjkifkemaaDoorRows.lean that lists a variable, with what it lists TIED to the program's text (the seventh form; the later family's looks); each row that meets fmt, with fmt's text TOLD by the authors' own Lean function (tested against real Go, not proved from fmt's source: count such statements apart). THE CARD IS WHAT COUNTS. Prove the row's statement (the work); the ties are given (YtfihkkjkifkemaaDoorTie.lean); close each card by the builder's one call (the guide's Derived/Test/ToyasCard.lean, 'card_holds'). Laid BY PROGRAM, IN A SANDBOX (cutbox-door.mjs). By AI agents, Wed Nov 11 2026. No macro, syntax, notation, axiom, sorry.
-/
import Derived.Test.YtfihkkjkifkemaaDoorRows
import GoSem.ClaimSeven
namespace Go.Proofs.YtfihkkjkifkemaaDoor
namespace Rows

/-- THE TIED CARD OF 'quarrytop.TopStream'. -/
def topStreamCard : Claim7 := { stood := { row := topStreamRow, standIns := [], harness := (true, "9dfe12da43623134f1a2847164800ffa80eedd52ed18dee0b1f742228a282fdf"), looks := false }, kinds := [], alts := [], laidByText := true, laidKinds := [.data], laidTests := true, laidLooks := .later }
def TopStreamCardSaid : Prop := Claim7.holds Tryd.pinned (.plain (OpenSpec.ofChange topStreamSpec)) topStreamCard

/-- THE TIED CARD OF 'quarrylaw27.StreamSplits'. -/
def streamSplitsCard : Claim7 := { stood := { row := streamSplitsRow, standIns := [], harness := (true, "9dfe12da43623134f1a2847164800ffa80eedd52ed18dee0b1f742228a282fdf"), looks := false }, kinds := [], alts := [], laidByText := true, laidKinds := [.data], laidTests := true, laidLooks := .later }
def StreamSplitsCardSaid : Prop := Claim7.holds Tryd.pinned (.plain (OpenSpec.ofChange streamSplitsSpec)) streamSplitsCard

/-- THE TIED CARD OF 'quarrylaw27.StreamKeeps'. -/
def streamKeepsCard : Claim7 := { stood := { row := streamKeepsRow, standIns := [], harness := (true, "9dfe12da43623134f1a2847164800ffa80eedd52ed18dee0b1f742228a282fdf"), looks := false }, kinds := [], alts := [], laidByText := true, laidKinds := [.data], laidTests := true, laidLooks := .later }
def StreamKeepsCardSaid : Prop := Claim7.holds Tryd.pinned (.plain (OpenSpec.ofChange streamKeepsSpec)) streamKeepsCard

/-- THE TIED CARD OF 'quarrylaw27.StreamCovers'. -/
def streamCoversCard : Claim7 := { stood := { row := streamCoversRow, standIns := [], harness := (true, "9dfe12da43623134f1a2847164800ffa80eedd52ed18dee0b1f742228a282fdf"), looks := false }, kinds := [], alts := [], laidByText := true, laidKinds := [.data], laidTests := true, laidLooks := .later }
def StreamCoversCardSaid : Prop := Claim7.holds Tryd.pinned (.plain (OpenSpec.ofChange streamCoversSpec)) streamCoversCard

/-- THE TIED CARD OF 'quarrylaw27.StreamFeeds'. -/
def streamFeedsCard : Claim7 := { stood := { row := streamFeedsRow, standIns := [], harness := (true, "9dfe12da43623134f1a2847164800ffa80eedd52ed18dee0b1f742228a282fdf"), looks := false }, kinds := [], alts := [], laidByText := true, laidKinds := [.data], laidTests := true, laidLooks := .later }
def StreamFeedsCardSaid : Prop := Claim7.holds Tryd.pinned (.plain (OpenSpec.ofChange streamFeedsSpec)) streamFeedsCard

/-- THE TIED CARD OF 'quarrylaw27.StreamPieces'. -/
def streamPiecesCard : Claim7 := { stood := { row := streamPiecesRow, standIns := [], harness := (true, "9dfe12da43623134f1a2847164800ffa80eedd52ed18dee0b1f742228a282fdf"), looks := false }, kinds := [], alts := [], laidByText := true, laidKinds := [.data], laidTests := true, laidLooks := .later }
def StreamPiecesCardSaid : Prop := Claim7.holds Tryd.pinned (.plain (OpenSpec.ofChange streamPiecesSpec)) streamPiecesCard

/-- THE SECOND FORM's CARD OF 'quarrytop.TopStream'. -/
def topStreamUptoCard : Claim7 := { stood := { row := topStreamUptoRow, standIns := [], harness := (true, "9dfe12da43623134f1a2847164800ffa80eedd52ed18dee0b1f742228a282fdf"), looks := false }, kinds := [], alts := [], laidByText := true, laidKinds := [.data], laidTests := true, laidLooks := .later }
def TopStreamUptoCardSaid : Prop := Claim7.holds Tryd.pinned (.plain (OpenSpec.upto topStreamSpec)) topStreamUptoCard

/-- THE SECOND FORM's CARD OF 'quarrylaw27.StreamSplits'. -/
def streamSplitsUptoCard : Claim7 := { stood := { row := streamSplitsUptoRow, standIns := [], harness := (true, "9dfe12da43623134f1a2847164800ffa80eedd52ed18dee0b1f742228a282fdf"), looks := false }, kinds := [], alts := [], laidByText := true, laidKinds := [.data], laidTests := true, laidLooks := .later }
def StreamSplitsUptoCardSaid : Prop := Claim7.holds Tryd.pinned (.plain (OpenSpec.upto streamSplitsSpec)) streamSplitsUptoCard

/-- THE SECOND FORM's CARD OF 'quarrylaw27.StreamKeeps'. -/
def streamKeepsUptoCard : Claim7 := { stood := { row := streamKeepsUptoRow, standIns := [], harness := (true, "9dfe12da43623134f1a2847164800ffa80eedd52ed18dee0b1f742228a282fdf"), looks := false }, kinds := [], alts := [], laidByText := true, laidKinds := [.data], laidTests := true, laidLooks := .later }
def StreamKeepsUptoCardSaid : Prop := Claim7.holds Tryd.pinned (.plain (OpenSpec.upto streamKeepsSpec)) streamKeepsUptoCard

/-- THE SECOND FORM's CARD OF 'quarrylaw27.StreamCovers'. -/
def streamCoversUptoCard : Claim7 := { stood := { row := streamCoversUptoRow, standIns := [], harness := (true, "9dfe12da43623134f1a2847164800ffa80eedd52ed18dee0b1f742228a282fdf"), looks := false }, kinds := [], alts := [], laidByText := true, laidKinds := [.data], laidTests := true, laidLooks := .later }
def StreamCoversUptoCardSaid : Prop := Claim7.holds Tryd.pinned (.plain (OpenSpec.upto streamCoversSpec)) streamCoversUptoCard

/-- THE SECOND FORM's CARD OF 'quarrylaw27.StreamFeeds'. -/
def streamFeedsUptoCard : Claim7 := { stood := { row := streamFeedsUptoRow, standIns := [], harness := (true, "9dfe12da43623134f1a2847164800ffa80eedd52ed18dee0b1f742228a282fdf"), looks := false }, kinds := [], alts := [], laidByText := true, laidKinds := [.data], laidTests := true, laidLooks := .later }
def StreamFeedsUptoCardSaid : Prop := Claim7.holds Tryd.pinned (.plain (OpenSpec.upto streamFeedsSpec)) streamFeedsUptoCard

/-- THE SECOND FORM's CARD OF 'quarrylaw27.StreamPieces'. -/
def streamPiecesUptoCard : Claim7 := { stood := { row := streamPiecesUptoRow, standIns := [], harness := (true, "9dfe12da43623134f1a2847164800ffa80eedd52ed18dee0b1f742228a282fdf"), looks := false }, kinds := [], alts := [], laidByText := true, laidKinds := [.data], laidTests := true, laidLooks := .later }
def StreamPiecesUptoCardSaid : Prop := Claim7.holds Tryd.pinned (.plain (OpenSpec.upto streamPiecesSpec)) streamPiecesUptoCard
end Rows
end Go.Proofs.YtfihkkjkifkemaaDoor
