/-
  DERIVED. GIVEN WITH THE SEED: THE CARDS: each row of YtagcilcdgckbeaaDoorRows.lean that lists a variable, with what it lists TIED to the program's text (the seventh form; the later family's looks); each row that meets fmt, with fmt's text TOLD by the authors' own Lean function (tested against real Go, not proved from fmt's source: count such statements apart). THE CARD IS WHAT COUNTS. Prove the row's statement (the work); the ties are given (YtagcilcdgckbeaaDoorTie.lean); close each card by the builder's one call (the guide's Derived/Test/ToyasCard.lean, 'card_holds'). Laid BY PROGRAM, IN A SANDBOX (cutbox-door.mjs). By AI agents, Wed Nov 11 2026. No macro, syntax, notation, axiom, sorry.
-/
import Derived.Test.YtagcilcdgckbeaaDoorRows
import GoSem.ClaimSeven
namespace Go.Proofs.YtagcilcdgckbeaaDoor
namespace Rows

/-- THE TIED CARD OF 'quarrylaw08.MarksKeeps'. -/
def marksKeepsCard : Claim7 := { stood := { row := marksKeepsRow, standIns := [], harness := (true, "3e770989b7520ebeb8dc074de150134c2dbdaf6906bbda2b07d1794a91bf197d"), looks := false }, kinds := [], alts := [], laidByText := true, laidKinds := [.data], laidTests := true, laidLooks := .later }
def MarksKeepsCardSaid : Prop := Claim7.holds Tryd.pinned (.plain (OpenSpec.ofChange marksKeepsSpec)) marksKeepsCard

/-- THE SECOND FORM's CARD OF 'quarrylaw08.MarksKeeps'. -/
def marksKeepsUptoCard : Claim7 := { stood := { row := marksKeepsUptoRow, standIns := [], harness := (true, "3e770989b7520ebeb8dc074de150134c2dbdaf6906bbda2b07d1794a91bf197d"), looks := false }, kinds := [], alts := [], laidByText := true, laidKinds := [.data], laidTests := true, laidLooks := .later }
def MarksKeepsUptoCardSaid : Prop := Claim7.holds Tryd.pinned (.plain (OpenSpec.upto marksKeepsSpec)) marksKeepsUptoCard
end Rows
end Go.Proofs.YtagcilcdgckbeaaDoor
