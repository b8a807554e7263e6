/-
  DERIVED. GIVEN WITH THE SEED: THE CARDS: each row of YtgddljealeklkaaDoorRows.lean that lists a variable, with what it lists TIED to the program's text (the seventh form; the later family's looks); each row that meets fmt, with fmt's text TOLD by the authors' own Lean function (tested against real Go, not proved from fmt's source: count such statements apart). THE CARD IS WHAT COUNTS. Prove the row's statement (the work); the ties are given (YtgddljealeklkaaDoorTie.lean); close each card by the builder's one call (the guide's Derived/Test/ToyasCard.lean, 'card_holds'). Laid BY PROGRAM, IN A SANDBOX (cutbox-door.mjs). By AI agents, Wed Nov 11 2026. No macro, syntax, notation, axiom, sorry.
-/
import Derived.Test.YtgddljealeklkaaDoorRows
import GoSem.ClaimSeven
namespace Go.Proofs.YtgddljealeklkaaDoor
namespace Rows

/-- THE TIED CARD OF 'quarrylaw08.MarksWords'. -/
def marksWordsCard : Claim7 := { stood := { row := marksWordsRow, standIns := [], harness := (true, "feb7e8d3d8cada3798ebd8aa0c3979479cacced963abae1a89114c657bd2390e"), looks := false }, kinds := [], alts := [], laidByText := true, laidKinds := [.data], laidTests := true, laidLooks := .later }
def MarksWordsCardSaid : Prop := Claim7.holds Tryd.pinned (.plain (OpenSpec.ofChange marksWordsSpec)) marksWordsCard

/-- THE TIED CARD OF 'quarrylaw08.MarksParts'. -/
def marksPartsCard : Claim7 := { stood := { row := marksPartsRow, standIns := [], harness := (true, "feb7e8d3d8cada3798ebd8aa0c3979479cacced963abae1a89114c657bd2390e"), looks := false }, kinds := [], alts := [], laidByText := true, laidKinds := [.data], laidTests := true, laidLooks := .later }
def MarksPartsCardSaid : Prop := Claim7.holds Tryd.pinned (.plain (OpenSpec.ofChange marksPartsSpec)) marksPartsCard

/-- THE TIED CARD OF 'quarrylaw10.LevelsLimits'. -/
def levelsLimitsCard : Claim7 := { stood := { row := levelsLimitsRow, standIns := [], harness := (true, "feb7e8d3d8cada3798ebd8aa0c3979479cacced963abae1a89114c657bd2390e"), looks := false }, kinds := [], alts := [], laidByText := true, laidKinds := [.data], laidTests := true, laidLooks := .later }
def LevelsLimitsCardSaid : Prop := Claim7.holds Tryd.pinned (.plain (OpenSpec.ofChange levelsLimitsSpec)) levelsLimitsCard

/-- THE TIED CARD OF 'quarrylaw10.LevelsBuild'. -/
def levelsBuildCard : Claim7 := { stood := { row := levelsBuildRow, standIns := [], harness := (true, "feb7e8d3d8cada3798ebd8aa0c3979479cacced963abae1a89114c657bd2390e"), looks := false }, kinds := [], alts := [], laidByText := true, laidKinds := [.data], laidTests := true, laidLooks := .later }
def LevelsBuildCardSaid : Prop := Claim7.holds Tryd.pinned (.plain (OpenSpec.ofChange levelsBuildSpec)) levelsBuildCard

/-- THE TIED CARD OF 'quarrylaw10.LevelsWithin'. -/
def levelsWithinCard : Claim7 := { stood := { row := levelsWithinRow, standIns := [], harness := (true, "feb7e8d3d8cada3798ebd8aa0c3979479cacced963abae1a89114c657bd2390e"), looks := false }, kinds := [], alts := [], laidByText := true, laidKinds := [.data], laidTests := true, laidLooks := .later }
def LevelsWithinCardSaid : Prop := Claim7.holds Tryd.pinned (.plain (OpenSpec.ofChange levelsWithinSpec)) levelsWithinCard

/-- THE TIED CARD OF 'quarrylaw10.LevelsDepth'. -/
def levelsDepthCard : Claim7 := { stood := { row := levelsDepthRow, standIns := [], harness := (true, "feb7e8d3d8cada3798ebd8aa0c3979479cacced963abae1a89114c657bd2390e"), looks := false }, kinds := [], alts := [], laidByText := true, laidKinds := [.data], laidTests := true, laidLooks := .later }
def LevelsDepthCardSaid : Prop := Claim7.holds Tryd.pinned (.plain (OpenSpec.ofChange levelsDepthSpec)) levelsDepthCard

/-- THE TIED CARD OF 'quarrylaw10.LevelsSteps'. -/
def levelsStepsCard : Claim7 := { stood := { row := levelsStepsRow, standIns := [], harness := (true, "feb7e8d3d8cada3798ebd8aa0c3979479cacced963abae1a89114c657bd2390e"), looks := false }, kinds := [], alts := [], laidByText := true, laidKinds := [.data], laidTests := true, laidLooks := .later }
def LevelsStepsCardSaid : Prop := Claim7.holds Tryd.pinned (.plain (OpenSpec.ofChange levelsStepsSpec)) levelsStepsCard

/-- THE TIED CARD OF 'quarrylaw10.LevelsOwn'. -/
def levelsOwnCard : Claim7 := { stood := { row := levelsOwnRow, standIns := [], harness := (true, "feb7e8d3d8cada3798ebd8aa0c3979479cacced963abae1a89114c657bd2390e"), looks := false }, kinds := [], alts := [], laidByText := true, laidKinds := [.data], laidTests := true, laidLooks := .later }
def LevelsOwnCardSaid : Prop := Claim7.holds Tryd.pinned (.plain (OpenSpec.ofChange levelsOwnSpec)) levelsOwnCard

/-- THE TIED CARD OF 'quarrylaw10.LevelsKeeps'. -/
def levelsKeepsCard : Claim7 := { stood := { row := levelsKeepsRow, standIns := [], harness := (true, "feb7e8d3d8cada3798ebd8aa0c3979479cacced963abae1a89114c657bd2390e"), looks := false }, kinds := [], alts := [], laidByText := true, laidKinds := [.data], laidTests := true, laidLooks := .later }
def LevelsKeepsCardSaid : Prop := Claim7.holds Tryd.pinned (.plain (OpenSpec.ofChange levelsKeepsSpec)) levelsKeepsCard

/-- THE TIED CARD OF 'quarrylaw08.MarksJoins'. -/
def marksJoinsCard : Claim7 := { stood := { row := marksJoinsRow, standIns := [], harness := (true, "feb7e8d3d8cada3798ebd8aa0c3979479cacced963abae1a89114c657bd2390e"), looks := false }, kinds := [], alts := [], laidByText := true, laidKinds := [.data], laidTests := true, laidLooks := .later }
def MarksJoinsCardSaid : Prop := Claim7.holds Tryd.pinned (.plain (OpenSpec.ofChange marksJoinsSpec)) marksJoinsCard

/-- THE TIED CARD OF 'quarrylaw10.LevelsWrapped'. -/
def levelsWrappedCard : Claim7 := { stood := { row := levelsWrappedRow, standIns := [], harness := (true, "feb7e8d3d8cada3798ebd8aa0c3979479cacced963abae1a89114c657bd2390e"), looks := false }, kinds := [], alts := [], laidByText := true, laidKinds := [.data], laidTests := true, laidLooks := .later }
def LevelsWrappedCardSaid : Prop := Claim7.holds Tryd.pinned (.plain (OpenSpec.ofChange levelsWrappedSpec)) levelsWrappedCard

/-- THE SECOND FORM's CARD OF 'quarrylaw08.MarksWords'. -/
def marksWordsUptoCard : Claim7 := { stood := { row := marksWordsUptoRow, standIns := [], harness := (true, "feb7e8d3d8cada3798ebd8aa0c3979479cacced963abae1a89114c657bd2390e"), looks := false }, kinds := [], alts := [], laidByText := true, laidKinds := [.data], laidTests := true, laidLooks := .later }
def MarksWordsUptoCardSaid : Prop := Claim7.holds Tryd.pinned (.plain (OpenSpec.upto marksWordsSpec)) marksWordsUptoCard

/-- THE SECOND FORM's CARD OF 'quarrylaw08.MarksParts'. -/
def marksPartsUptoCard : Claim7 := { stood := { row := marksPartsUptoRow, standIns := [], harness := (true, "feb7e8d3d8cada3798ebd8aa0c3979479cacced963abae1a89114c657bd2390e"), looks := false }, kinds := [], alts := [], laidByText := true, laidKinds := [.data], laidTests := true, laidLooks := .later }
def MarksPartsUptoCardSaid : Prop := Claim7.holds Tryd.pinned (.plain (OpenSpec.upto marksPartsSpec)) marksPartsUptoCard

/-- THE SECOND FORM's CARD OF 'quarrylaw10.LevelsLimits'. -/
def levelsLimitsUptoCard : Claim7 := { stood := { row := levelsLimitsUptoRow, standIns := [], harness := (true, "feb7e8d3d8cada3798ebd8aa0c3979479cacced963abae1a89114c657bd2390e"), looks := false }, kinds := [], alts := [], laidByText := true, laidKinds := [.data], laidTests := true, laidLooks := .later }
def LevelsLimitsUptoCardSaid : Prop := Claim7.holds Tryd.pinned (.plain (OpenSpec.upto levelsLimitsSpec)) levelsLimitsUptoCard

/-- THE SECOND FORM's CARD OF 'quarrylaw10.LevelsBuild'. -/
def levelsBuildUptoCard : Claim7 := { stood := { row := levelsBuildUptoRow, standIns := [], harness := (true, "feb7e8d3d8cada3798ebd8aa0c3979479cacced963abae1a89114c657bd2390e"), looks := false }, kinds := [], alts := [], laidByText := true, laidKinds := [.data], laidTests := true, laidLooks := .later }
def LevelsBuildUptoCardSaid : Prop := Claim7.holds Tryd.pinned (.plain (OpenSpec.upto levelsBuildSpec)) levelsBuildUptoCard

/-- THE SECOND FORM's CARD OF 'quarrylaw10.LevelsWithin'. -/
def levelsWithinUptoCard : Claim7 := { stood := { row := levelsWithinUptoRow, standIns := [], harness := (true, "feb7e8d3d8cada3798ebd8aa0c3979479cacced963abae1a89114c657bd2390e"), looks := false }, kinds := [], alts := [], laidByText := true, laidKinds := [.data], laidTests := true, laidLooks := .later }
def LevelsWithinUptoCardSaid : Prop := Claim7.holds Tryd.pinned (.plain (OpenSpec.upto levelsWithinSpec)) levelsWithinUptoCard

/-- THE SECOND FORM's CARD OF 'quarrylaw10.LevelsDepth'. -/
def levelsDepthUptoCard : Claim7 := { stood := { row := levelsDepthUptoRow, standIns := [], harness := (true, "feb7e8d3d8cada3798ebd8aa0c3979479cacced963abae1a89114c657bd2390e"), looks := false }, kinds := [], alts := [], laidByText := true, laidKinds := [.data], laidTests := true, laidLooks := .later }
def LevelsDepthUptoCardSaid : Prop := Claim7.holds Tryd.pinned (.plain (OpenSpec.upto levelsDepthSpec)) levelsDepthUptoCard

/-- THE SECOND FORM's CARD OF 'quarrylaw10.LevelsSteps'. -/
def levelsStepsUptoCard : Claim7 := { stood := { row := levelsStepsUptoRow, standIns := [], harness := (true, "feb7e8d3d8cada3798ebd8aa0c3979479cacced963abae1a89114c657bd2390e"), looks := false }, kinds := [], alts := [], laidByText := true, laidKinds := [.data], laidTests := true, laidLooks := .later }
def LevelsStepsUptoCardSaid : Prop := Claim7.holds Tryd.pinned (.plain (OpenSpec.upto levelsStepsSpec)) levelsStepsUptoCard

/-- THE SECOND FORM's CARD OF 'quarrylaw10.LevelsOwn'. -/
def levelsOwnUptoCard : Claim7 := { stood := { row := levelsOwnUptoRow, standIns := [], harness := (true, "feb7e8d3d8cada3798ebd8aa0c3979479cacced963abae1a89114c657bd2390e"), looks := false }, kinds := [], alts := [], laidByText := true, laidKinds := [.data], laidTests := true, laidLooks := .later }
def LevelsOwnUptoCardSaid : Prop := Claim7.holds Tryd.pinned (.plain (OpenSpec.upto levelsOwnSpec)) levelsOwnUptoCard

/-- THE SECOND FORM's CARD OF 'quarrylaw10.LevelsKeeps'. -/
def levelsKeepsUptoCard : Claim7 := { stood := { row := levelsKeepsUptoRow, standIns := [], harness := (true, "feb7e8d3d8cada3798ebd8aa0c3979479cacced963abae1a89114c657bd2390e"), looks := false }, kinds := [], alts := [], laidByText := true, laidKinds := [.data], laidTests := true, laidLooks := .later }
def LevelsKeepsUptoCardSaid : Prop := Claim7.holds Tryd.pinned (.plain (OpenSpec.upto levelsKeepsSpec)) levelsKeepsUptoCard

/-- THE SECOND FORM's CARD OF 'quarrylaw08.MarksJoins'. -/
def marksJoinsUptoCard : Claim7 := { stood := { row := marksJoinsUptoRow, standIns := [], harness := (true, "feb7e8d3d8cada3798ebd8aa0c3979479cacced963abae1a89114c657bd2390e"), looks := false }, kinds := [], alts := [], laidByText := true, laidKinds := [.data], laidTests := true, laidLooks := .later }
def MarksJoinsUptoCardSaid : Prop := Claim7.holds Tryd.pinned (.plain (OpenSpec.upto marksJoinsSpec)) marksJoinsUptoCard

/-- THE SECOND FORM's CARD OF 'quarrylaw10.LevelsWrapped'. -/
def levelsWrappedUptoCard : Claim7 := { stood := { row := levelsWrappedUptoRow, standIns := [], harness := (true, "feb7e8d3d8cada3798ebd8aa0c3979479cacced963abae1a89114c657bd2390e"), looks := false }, kinds := [], alts := [], laidByText := true, laidKinds := [.data], laidTests := true, laidLooks := .later }
def LevelsWrappedUptoCardSaid : Prop := Claim7.holds Tryd.pinned (.plain (OpenSpec.upto levelsWrappedSpec)) levelsWrappedUptoCard
end Rows
end Go.Proofs.YtgddljealeklkaaDoor
