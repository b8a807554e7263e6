/-
  NARROWER THAN 'FOR EVERY INPUT', by the rows' own cells (each row's printed sentence says how): MarksWords: laid · MarksParts: laid · LevelsLimits: laid · LevelsBuild: laid · LevelsWithin: laid · LevelsDepth: laid · LevelsSteps: laid · LevelsOwn: laid · LevelsKeeps: laid · MarksJoins: laid · LevelsWrapped: laid.
  DERIVED. THE GIVEN ROWS OF THIS SEAT. 11 by the template 'for every input the law returns true; each argument reads behind the call as it read before'; 0 by the template 'total and deterministic' (their statements: YtgddljealeklkaaDoorTotals.lean).
  GIVEN WITH THE SEED: the statements are not yours to turn. If you find one false, say at which input.
  Laid BY PROGRAM, IN A SANDBOX (cutbox-rows.mjs): the forced cells as the released guide's own fill.sh prints them over the translation 9c9b9dbf64b77c0e… (all of the seat's roots in one cut). By AI agents, Wed Nov 11 2026. No macro, syntax, notation, axiom, sorry.
-/
import Derived.Test.YtgddljealeklkaaDoorChecked
import GoSem.Claim
import GoSem.ClaimJoined
import GoSem.ClaimMapViews
import Derived.JoinedTies
import Derived.KernelRfl
namespace Go.Proofs.YtgddljealeklkaaDoor
/- THE CELL 'sum', in the pinned program and in every row, IS THE sha256 OF THE DUMP (.gsa) THAT YtgddljealeklkaaDoorProg.lean LOADS. Nothing in Lean hashes anything: it is a label: what it is worth is what the hold of that sum in a sandbox is worth. -/
noncomputable def Tryd.pinned : Pinned := { name := "ytgddljealeklkaadoor", sum := "9c9b9dbf64b77c0e160d56b832581d60981dc66f0cf0c5aa59413e5e153641ae", checked := Tryd.checked }
namespace Rows
def none {H : Type} : Left H := { results := [], args := [] }

/- WHAT THE LISTED PACKAGE-LEVEL VARIABLES READ AS WHEN THE CALL BEGINS. Each datum BY PROGRAM (the guide's laid-datum.mjs) off the statement by which the dump's own 'gosem.cut.vars' lays the variable. In a bare row this is a premise. The card (YtgddljealeklkaaDoorCards.lean) ties it to the program's text. -/
def laid_math_bits_deBruijn64tab {H : Type} : DataW H := .agg [.lit (.int .u8 0), .lit (.int .u8 1), .lit (.int .u8 56), .lit (.int .u8 2), .lit (.int .u8 57), .lit (.int .u8 49), .lit (.int .u8 28), .lit (.int .u8 3), .lit (.int .u8 61), .lit (.int .u8 58), .lit (.int .u8 42), .lit (.int .u8 50), .lit (.int .u8 38), .lit (.int .u8 29), .lit (.int .u8 17), .lit (.int .u8 4), .lit (.int .u8 62), .lit (.int .u8 47), .lit (.int .u8 59), .lit (.int .u8 36), .lit (.int .u8 45), .lit (.int .u8 43), .lit (.int .u8 51), .lit (.int .u8 22), .lit (.int .u8 53), .lit (.int .u8 39), .lit (.int .u8 33), .lit (.int .u8 30), .lit (.int .u8 24), .lit (.int .u8 18), .lit (.int .u8 12), .lit (.int .u8 5), .lit (.int .u8 63), .lit (.int .u8 55), .lit (.int .u8 48), .lit (.int .u8 27), .lit (.int .u8 60), .lit (.int .u8 41), .lit (.int .u8 37), .lit (.int .u8 16), .lit (.int .u8 46), .lit (.int .u8 35), .lit (.int .u8 44), .lit (.int .u8 21), .lit (.int .u8 52), .lit (.int .u8 32), .lit (.int .u8 23), .lit (.int .u8 11), .lit (.int .u8 54), .lit (.int .u8 26), .lit (.int .u8 40), .lit (.int .u8 15), .lit (.int .u8 34), .lit (.int .u8 20), .lit (.int .u8 31), .lit (.int .u8 10), .lit (.int .u8 25), .lit (.int .u8 14), .lit (.int .u8 19), .lit (.int .u8 9), .lit (.int .u8 13), .lit (.int .u8 8), .lit (.int .u8 7), .lit (.int .u8 6)]

/-- 'quarrylaw08.MarksWords': WHATEVER THE INPUT: true; the input reads as it did. -/
def marksWordsSpec : ChangeSpec := { name := "marksWords", fn := fun _ => fun
  | [d1, d2] => { results := [.lit (.bool true)], args := [d1, d2] }
  | _ => none }
def marksWordsRow : OpenClaim := { program := "ytgddljealeklkaadoor", sum := "9c9b9dbf64b77c0e160d56b832581d60981dc66f0cf0c5aa59413e5e153641ae", func := "quarry/quarrylaw08.MarksWords", spec := "marksWords", unfollowed := true, recurses := true, named := ["math/bits.deBruijn64tab"], apart := false, laid := [("math/bits.deBruijn64tab", laid_math_bits_deBruijn64tab)] }
def MarksWordsSaid : Prop := marksWordsRow.holds Tryd.pinned (OpenSpec.ofChange marksWordsSpec)

/-- ITS FALSE NEIGHBOUR: 'it returns false'. Refute it at one input. -/
def marksWordsWrong : ChangeSpec := { name := "marksWords", fn := fun _ => fun
  | [d1, d2] => { results := [.lit (.bool false)], args := [d1, d2] }
  | _ => none }
def MarksWordsWrongFalsely : Prop := marksWordsRow.holds Tryd.pinned (OpenSpec.ofChange marksWordsWrong)

/-- 'quarrylaw08.MarksParts': WHATEVER THE INPUT: true; the input reads as it did. -/
def marksPartsSpec : ChangeSpec := { name := "marksParts", fn := fun _ => fun
  | [d] => { results := [.lit (.bool true)], args := [d] }
  | _ => none }
def marksPartsRow : OpenClaim := { program := "ytgddljealeklkaadoor", sum := "9c9b9dbf64b77c0e160d56b832581d60981dc66f0cf0c5aa59413e5e153641ae", func := "quarry/quarrylaw08.MarksParts", spec := "marksParts", unfollowed := true, recurses := true, named := ["math/bits.deBruijn64tab"], apart := false, laid := [("math/bits.deBruijn64tab", laid_math_bits_deBruijn64tab)] }
def MarksPartsSaid : Prop := marksPartsRow.holds Tryd.pinned (OpenSpec.ofChange marksPartsSpec)

/-- ITS FALSE NEIGHBOUR: 'it returns false'. Refute it at one input. -/
def marksPartsWrong : ChangeSpec := { name := "marksParts", fn := fun _ => fun
  | [d] => { results := [.lit (.bool false)], args := [d] }
  | _ => none }
def MarksPartsWrongFalsely : Prop := marksPartsRow.holds Tryd.pinned (OpenSpec.ofChange marksPartsWrong)

/-- 'quarrylaw10.LevelsLimits': WHATEVER THE INPUT: true; the input reads as it did. -/
def levelsLimitsSpec : ChangeSpec := { name := "levelsLimits", fn := fun _ => fun
  | [] => { results := [.lit (.bool true)], args := [] }
  | _ => none }
def levelsLimitsRow : OpenClaim := { program := "ytgddljealeklkaadoor", sum := "9c9b9dbf64b77c0e160d56b832581d60981dc66f0cf0c5aa59413e5e153641ae", func := "quarry/quarrylaw10.LevelsLimits", spec := "levelsLimits", unfollowed := true, recurses := true, named := ["math/bits.deBruijn64tab"], apart := false, laid := [("math/bits.deBruijn64tab", laid_math_bits_deBruijn64tab)] }
def LevelsLimitsSaid : Prop := levelsLimitsRow.holds Tryd.pinned (OpenSpec.ofChange levelsLimitsSpec)

/-- ITS FALSE NEIGHBOUR: 'it returns false'. Refute it at one input. -/
def levelsLimitsWrong : ChangeSpec := { name := "levelsLimits", fn := fun _ => fun
  | [] => { results := [.lit (.bool false)], args := [] }
  | _ => none }
def LevelsLimitsWrongFalsely : Prop := levelsLimitsRow.holds Tryd.pinned (OpenSpec.ofChange levelsLimitsWrong)

/-- 'quarrylaw10.LevelsBuild': WHATEVER THE INPUT: true; the input reads as it did. -/
def levelsBuildSpec : ChangeSpec := { name := "levelsBuild", fn := fun _ => fun
  | [d1, d2] => { results := [.lit (.bool true)], args := [d1, d2] }
  | _ => none }
def levelsBuildRow : OpenClaim := { program := "ytgddljealeklkaadoor", sum := "9c9b9dbf64b77c0e160d56b832581d60981dc66f0cf0c5aa59413e5e153641ae", func := "quarry/quarrylaw10.LevelsBuild", spec := "levelsBuild", unfollowed := true, recurses := true, named := ["math/bits.deBruijn64tab"], apart := false, laid := [("math/bits.deBruijn64tab", laid_math_bits_deBruijn64tab)] }
def LevelsBuildSaid : Prop := levelsBuildRow.holds Tryd.pinned (OpenSpec.ofChange levelsBuildSpec)

/-- ITS FALSE NEIGHBOUR: 'it returns false'. Refute it at one input. -/
def levelsBuildWrong : ChangeSpec := { name := "levelsBuild", fn := fun _ => fun
  | [d1, d2] => { results := [.lit (.bool false)], args := [d1, d2] }
  | _ => none }
def LevelsBuildWrongFalsely : Prop := levelsBuildRow.holds Tryd.pinned (OpenSpec.ofChange levelsBuildWrong)

/-- 'quarrylaw10.LevelsWithin': WHATEVER THE INPUT: true; the input reads as it did. -/
def levelsWithinSpec : ChangeSpec := { name := "levelsWithin", fn := fun _ => fun
  | [d1, d2, d3] => { results := [.lit (.bool true)], args := [d1, d2, d3] }
  | _ => none }
def levelsWithinRow : OpenClaim := { program := "ytgddljealeklkaadoor", sum := "9c9b9dbf64b77c0e160d56b832581d60981dc66f0cf0c5aa59413e5e153641ae", func := "quarry/quarrylaw10.LevelsWithin", spec := "levelsWithin", unfollowed := true, recurses := true, named := ["math/bits.deBruijn64tab"], apart := false, laid := [("math/bits.deBruijn64tab", laid_math_bits_deBruijn64tab)] }
def LevelsWithinSaid : Prop := levelsWithinRow.holds Tryd.pinned (OpenSpec.ofChange levelsWithinSpec)

/-- ITS FALSE NEIGHBOUR: 'it returns false'. Refute it at one input. -/
def levelsWithinWrong : ChangeSpec := { name := "levelsWithin", fn := fun _ => fun
  | [d1, d2, d3] => { results := [.lit (.bool false)], args := [d1, d2, d3] }
  | _ => none }
def LevelsWithinWrongFalsely : Prop := levelsWithinRow.holds Tryd.pinned (OpenSpec.ofChange levelsWithinWrong)

/-- 'quarrylaw10.LevelsDepth': WHATEVER THE INPUT: true; the input reads as it did. -/
def levelsDepthSpec : ChangeSpec := { name := "levelsDepth", fn := fun _ => fun
  | [d1, d2] => { results := [.lit (.bool true)], args := [d1, d2] }
  | _ => none }
def levelsDepthRow : OpenClaim := { program := "ytgddljealeklkaadoor", sum := "9c9b9dbf64b77c0e160d56b832581d60981dc66f0cf0c5aa59413e5e153641ae", func := "quarry/quarrylaw10.LevelsDepth", spec := "levelsDepth", unfollowed := true, recurses := true, named := ["math/bits.deBruijn64tab"], apart := false, laid := [("math/bits.deBruijn64tab", laid_math_bits_deBruijn64tab)] }
def LevelsDepthSaid : Prop := levelsDepthRow.holds Tryd.pinned (OpenSpec.ofChange levelsDepthSpec)

/-- ITS FALSE NEIGHBOUR: 'it returns false'. Refute it at one input. -/
def levelsDepthWrong : ChangeSpec := { name := "levelsDepth", fn := fun _ => fun
  | [d1, d2] => { results := [.lit (.bool false)], args := [d1, d2] }
  | _ => none }
def LevelsDepthWrongFalsely : Prop := levelsDepthRow.holds Tryd.pinned (OpenSpec.ofChange levelsDepthWrong)

/-- 'quarrylaw10.LevelsSteps': WHATEVER THE INPUT: true; the input reads as it did. -/
def levelsStepsSpec : ChangeSpec := { name := "levelsSteps", fn := fun _ => fun
  | [d1, d2] => { results := [.lit (.bool true)], args := [d1, d2] }
  | _ => none }
def levelsStepsRow : OpenClaim := { program := "ytgddljealeklkaadoor", sum := "9c9b9dbf64b77c0e160d56b832581d60981dc66f0cf0c5aa59413e5e153641ae", func := "quarry/quarrylaw10.LevelsSteps", spec := "levelsSteps", unfollowed := true, recurses := true, named := ["math/bits.deBruijn64tab"], apart := false, laid := [("math/bits.deBruijn64tab", laid_math_bits_deBruijn64tab)] }
def LevelsStepsSaid : Prop := levelsStepsRow.holds Tryd.pinned (OpenSpec.ofChange levelsStepsSpec)

/-- ITS FALSE NEIGHBOUR: 'it returns false'. Refute it at one input. -/
def levelsStepsWrong : ChangeSpec := { name := "levelsSteps", fn := fun _ => fun
  | [d1, d2] => { results := [.lit (.bool false)], args := [d1, d2] }
  | _ => none }
def LevelsStepsWrongFalsely : Prop := levelsStepsRow.holds Tryd.pinned (OpenSpec.ofChange levelsStepsWrong)

/-- 'quarrylaw10.LevelsOwn': WHATEVER THE INPUT: true; the input reads as it did. -/
def levelsOwnSpec : ChangeSpec := { name := "levelsOwn", fn := fun _ => fun
  | [d1, d2] => { results := [.lit (.bool true)], args := [d1, d2] }
  | _ => none }
def levelsOwnRow : OpenClaim := { program := "ytgddljealeklkaadoor", sum := "9c9b9dbf64b77c0e160d56b832581d60981dc66f0cf0c5aa59413e5e153641ae", func := "quarry/quarrylaw10.LevelsOwn", spec := "levelsOwn", unfollowed := true, recurses := true, named := ["math/bits.deBruijn64tab"], apart := false, laid := [("math/bits.deBruijn64tab", laid_math_bits_deBruijn64tab)] }
def LevelsOwnSaid : Prop := levelsOwnRow.holds Tryd.pinned (OpenSpec.ofChange levelsOwnSpec)

/-- ITS FALSE NEIGHBOUR: 'it returns false'. Refute it at one input. -/
def levelsOwnWrong : ChangeSpec := { name := "levelsOwn", fn := fun _ => fun
  | [d1, d2] => { results := [.lit (.bool false)], args := [d1, d2] }
  | _ => none }
def LevelsOwnWrongFalsely : Prop := levelsOwnRow.holds Tryd.pinned (OpenSpec.ofChange levelsOwnWrong)

/-- 'quarrylaw10.LevelsKeeps': WHATEVER THE INPUT: true; the input reads as it did. -/
def levelsKeepsSpec : ChangeSpec := { name := "levelsKeeps", fn := fun _ => fun
  | [d1, d2, d3] => { results := [.lit (.bool true)], args := [d1, d2, d3] }
  | _ => none }
def levelsKeepsRow : OpenClaim := { program := "ytgddljealeklkaadoor", sum := "9c9b9dbf64b77c0e160d56b832581d60981dc66f0cf0c5aa59413e5e153641ae", func := "quarry/quarrylaw10.LevelsKeeps", spec := "levelsKeeps", unfollowed := true, recurses := true, named := ["math/bits.deBruijn64tab"], apart := false, laid := [("math/bits.deBruijn64tab", laid_math_bits_deBruijn64tab)] }
def LevelsKeepsSaid : Prop := levelsKeepsRow.holds Tryd.pinned (OpenSpec.ofChange levelsKeepsSpec)

/-- ITS FALSE NEIGHBOUR: 'it returns false'. Refute it at one input. -/
def levelsKeepsWrong : ChangeSpec := { name := "levelsKeeps", fn := fun _ => fun
  | [d1, d2, d3] => { results := [.lit (.bool false)], args := [d1, d2, d3] }
  | _ => none }
def LevelsKeepsWrongFalsely : Prop := levelsKeepsRow.holds Tryd.pinned (OpenSpec.ofChange levelsKeepsWrong)

/-- 'quarrylaw08.MarksJoins': WHATEVER THE INPUT: true; the input reads as it did. -/
def marksJoinsSpec : ChangeSpec := { name := "marksJoins", fn := fun _ => fun
  | [d1, d2] => { results := [.lit (.bool true)], args := [d1, d2] }
  | _ => none }
def marksJoinsRow : OpenClaim := { program := "ytgddljealeklkaadoor", sum := "9c9b9dbf64b77c0e160d56b832581d60981dc66f0cf0c5aa59413e5e153641ae", func := "quarry/quarrylaw08.MarksJoins", spec := "marksJoins", unfollowed := true, recurses := true, named := ["math/bits.deBruijn64tab"], apart := false, laid := [("math/bits.deBruijn64tab", laid_math_bits_deBruijn64tab)] }
def MarksJoinsSaid : Prop := marksJoinsRow.holds Tryd.pinned (OpenSpec.ofChange marksJoinsSpec)

/-- ITS FALSE NEIGHBOUR: 'it returns false'. Refute it at one input. -/
def marksJoinsWrong : ChangeSpec := { name := "marksJoins", fn := fun _ => fun
  | [d1, d2] => { results := [.lit (.bool false)], args := [d1, d2] }
  | _ => none }
def MarksJoinsWrongFalsely : Prop := marksJoinsRow.holds Tryd.pinned (OpenSpec.ofChange marksJoinsWrong)

/-- 'quarrylaw10.LevelsWrapped': WHATEVER THE INPUT: true; the input reads as it did. -/
def levelsWrappedSpec : ChangeSpec := { name := "levelsWrapped", fn := fun _ => fun
  | [d1, d2] => { results := [.lit (.bool true)], args := [d1, d2] }
  | _ => none }
def levelsWrappedRow : OpenClaim := { program := "ytgddljealeklkaadoor", sum := "9c9b9dbf64b77c0e160d56b832581d60981dc66f0cf0c5aa59413e5e153641ae", func := "quarry/quarrylaw10.LevelsWrapped", spec := "levelsWrapped", unfollowed := true, recurses := true, named := ["math/bits.deBruijn64tab"], apart := false, laid := [("math/bits.deBruijn64tab", laid_math_bits_deBruijn64tab)] }
def LevelsWrappedSaid : Prop := levelsWrappedRow.holds Tryd.pinned (OpenSpec.ofChange levelsWrappedSpec)

/-- ITS FALSE NEIGHBOUR: 'it returns false'. Refute it at one input. -/
def levelsWrappedWrong : ChangeSpec := { name := "levelsWrapped", fn := fun _ => fun
  | [d1, d2] => { results := [.lit (.bool false)], args := [d1, d2] }
  | _ => none }
def LevelsWrappedWrongFalsely : Prop := levelsWrappedRow.holds Tryd.pinned (OpenSpec.ofChange levelsWrappedWrong)

/- THE SECOND FORM. 'bulk': how many values and letters a reading holds, each counted each time it is reached (what is shared counts as often as it is met; a slice's spare places count too). A statement '..UptoSaid' is the law's where the arguments, and the package variables that the reading takes, are together of bulk at most 1048576: NARROWER than '..Said'. Prove '..Said' where nothing that the law and all that it calls make is longer than what came in: it says more and counts as full. Else prove '..UptoSaid'. A law counts once. -/
mutual
def uptoBulk {H : Type} : DataW H → Nat
  | .lit (.string bytes) => bytes.length + 1
  | .lit _ => 1
  | .nil => 1
  | .ptr d => uptoBulk d + 1
  | .slice elems spare => uptoBulkAll elems + uptoBulkAll spare + 1
  | .agg parts => uptoBulkAll parts + 1
  | .iface _ d => uptoBulk d + 1
  | .map entries => uptoBulkEntries entries + 1
  | .held _ => 1
def uptoBulkAll {H : Type} : List (DataW H) → Nat
  | [] => 0
  | d :: r => uptoBulk d + uptoBulkAll r
def uptoBulkEntries {H : Type} : List (Lit × DataW H) → Nat
  | [] => 0
  | x :: r => uptoBulkEntry x + uptoBulkEntries r
def uptoBulkEntry {H : Type} : Lit × DataW H → Nat
  | (.string bytes, d) => bytes.length + uptoBulk d + 1
  | (_, d) => uptoBulk d + 1
 end
def uptoSmall : (H : Type) → List (DataW H) → Bool := fun _ ds => decide (uptoBulkAll ds ≤ 1048576)
def OpenSpec.upto (s : _root_.Go.ChangeSpec) : _root_.Go.OpenSpec := { _root_.Go.OpenSpec.ofChange s with cond := some uptoSmall }

/-- 'quarrylaw08.MarksWords', WHERE WHAT IT READS IS OF BULK AT MOST 1048576: true; the input reads as it did. -/
def marksWordsUptoRow : OpenClaim := { program := "ytgddljealeklkaadoor", sum := "9c9b9dbf64b77c0e160d56b832581d60981dc66f0cf0c5aa59413e5e153641ae", func := "quarry/quarrylaw08.MarksWords", spec := "marksWords", unfollowed := true, recurses := true, named := ["math/bits.deBruijn64tab"], apart := false, laid := [("math/bits.deBruijn64tab", laid_math_bits_deBruijn64tab)], narrowed := true }
def MarksWordsUptoSaid : Prop := marksWordsUptoRow.holds Tryd.pinned (OpenSpec.upto marksWordsSpec)

/-- 'quarrylaw08.MarksParts', WHERE WHAT IT READS IS OF BULK AT MOST 1048576: true; the input reads as it did. -/
def marksPartsUptoRow : OpenClaim := { program := "ytgddljealeklkaadoor", sum := "9c9b9dbf64b77c0e160d56b832581d60981dc66f0cf0c5aa59413e5e153641ae", func := "quarry/quarrylaw08.MarksParts", spec := "marksParts", unfollowed := true, recurses := true, named := ["math/bits.deBruijn64tab"], apart := false, laid := [("math/bits.deBruijn64tab", laid_math_bits_deBruijn64tab)], narrowed := true }
def MarksPartsUptoSaid : Prop := marksPartsUptoRow.holds Tryd.pinned (OpenSpec.upto marksPartsSpec)

/-- 'quarrylaw10.LevelsLimits', WHERE WHAT IT READS IS OF BULK AT MOST 1048576: true; the input reads as it did. -/
def levelsLimitsUptoRow : OpenClaim := { program := "ytgddljealeklkaadoor", sum := "9c9b9dbf64b77c0e160d56b832581d60981dc66f0cf0c5aa59413e5e153641ae", func := "quarry/quarrylaw10.LevelsLimits", spec := "levelsLimits", unfollowed := true, recurses := true, named := ["math/bits.deBruijn64tab"], apart := false, laid := [("math/bits.deBruijn64tab", laid_math_bits_deBruijn64tab)], narrowed := true }
def LevelsLimitsUptoSaid : Prop := levelsLimitsUptoRow.holds Tryd.pinned (OpenSpec.upto levelsLimitsSpec)

/-- 'quarrylaw10.LevelsBuild', WHERE WHAT IT READS IS OF BULK AT MOST 1048576: true; the input reads as it did. -/
def levelsBuildUptoRow : OpenClaim := { program := "ytgddljealeklkaadoor", sum := "9c9b9dbf64b77c0e160d56b832581d60981dc66f0cf0c5aa59413e5e153641ae", func := "quarry/quarrylaw10.LevelsBuild", spec := "levelsBuild", unfollowed := true, recurses := true, named := ["math/bits.deBruijn64tab"], apart := false, laid := [("math/bits.deBruijn64tab", laid_math_bits_deBruijn64tab)], narrowed := true }
def LevelsBuildUptoSaid : Prop := levelsBuildUptoRow.holds Tryd.pinned (OpenSpec.upto levelsBuildSpec)

/-- 'quarrylaw10.LevelsWithin', WHERE WHAT IT READS IS OF BULK AT MOST 1048576: true; the input reads as it did. -/
def levelsWithinUptoRow : OpenClaim := { program := "ytgddljealeklkaadoor", sum := "9c9b9dbf64b77c0e160d56b832581d60981dc66f0cf0c5aa59413e5e153641ae", func := "quarry/quarrylaw10.LevelsWithin", spec := "levelsWithin", unfollowed := true, recurses := true, named := ["math/bits.deBruijn64tab"], apart := false, laid := [("math/bits.deBruijn64tab", laid_math_bits_deBruijn64tab)], narrowed := true }
def LevelsWithinUptoSaid : Prop := levelsWithinUptoRow.holds Tryd.pinned (OpenSpec.upto levelsWithinSpec)

/-- 'quarrylaw10.LevelsDepth', WHERE WHAT IT READS IS OF BULK AT MOST 1048576: true; the input reads as it did. -/
def levelsDepthUptoRow : OpenClaim := { program := "ytgddljealeklkaadoor", sum := "9c9b9dbf64b77c0e160d56b832581d60981dc66f0cf0c5aa59413e5e153641ae", func := "quarry/quarrylaw10.LevelsDepth", spec := "levelsDepth", unfollowed := true, recurses := true, named := ["math/bits.deBruijn64tab"], apart := false, laid := [("math/bits.deBruijn64tab", laid_math_bits_deBruijn64tab)], narrowed := true }
def LevelsDepthUptoSaid : Prop := levelsDepthUptoRow.holds Tryd.pinned (OpenSpec.upto levelsDepthSpec)

/-- 'quarrylaw10.LevelsSteps', WHERE WHAT IT READS IS OF BULK AT MOST 1048576: true; the input reads as it did. -/
def levelsStepsUptoRow : OpenClaim := { program := "ytgddljealeklkaadoor", sum := "9c9b9dbf64b77c0e160d56b832581d60981dc66f0cf0c5aa59413e5e153641ae", func := "quarry/quarrylaw10.LevelsSteps", spec := "levelsSteps", unfollowed := true, recurses := true, named := ["math/bits.deBruijn64tab"], apart := false, laid := [("math/bits.deBruijn64tab", laid_math_bits_deBruijn64tab)], narrowed := true }
def LevelsStepsUptoSaid : Prop := levelsStepsUptoRow.holds Tryd.pinned (OpenSpec.upto levelsStepsSpec)

/-- 'quarrylaw10.LevelsOwn', WHERE WHAT IT READS IS OF BULK AT MOST 1048576: true; the input reads as it did. -/
def levelsOwnUptoRow : OpenClaim := { program := "ytgddljealeklkaadoor", sum := "9c9b9dbf64b77c0e160d56b832581d60981dc66f0cf0c5aa59413e5e153641ae", func := "quarry/quarrylaw10.LevelsOwn", spec := "levelsOwn", unfollowed := true, recurses := true, named := ["math/bits.deBruijn64tab"], apart := false, laid := [("math/bits.deBruijn64tab", laid_math_bits_deBruijn64tab)], narrowed := true }
def LevelsOwnUptoSaid : Prop := levelsOwnUptoRow.holds Tryd.pinned (OpenSpec.upto levelsOwnSpec)

/-- 'quarrylaw10.LevelsKeeps', WHERE WHAT IT READS IS OF BULK AT MOST 1048576: true; the input reads as it did. -/
def levelsKeepsUptoRow : OpenClaim := { program := "ytgddljealeklkaadoor", sum := "9c9b9dbf64b77c0e160d56b832581d60981dc66f0cf0c5aa59413e5e153641ae", func := "quarry/quarrylaw10.LevelsKeeps", spec := "levelsKeeps", unfollowed := true, recurses := true, named := ["math/bits.deBruijn64tab"], apart := false, laid := [("math/bits.deBruijn64tab", laid_math_bits_deBruijn64tab)], narrowed := true }
def LevelsKeepsUptoSaid : Prop := levelsKeepsUptoRow.holds Tryd.pinned (OpenSpec.upto levelsKeepsSpec)

/-- 'quarrylaw08.MarksJoins', WHERE WHAT IT READS IS OF BULK AT MOST 1048576: true; the input reads as it did. -/
def marksJoinsUptoRow : OpenClaim := { program := "ytgddljealeklkaadoor", sum := "9c9b9dbf64b77c0e160d56b832581d60981dc66f0cf0c5aa59413e5e153641ae", func := "quarry/quarrylaw08.MarksJoins", spec := "marksJoins", unfollowed := true, recurses := true, named := ["math/bits.deBruijn64tab"], apart := false, laid := [("math/bits.deBruijn64tab", laid_math_bits_deBruijn64tab)], narrowed := true }
def MarksJoinsUptoSaid : Prop := marksJoinsUptoRow.holds Tryd.pinned (OpenSpec.upto marksJoinsSpec)

/-- 'quarrylaw10.LevelsWrapped', WHERE WHAT IT READS IS OF BULK AT MOST 1048576: true; the input reads as it did. -/
def levelsWrappedUptoRow : OpenClaim := { program := "ytgddljealeklkaadoor", sum := "9c9b9dbf64b77c0e160d56b832581d60981dc66f0cf0c5aa59413e5e153641ae", func := "quarry/quarrylaw10.LevelsWrapped", spec := "levelsWrapped", unfollowed := true, recurses := true, named := ["math/bits.deBruijn64tab"], apart := false, laid := [("math/bits.deBruijn64tab", laid_math_bits_deBruijn64tab)], narrowed := true }
def LevelsWrappedUptoSaid : Prop := levelsWrappedUptoRow.holds Tryd.pinned (OpenSpec.upto levelsWrappedSpec)

end Rows
end Go.Proofs.YtgddljealeklkaaDoor
