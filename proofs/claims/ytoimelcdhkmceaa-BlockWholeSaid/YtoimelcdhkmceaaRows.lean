/-
  No cell of these rows narrows 'for every input' (looked for: loops, veiled, ifaces, maps, wideKeys, modest, calm, conditions, laid).
  DERIVED. THE GIVEN ROWS OF THIS SEAT. 12 by the template 'for every input the law returns true; each argument reads behind the call as it read before'; 0 by the template 'total and deterministic' (their statements: YtoimelcdhkmceaaTotals.lean).
  GIVEN WITH THE SEED: the statements are not yours to turn. If you find one false, say at which input.
  Laid BY PROGRAM, IN A SANDBOX (cutbox-rows.mjs): the forced cells as the released guide's own fill.sh prints them over the translation 5c679580a6863329… (all of the seat's roots in one cut). By AI agents, Wed Nov 11 2026. No macro, syntax, notation, axiom, sorry.
-/
import Derived.Test.YtoimelcdhkmceaaChecked
import GoSem.Claim
import GoSem.ClaimJoined
import GoSem.ClaimMapViews
import Derived.JoinedTies
import Derived.KernelRfl
namespace Go.Proofs.Ytoimelcdhkmceaa
/- THE CELL 'sum', in the pinned program and in every row, IS THE sha256 OF THE DUMP (.gsa) THAT YtoimelcdhkmceaaProg.lean LOADS. Nothing in Lean hashes anything: it is a label: what it is worth is what the hold of that sum in a sandbox is worth. -/
noncomputable def Try.pinned : Pinned := { name := "ytoimelcdhkmceaa", sum := "5c679580a686332989c3b475288960d6549537999e8c4a34b291cf1b5ce67006", checked := Try.checked }
namespace Rows
def none {H : Type} : Left H := { results := [], args := [] }

/-- 'quarrylaw06.EscapeOdds': WHATEVER THE INPUT: true; the input reads as it did. -/
def escapeOddsSpec : ChangeSpec := { name := "escapeOdds", fn := fun _ => fun
  | [d1, d2] => { results := [.lit (.bool true)], args := [d1, d2] }
  | _ => none }
def escapeOddsRow : OpenClaim := { program := "ytoimelcdhkmceaa", sum := "5c679580a686332989c3b475288960d6549537999e8c4a34b291cf1b5ce67006", func := "quarry/quarrylaw06.EscapeOdds", spec := "escapeOdds", apart := false }
def EscapeOddsSaid : Prop := escapeOddsRow.holds Try.pinned (OpenSpec.ofChange escapeOddsSpec)

/-- ITS FALSE NEIGHBOUR: 'it returns false'. Refute it at one input. -/
def escapeOddsWrong : ChangeSpec := { name := "escapeOdds", fn := fun _ => fun
  | [d1, d2] => { results := [.lit (.bool false)], args := [d1, d2] }
  | _ => none }
def EscapeOddsWrongFalsely : Prop := escapeOddsRow.holds Try.pinned (OpenSpec.ofChange escapeOddsWrong)

/-- 'quarrylaw06.EscapeBehinds': WHATEVER THE INPUT: true; the input reads as it did. -/
def escapeBehindsSpec : ChangeSpec := { name := "escapeBehinds", fn := fun _ => fun
  | [d1, d2] => { results := [.lit (.bool true)], args := [d1, d2] }
  | _ => none }
def escapeBehindsRow : OpenClaim := { program := "ytoimelcdhkmceaa", sum := "5c679580a686332989c3b475288960d6549537999e8c4a34b291cf1b5ce67006", func := "quarry/quarrylaw06.EscapeBehinds", spec := "escapeBehinds", apart := false }
def EscapeBehindsSaid : Prop := escapeBehindsRow.holds Try.pinned (OpenSpec.ofChange escapeBehindsSpec)

/-- ITS FALSE NEIGHBOUR: 'it returns false'. Refute it at one input. -/
def escapeBehindsWrong : ChangeSpec := { name := "escapeBehinds", fn := fun _ => fun
  | [d1, d2] => { results := [.lit (.bool false)], args := [d1, d2] }
  | _ => none }
def EscapeBehindsWrongFalsely : Prop := escapeBehindsRow.holds Try.pinned (OpenSpec.ofChange escapeBehindsWrong)

/-- 'quarrylaw02.BlockCuts': WHATEVER THE INPUT: true; the input reads as it did. -/
def blockCutsSpec : ChangeSpec := { name := "blockCuts", fn := fun _ => fun
  | [d1, d2, d3] => { results := [.lit (.bool true)], args := [d1, d2, d3] }
  | _ => none }
def blockCutsRow : OpenClaim := { program := "ytoimelcdhkmceaa", sum := "5c679580a686332989c3b475288960d6549537999e8c4a34b291cf1b5ce67006", func := "quarry/quarrylaw02.BlockCuts", spec := "blockCuts", apart := false }
def BlockCutsSaid : Prop := blockCutsRow.holds Try.pinned (OpenSpec.ofChange blockCutsSpec)

/-- ITS FALSE NEIGHBOUR: 'it returns false'. Refute it at one input. -/
def blockCutsWrong : ChangeSpec := { name := "blockCuts", fn := fun _ => fun
  | [d1, d2, d3] => { results := [.lit (.bool false)], args := [d1, d2, d3] }
  | _ => none }
def BlockCutsWrongFalsely : Prop := blockCutsRow.holds Try.pinned (OpenSpec.ofChange blockCutsWrong)

/-- 'quarrylaw02.BlockClasses': WHATEVER THE INPUT: true; the input reads as it did. -/
def blockClassesSpec : ChangeSpec := { name := "blockClasses", fn := fun _ => fun
  | [d] => { results := [.lit (.bool true)], args := [d] }
  | _ => none }
def blockClassesRow : OpenClaim := { program := "ytoimelcdhkmceaa", sum := "5c679580a686332989c3b475288960d6549537999e8c4a34b291cf1b5ce67006", func := "quarry/quarrylaw02.BlockClasses", spec := "blockClasses", apart := false }
def BlockClassesSaid : Prop := blockClassesRow.holds Try.pinned (OpenSpec.ofChange blockClassesSpec)

/-- ITS FALSE NEIGHBOUR: 'it returns false'. Refute it at one input. -/
def blockClassesWrong : ChangeSpec := { name := "blockClasses", fn := fun _ => fun
  | [d] => { results := [.lit (.bool false)], args := [d] }
  | _ => none }
def BlockClassesWrongFalsely : Prop := blockClassesRow.holds Try.pinned (OpenSpec.ofChange blockClassesWrong)

/-- 'quarrylaw02.BlockWalks': WHATEVER THE INPUT: true; the input reads as it did. -/
def blockWalksSpec : ChangeSpec := { name := "blockWalks", fn := fun _ => fun
  | [d1, d2, d3] => { results := [.lit (.bool true)], args := [d1, d2, d3] }
  | _ => none }
def blockWalksRow : OpenClaim := { program := "ytoimelcdhkmceaa", sum := "5c679580a686332989c3b475288960d6549537999e8c4a34b291cf1b5ce67006", func := "quarry/quarrylaw02.BlockWalks", spec := "blockWalks", unfollowed := true, recurses := true, apart := false }
def BlockWalksSaid : Prop := blockWalksRow.holds Try.pinned (OpenSpec.ofChange blockWalksSpec)

/-- ITS FALSE NEIGHBOUR: 'it returns false'. Refute it at one input. -/
def blockWalksWrong : ChangeSpec := { name := "blockWalks", fn := fun _ => fun
  | [d1, d2, d3] => { results := [.lit (.bool false)], args := [d1, d2, d3] }
  | _ => none }
def BlockWalksWrongFalsely : Prop := blockWalksRow.holds Try.pinned (OpenSpec.ofChange blockWalksWrong)

/-- 'quarrylaw02.BlockMasks': WHATEVER THE INPUT: true; the input reads as it did. -/
def blockMasksSpec : ChangeSpec := { name := "blockMasks", fn := fun _ => fun
  | [d1, d2, d3] => { results := [.lit (.bool true)], args := [d1, d2, d3] }
  | _ => none }
def blockMasksRow : OpenClaim := { program := "ytoimelcdhkmceaa", sum := "5c679580a686332989c3b475288960d6549537999e8c4a34b291cf1b5ce67006", func := "quarry/quarrylaw02.BlockMasks", spec := "blockMasks", apart := false }
def BlockMasksSaid : Prop := blockMasksRow.holds Try.pinned (OpenSpec.ofChange blockMasksSpec)

/-- ITS FALSE NEIGHBOUR: 'it returns false'. Refute it at one input. -/
def blockMasksWrong : ChangeSpec := { name := "blockMasks", fn := fun _ => fun
  | [d1, d2, d3] => { results := [.lit (.bool false)], args := [d1, d2, d3] }
  | _ => none }
def BlockMasksWrongFalsely : Prop := blockMasksRow.holds Try.pinned (OpenSpec.ofChange blockMasksWrong)

/-- 'quarrylaw02.BlockWhole': WHATEVER THE INPUT: true; the input reads as it did. -/
def blockWholeSpec : ChangeSpec := { name := "blockWhole", fn := fun _ => fun
  | [d1, d2] => { results := [.lit (.bool true)], args := [d1, d2] }
  | _ => none }
def blockWholeRow : OpenClaim := { program := "ytoimelcdhkmceaa", sum := "5c679580a686332989c3b475288960d6549537999e8c4a34b291cf1b5ce67006", func := "quarry/quarrylaw02.BlockWhole", spec := "blockWhole", unfollowed := true, recurses := true, apart := false }
def BlockWholeSaid : Prop := blockWholeRow.holds Try.pinned (OpenSpec.ofChange blockWholeSpec)

/-- ITS FALSE NEIGHBOUR: 'it returns false'. Refute it at one input. -/
def blockWholeWrong : ChangeSpec := { name := "blockWhole", fn := fun _ => fun
  | [d1, d2] => { results := [.lit (.bool false)], args := [d1, d2] }
  | _ => none }
def BlockWholeWrongFalsely : Prop := blockWholeRow.holds Try.pinned (OpenSpec.ofChange blockWholeWrong)

/-- 'quarrylaw02.BlockMakes': WHATEVER THE INPUT: true; the input reads as it did. -/
def blockMakesSpec : ChangeSpec := { name := "blockMakes", fn := fun _ => fun
  | [d1, d2, d3] => { results := [.lit (.bool true)], args := [d1, d2, d3] }
  | _ => none }
def blockMakesRow : OpenClaim := { program := "ytoimelcdhkmceaa", sum := "5c679580a686332989c3b475288960d6549537999e8c4a34b291cf1b5ce67006", func := "quarry/quarrylaw02.BlockMakes", spec := "blockMakes", apart := false }
def BlockMakesSaid : Prop := blockMakesRow.holds Try.pinned (OpenSpec.ofChange blockMakesSpec)

/-- ITS FALSE NEIGHBOUR: 'it returns false'. Refute it at one input. -/
def blockMakesWrong : ChangeSpec := { name := "blockMakes", fn := fun _ => fun
  | [d1, d2, d3] => { results := [.lit (.bool false)], args := [d1, d2, d3] }
  | _ => none }
def BlockMakesWrongFalsely : Prop := blockMakesRow.holds Try.pinned (OpenSpec.ofChange blockMakesWrong)

/-- 'quarrylaw02.BlockSets': WHATEVER THE INPUT: true; the input reads as it did. -/
def blockSetsSpec : ChangeSpec := { name := "blockSets", fn := fun _ => fun
  | [d] => { results := [.lit (.bool true)], args := [d] }
  | _ => none }
def blockSetsRow : OpenClaim := { program := "ytoimelcdhkmceaa", sum := "5c679580a686332989c3b475288960d6549537999e8c4a34b291cf1b5ce67006", func := "quarry/quarrylaw02.BlockSets", spec := "blockSets", apart := false }
def BlockSetsSaid : Prop := blockSetsRow.holds Try.pinned (OpenSpec.ofChange blockSetsSpec)

/-- ITS FALSE NEIGHBOUR: 'it returns false'. Refute it at one input. -/
def blockSetsWrong : ChangeSpec := { name := "blockSets", fn := fun _ => fun
  | [d] => { results := [.lit (.bool false)], args := [d] }
  | _ => none }
def BlockSetsWrongFalsely : Prop := blockSetsRow.holds Try.pinned (OpenSpec.ofChange blockSetsWrong)

/-- 'quarrylaw06.EscapeMarks': WHATEVER THE INPUT: true; the input reads as it did. -/
def escapeMarksSpec : ChangeSpec := { name := "escapeMarks", fn := fun _ => fun
  | [d] => { results := [.lit (.bool true)], args := [d] }
  | _ => none }
def escapeMarksRow : OpenClaim := { program := "ytoimelcdhkmceaa", sum := "5c679580a686332989c3b475288960d6549537999e8c4a34b291cf1b5ce67006", func := "quarry/quarrylaw06.EscapeMarks", spec := "escapeMarks", unfollowed := true, recurses := true, apart := false }
def EscapeMarksSaid : Prop := escapeMarksRow.holds Try.pinned (OpenSpec.ofChange escapeMarksSpec)

/-- ITS FALSE NEIGHBOUR: 'it returns false'. Refute it at one input. -/
def escapeMarksWrong : ChangeSpec := { name := "escapeMarks", fn := fun _ => fun
  | [d] => { results := [.lit (.bool false)], args := [d] }
  | _ => none }
def EscapeMarksWrongFalsely : Prop := escapeMarksRow.holds Try.pinned (OpenSpec.ofChange escapeMarksWrong)

/-- 'quarrylaw06.EscapeKeeps': WHATEVER THE INPUT: true; the input reads as it did. -/
def escapeKeepsSpec : ChangeSpec := { name := "escapeKeeps", fn := fun _ => fun
  | [d1, d2] => { results := [.lit (.bool true)], args := [d1, d2] }
  | _ => none }
def escapeKeepsRow : OpenClaim := { program := "ytoimelcdhkmceaa", sum := "5c679580a686332989c3b475288960d6549537999e8c4a34b291cf1b5ce67006", func := "quarry/quarrylaw06.EscapeKeeps", spec := "escapeKeeps", unfollowed := true, recurses := true, apart := false }
def EscapeKeepsSaid : Prop := escapeKeepsRow.holds Try.pinned (OpenSpec.ofChange escapeKeepsSpec)

/-- ITS FALSE NEIGHBOUR: 'it returns false'. Refute it at one input. -/
def escapeKeepsWrong : ChangeSpec := { name := "escapeKeeps", fn := fun _ => fun
  | [d1, d2] => { results := [.lit (.bool false)], args := [d1, d2] }
  | _ => none }
def EscapeKeepsWrongFalsely : Prop := escapeKeepsRow.holds Try.pinned (OpenSpec.ofChange escapeKeepsWrong)

/-- 'quarrylaw06.EscapeRows': WHATEVER THE INPUT: true; the input reads as it did. -/
def escapeRowsSpec : ChangeSpec := { name := "escapeRows", fn := fun _ => fun
  | [d] => { results := [.lit (.bool true)], args := [d] }
  | _ => none }
def escapeRowsRow : OpenClaim := { program := "ytoimelcdhkmceaa", sum := "5c679580a686332989c3b475288960d6549537999e8c4a34b291cf1b5ce67006", func := "quarry/quarrylaw06.EscapeRows", spec := "escapeRows", unfollowed := true, recurses := true, apart := false }
def EscapeRowsSaid : Prop := escapeRowsRow.holds Try.pinned (OpenSpec.ofChange escapeRowsSpec)

/-- ITS FALSE NEIGHBOUR: 'it returns false'. Refute it at one input. -/
def escapeRowsWrong : ChangeSpec := { name := "escapeRows", fn := fun _ => fun
  | [d] => { results := [.lit (.bool false)], args := [d] }
  | _ => none }
def EscapeRowsWrongFalsely : Prop := escapeRowsRow.holds Try.pinned (OpenSpec.ofChange escapeRowsWrong)

/- THE SECOND FORM. 'bulk': how many values and letters a reading holds, each counted each time it is reached (what is shared counts as often as it is met; a slice's spare places count too). A statement '..UptoSaid' is the law's where the arguments, and the package variables that the reading takes, are together of bulk at most 1048576: NARROWER than '..Said'. Prove '..Said' where nothing that the law and all that it calls make is longer than what came in: it says more and counts as full. Else prove '..UptoSaid'. A law counts once. -/
mutual
def uptoBulk {H : Type} : DataW H → Nat
  | .lit (.string bytes) => bytes.length + 1
  | .lit _ => 1
  | .nil => 1
  | .ptr d => uptoBulk d + 1
  | .slice elems spare => uptoBulkAll elems + uptoBulkAll spare + 1
  | .agg parts => uptoBulkAll parts + 1
  | .iface _ d => uptoBulk d + 1
  | .map entries => uptoBulkEntries entries + 1
  | .held _ => 1
def uptoBulkAll {H : Type} : List (DataW H) → Nat
  | [] => 0
  | d :: r => uptoBulk d + uptoBulkAll r
def uptoBulkEntries {H : Type} : List (Lit × DataW H) → Nat
  | [] => 0
  | x :: r => uptoBulkEntry x + uptoBulkEntries r
def uptoBulkEntry {H : Type} : Lit × DataW H → Nat
  | (.string bytes, d) => bytes.length + uptoBulk d + 1
  | (_, d) => uptoBulk d + 1
 end
def uptoSmall : (H : Type) → List (DataW H) → Bool := fun _ ds => decide (uptoBulkAll ds ≤ 1048576)
def OpenSpec.upto (s : _root_.Go.ChangeSpec) : _root_.Go.OpenSpec := { _root_.Go.OpenSpec.ofChange s with cond := some uptoSmall }

/-- 'quarrylaw06.EscapeOdds', WHERE WHAT IT READS IS OF BULK AT MOST 1048576: true; the input reads as it did. -/
def escapeOddsUptoRow : OpenClaim := { program := "ytoimelcdhkmceaa", sum := "5c679580a686332989c3b475288960d6549537999e8c4a34b291cf1b5ce67006", func := "quarry/quarrylaw06.EscapeOdds", spec := "escapeOdds", apart := false, narrowed := true }
def EscapeOddsUptoSaid : Prop := escapeOddsUptoRow.holds Try.pinned (OpenSpec.upto escapeOddsSpec)

/-- 'quarrylaw06.EscapeBehinds', WHERE WHAT IT READS IS OF BULK AT MOST 1048576: true; the input reads as it did. -/
def escapeBehindsUptoRow : OpenClaim := { program := "ytoimelcdhkmceaa", sum := "5c679580a686332989c3b475288960d6549537999e8c4a34b291cf1b5ce67006", func := "quarry/quarrylaw06.EscapeBehinds", spec := "escapeBehinds", apart := false, narrowed := true }
def EscapeBehindsUptoSaid : Prop := escapeBehindsUptoRow.holds Try.pinned (OpenSpec.upto escapeBehindsSpec)

/-- 'quarrylaw02.BlockCuts', WHERE WHAT IT READS IS OF BULK AT MOST 1048576: true; the input reads as it did. -/
def blockCutsUptoRow : OpenClaim := { program := "ytoimelcdhkmceaa", sum := "5c679580a686332989c3b475288960d6549537999e8c4a34b291cf1b5ce67006", func := "quarry/quarrylaw02.BlockCuts", spec := "blockCuts", apart := false, narrowed := true }
def BlockCutsUptoSaid : Prop := blockCutsUptoRow.holds Try.pinned (OpenSpec.upto blockCutsSpec)

/-- 'quarrylaw02.BlockClasses', WHERE WHAT IT READS IS OF BULK AT MOST 1048576: true; the input reads as it did. -/
def blockClassesUptoRow : OpenClaim := { program := "ytoimelcdhkmceaa", sum := "5c679580a686332989c3b475288960d6549537999e8c4a34b291cf1b5ce67006", func := "quarry/quarrylaw02.BlockClasses", spec := "blockClasses", apart := false, narrowed := true }
def BlockClassesUptoSaid : Prop := blockClassesUptoRow.holds Try.pinned (OpenSpec.upto blockClassesSpec)

/-- 'quarrylaw02.BlockWalks', WHERE WHAT IT READS IS OF BULK AT MOST 1048576: true; the input reads as it did. -/
def blockWalksUptoRow : OpenClaim := { program := "ytoimelcdhkmceaa", sum := "5c679580a686332989c3b475288960d6549537999e8c4a34b291cf1b5ce67006", func := "quarry/quarrylaw02.BlockWalks", spec := "blockWalks", unfollowed := true, recurses := true, apart := false, narrowed := true }
def BlockWalksUptoSaid : Prop := blockWalksUptoRow.holds Try.pinned (OpenSpec.upto blockWalksSpec)

/-- 'quarrylaw02.BlockMasks', WHERE WHAT IT READS IS OF BULK AT MOST 1048576: true; the input reads as it did. -/
def blockMasksUptoRow : OpenClaim := { program := "ytoimelcdhkmceaa", sum := "5c679580a686332989c3b475288960d6549537999e8c4a34b291cf1b5ce67006", func := "quarry/quarrylaw02.BlockMasks", spec := "blockMasks", apart := false, narrowed := true }
def BlockMasksUptoSaid : Prop := blockMasksUptoRow.holds Try.pinned (OpenSpec.upto blockMasksSpec)

/-- 'quarrylaw02.BlockWhole', WHERE WHAT IT READS IS OF BULK AT MOST 1048576: true; the input reads as it did. -/
def blockWholeUptoRow : OpenClaim := { program := "ytoimelcdhkmceaa", sum := "5c679580a686332989c3b475288960d6549537999e8c4a34b291cf1b5ce67006", func := "quarry/quarrylaw02.BlockWhole", spec := "blockWhole", unfollowed := true, recurses := true, apart := false, narrowed := true }
def BlockWholeUptoSaid : Prop := blockWholeUptoRow.holds Try.pinned (OpenSpec.upto blockWholeSpec)

/-- 'quarrylaw02.BlockMakes', WHERE WHAT IT READS IS OF BULK AT MOST 1048576: true; the input reads as it did. -/
def blockMakesUptoRow : OpenClaim := { program := "ytoimelcdhkmceaa", sum := "5c679580a686332989c3b475288960d6549537999e8c4a34b291cf1b5ce67006", func := "quarry/quarrylaw02.BlockMakes", spec := "blockMakes", apart := false, narrowed := true }
def BlockMakesUptoSaid : Prop := blockMakesUptoRow.holds Try.pinned (OpenSpec.upto blockMakesSpec)

/-- 'quarrylaw02.BlockSets', WHERE WHAT IT READS IS OF BULK AT MOST 1048576: true; the input reads as it did. -/
def blockSetsUptoRow : OpenClaim := { program := "ytoimelcdhkmceaa", sum := "5c679580a686332989c3b475288960d6549537999e8c4a34b291cf1b5ce67006", func := "quarry/quarrylaw02.BlockSets", spec := "blockSets", apart := false, narrowed := true }
def BlockSetsUptoSaid : Prop := blockSetsUptoRow.holds Try.pinned (OpenSpec.upto blockSetsSpec)

/-- 'quarrylaw06.EscapeMarks', WHERE WHAT IT READS IS OF BULK AT MOST 1048576: true; the input reads as it did. -/
def escapeMarksUptoRow : OpenClaim := { program := "ytoimelcdhkmceaa", sum := "5c679580a686332989c3b475288960d6549537999e8c4a34b291cf1b5ce67006", func := "quarry/quarrylaw06.EscapeMarks", spec := "escapeMarks", unfollowed := true, recurses := true, apart := false, narrowed := true }
def EscapeMarksUptoSaid : Prop := escapeMarksUptoRow.holds Try.pinned (OpenSpec.upto escapeMarksSpec)

/-- 'quarrylaw06.EscapeKeeps', WHERE WHAT IT READS IS OF BULK AT MOST 1048576: true; the input reads as it did. -/
def escapeKeepsUptoRow : OpenClaim := { program := "ytoimelcdhkmceaa", sum := "5c679580a686332989c3b475288960d6549537999e8c4a34b291cf1b5ce67006", func := "quarry/quarrylaw06.EscapeKeeps", spec := "escapeKeeps", unfollowed := true, recurses := true, apart := false, narrowed := true }
def EscapeKeepsUptoSaid : Prop := escapeKeepsUptoRow.holds Try.pinned (OpenSpec.upto escapeKeepsSpec)

/-- 'quarrylaw06.EscapeRows', WHERE WHAT IT READS IS OF BULK AT MOST 1048576: true; the input reads as it did. -/
def escapeRowsUptoRow : OpenClaim := { program := "ytoimelcdhkmceaa", sum := "5c679580a686332989c3b475288960d6549537999e8c4a34b291cf1b5ce67006", func := "quarry/quarrylaw06.EscapeRows", spec := "escapeRows", unfollowed := true, recurses := true, apart := false, narrowed := true }
def EscapeRowsUptoSaid : Prop := escapeRowsUptoRow.holds Try.pinned (OpenSpec.upto escapeRowsSpec)

end Rows
end Go.Proofs.Ytoimelcdhkmceaa
