/-
  No cell of these rows narrows 'for every input' (looked for: loops, veiled, ifaces, maps, wideKeys, modest, calm, conditions, laid).
  DERIVED. THE GIVEN ROWS OF THIS SEAT. 7 by the template 'for every input the law returns true; each argument reads behind the call as it read before'; 0 by the template 'total and deterministic' (their statements: YtifpahkgielocaaTotals.lean).
  GIVEN WITH THE SEED: the statements are not yours to turn. If you find one false, say at which input.
  Laid BY PROGRAM, IN A SANDBOX (cutbox-rows.mjs): the forced cells as the released guide's own fill.sh prints them over the translation 10ad6198fc529917… (all of the seat's roots in one cut). By AI agents, Wed Nov 11 2026. No macro, syntax, notation, axiom, sorry.
-/
import Derived.Test.YtifpahkgielocaaChecked
import GoSem.Claim
import GoSem.ClaimJoined
import GoSem.ClaimMapViews
import Derived.JoinedTies
import Derived.KernelRfl
namespace Go.Proofs.Ytifpahkgielocaa
/- THE CELL 'sum', in the pinned program and in every row, IS THE sha256 OF THE DUMP (.gsa) THAT YtifpahkgielocaaProg.lean LOADS. Nothing in Lean hashes anything: it is a label: what it is worth is what the hold of that sum in a sandbox is worth. -/
noncomputable def Try.pinned : Pinned := { name := "ytifpahkgielocaa", sum := "10ad6198fc529917d7dfa0b6792b8391991fd1eb12bd51daf0286ff3cee566fc", checked := Try.checked }
namespace Rows
def none {H : Type} : Left H := { results := [], args := [] }

/-- 'quarrylaw09.PiecesParts': WHATEVER THE INPUT: true; the input reads as it did. -/
def piecesPartsSpec : ChangeSpec := { name := "piecesParts", fn := fun _ => fun
  | [d1, d2] => { results := [.lit (.bool true)], args := [d1, d2] }
  | _ => none }
def piecesPartsRow : OpenClaim := { program := "ytifpahkgielocaa", sum := "10ad6198fc529917d7dfa0b6792b8391991fd1eb12bd51daf0286ff3cee566fc", func := "quarry/quarrylaw09.PiecesParts", spec := "piecesParts", apart := false }
def PiecesPartsSaid : Prop := piecesPartsRow.holds Try.pinned (OpenSpec.ofChange piecesPartsSpec)

/-- ITS FALSE NEIGHBOUR: 'it returns false'. Refute it at one input. -/
def piecesPartsWrong : ChangeSpec := { name := "piecesParts", fn := fun _ => fun
  | [d1, d2] => { results := [.lit (.bool false)], args := [d1, d2] }
  | _ => none }
def PiecesPartsWrongFalsely : Prop := piecesPartsRow.holds Try.pinned (OpenSpec.ofChange piecesPartsWrong)

/-- 'quarrylaw09.PiecesJoins': WHATEVER THE INPUT: true; the input reads as it did. -/
def piecesJoinsSpec : ChangeSpec := { name := "piecesJoins", fn := fun _ => fun
  | [d1, d2] => { results := [.lit (.bool true)], args := [d1, d2] }
  | _ => none }
def piecesJoinsRow : OpenClaim := { program := "ytifpahkgielocaa", sum := "10ad6198fc529917d7dfa0b6792b8391991fd1eb12bd51daf0286ff3cee566fc", func := "quarry/quarrylaw09.PiecesJoins", spec := "piecesJoins", apart := false }
def PiecesJoinsSaid : Prop := piecesJoinsRow.holds Try.pinned (OpenSpec.ofChange piecesJoinsSpec)

/-- ITS FALSE NEIGHBOUR: 'it returns false'. Refute it at one input. -/
def piecesJoinsWrong : ChangeSpec := { name := "piecesJoins", fn := fun _ => fun
  | [d1, d2] => { results := [.lit (.bool false)], args := [d1, d2] }
  | _ => none }
def PiecesJoinsWrongFalsely : Prop := piecesJoinsRow.holds Try.pinned (OpenSpec.ofChange piecesJoinsWrong)

/-- 'quarrylaw09.PiecesGroups': WHATEVER THE INPUT: true; the input reads as it did. -/
def piecesGroupsSpec : ChangeSpec := { name := "piecesGroups", fn := fun _ => fun
  | [d1, d2, d3] => { results := [.lit (.bool true)], args := [d1, d2, d3] }
  | _ => none }
def piecesGroupsRow : OpenClaim := { program := "ytifpahkgielocaa", sum := "10ad6198fc529917d7dfa0b6792b8391991fd1eb12bd51daf0286ff3cee566fc", func := "quarry/quarrylaw09.PiecesGroups", spec := "piecesGroups", apart := false }
def PiecesGroupsSaid : Prop := piecesGroupsRow.holds Try.pinned (OpenSpec.ofChange piecesGroupsSpec)

/-- ITS FALSE NEIGHBOUR: 'it returns false'. Refute it at one input. -/
def piecesGroupsWrong : ChangeSpec := { name := "piecesGroups", fn := fun _ => fun
  | [d1, d2, d3] => { results := [.lit (.bool false)], args := [d1, d2, d3] }
  | _ => none }
def PiecesGroupsWrongFalsely : Prop := piecesGroupsRow.holds Try.pinned (OpenSpec.ofChange piecesGroupsWrong)

/-- 'quarrylaw09.PiecesStates': WHATEVER THE INPUT: true; the input reads as it did. -/
def piecesStatesSpec : ChangeSpec := { name := "piecesStates", fn := fun _ => fun
  | [d] => { results := [.lit (.bool true)], args := [d] }
  | _ => none }
def piecesStatesRow : OpenClaim := { program := "ytifpahkgielocaa", sum := "10ad6198fc529917d7dfa0b6792b8391991fd1eb12bd51daf0286ff3cee566fc", func := "quarry/quarrylaw09.PiecesStates", spec := "piecesStates", unfollowed := true, recurses := true, leaving := true, apart := false }
def PiecesStatesSaid : Prop := piecesStatesRow.holds Try.pinned (OpenSpec.ofChange piecesStatesSpec)

/-- ITS FALSE NEIGHBOUR: 'it returns false'. Refute it at one input. -/
def piecesStatesWrong : ChangeSpec := { name := "piecesStates", fn := fun _ => fun
  | [d] => { results := [.lit (.bool false)], args := [d] }
  | _ => none }
def PiecesStatesWrongFalsely : Prop := piecesStatesRow.holds Try.pinned (OpenSpec.ofChange piecesStatesWrong)

/-- 'quarrylaw09.PiecesIndexes': WHATEVER THE INPUT: true; the input reads as it did. -/
def piecesIndexesSpec : ChangeSpec := { name := "piecesIndexes", fn := fun _ => fun
  | [d1, d2, d3] => { results := [.lit (.bool true)], args := [d1, d2, d3] }
  | _ => none }
def piecesIndexesRow : OpenClaim := { program := "ytifpahkgielocaa", sum := "10ad6198fc529917d7dfa0b6792b8391991fd1eb12bd51daf0286ff3cee566fc", func := "quarry/quarrylaw09.PiecesIndexes", spec := "piecesIndexes", inPlace := ["internal/bytealg.IndexByteString", "(*sync.WaitGroup).Add", "internal/race.ReleaseMerge", "internal/race.Disable", "internal/race.Enable", "internal/synctest.IsInBubble", "internal/synctest.Associate[sync.WaitGroup]", "sync.fatal", "sync/atomic.OrUint64", "sync/atomic.AddUint64", "internal/race.Read", "sync/atomic.LoadUint64", "sync/atomic.StoreUint64", "internal/synctest.Disassociate[sync.WaitGroup]", "sync.runtime_Semrelease", "(*sync.WaitGroup).Done", "(*sync.WaitGroup).Wait", "internal/race.Acquire", "internal/synctest.IsAssociated[sync.WaitGroup]", "sync/atomic.CompareAndSwapUint64", "internal/race.Write", "sync.runtime_SemacquireWaitGroup"], unfollowed := true, recurses := true, leaving := true, apart := false }
def PiecesIndexesSaid : Prop := piecesIndexesRow.holds Try.pinned (OpenSpec.ofChange piecesIndexesSpec)

/-- ITS FALSE NEIGHBOUR: 'it returns false'. Refute it at one input. -/
def piecesIndexesWrong : ChangeSpec := { name := "piecesIndexes", fn := fun _ => fun
  | [d1, d2, d3] => { results := [.lit (.bool false)], args := [d1, d2, d3] }
  | _ => none }
def PiecesIndexesWrongFalsely : Prop := piecesIndexesRow.holds Try.pinned (OpenSpec.ofChange piecesIndexesWrong)

/-- 'quarrylaw09.PiecesBads': WHATEVER THE INPUT: true; the input reads as it did. -/
def piecesBadsSpec : ChangeSpec := { name := "piecesBads", fn := fun _ => fun
  | [d1, d2, d3] => { results := [.lit (.bool true)], args := [d1, d2, d3] }
  | _ => none }
def piecesBadsRow : OpenClaim := { program := "ytifpahkgielocaa", sum := "10ad6198fc529917d7dfa0b6792b8391991fd1eb12bd51daf0286ff3cee566fc", func := "quarry/quarrylaw09.PiecesBads", spec := "piecesBads", inPlace := ["(*sync.WaitGroup).Add", "internal/race.ReleaseMerge", "internal/race.Disable", "internal/race.Enable", "internal/synctest.IsInBubble", "internal/synctest.Associate[sync.WaitGroup]", "sync.fatal", "sync/atomic.OrUint64", "sync/atomic.AddUint64", "internal/race.Read", "sync/atomic.LoadUint64", "sync/atomic.StoreUint64", "internal/synctest.Disassociate[sync.WaitGroup]", "sync.runtime_Semrelease", "(*sync.WaitGroup).Done", "(*sync.WaitGroup).Wait", "internal/race.Acquire", "internal/synctest.IsAssociated[sync.WaitGroup]", "sync/atomic.CompareAndSwapUint64", "internal/race.Write", "sync.runtime_SemacquireWaitGroup"], unfollowed := true, recurses := true, leaving := true, apart := false }
def PiecesBadsSaid : Prop := piecesBadsRow.holds Try.pinned (OpenSpec.ofChange piecesBadsSpec)

/-- ITS FALSE NEIGHBOUR: 'it returns false'. Refute it at one input. -/
def piecesBadsWrong : ChangeSpec := { name := "piecesBads", fn := fun _ => fun
  | [d1, d2, d3] => { results := [.lit (.bool false)], args := [d1, d2, d3] }
  | _ => none }
def PiecesBadsWrongFalsely : Prop := piecesBadsRow.holds Try.pinned (OpenSpec.ofChange piecesBadsWrong)

/-- 'quarrylaw09.PiecesKeeps': WHATEVER THE INPUT: true; the input reads as it did. -/
def piecesKeepsSpec : ChangeSpec := { name := "piecesKeeps", fn := fun _ => fun
  | [d1, d2, d3, d4] => { results := [.lit (.bool true)], args := [d1, d2, d3, d4] }
  | _ => none }
def piecesKeepsRow : OpenClaim := { program := "ytifpahkgielocaa", sum := "10ad6198fc529917d7dfa0b6792b8391991fd1eb12bd51daf0286ff3cee566fc", func := "quarry/quarrylaw09.PiecesKeeps", spec := "piecesKeeps", inPlace := ["internal/bytealg.IndexByteString", "(*sync.WaitGroup).Add", "internal/race.ReleaseMerge", "internal/race.Disable", "internal/race.Enable", "internal/synctest.IsInBubble", "internal/synctest.Associate[sync.WaitGroup]", "sync.fatal", "sync/atomic.OrUint64", "sync/atomic.AddUint64", "internal/race.Read", "sync/atomic.LoadUint64", "sync/atomic.StoreUint64", "internal/synctest.Disassociate[sync.WaitGroup]", "sync.runtime_Semrelease", "(*sync.WaitGroup).Done", "(*sync.WaitGroup).Wait", "internal/race.Acquire", "internal/synctest.IsAssociated[sync.WaitGroup]", "sync/atomic.CompareAndSwapUint64", "internal/race.Write", "sync.runtime_SemacquireWaitGroup"], unfollowed := true, recurses := true, leaving := true, apart := false }
def PiecesKeepsSaid : Prop := piecesKeepsRow.holds Try.pinned (OpenSpec.ofChange piecesKeepsSpec)

/-- ITS FALSE NEIGHBOUR: 'it returns false'. Refute it at one input. -/
def piecesKeepsWrong : ChangeSpec := { name := "piecesKeeps", fn := fun _ => fun
  | [d1, d2, d3, d4] => { results := [.lit (.bool false)], args := [d1, d2, d3, d4] }
  | _ => none }
def PiecesKeepsWrongFalsely : Prop := piecesKeepsRow.holds Try.pinned (OpenSpec.ofChange piecesKeepsWrong)

/- THE SECOND FORM. 'bulk': how many values and letters a reading holds, each counted each time it is reached (what is shared counts as often as it is met; a slice's spare places count too). A statement '..UptoSaid' is the law's where the arguments, and the package variables that the reading takes, are together of bulk at most 1048576: NARROWER than '..Said'. Prove '..Said' where nothing that the law and all that it calls make is longer than what came in: it says more and counts as full. Else prove '..UptoSaid'. A law counts once. -/
mutual
def uptoBulk {H : Type} : DataW H → Nat
  | .lit (.string bytes) => bytes.length + 1
  | .lit _ => 1
  | .nil => 1
  | .ptr d => uptoBulk d + 1
  | .slice elems spare => uptoBulkAll elems + uptoBulkAll spare + 1
  | .agg parts => uptoBulkAll parts + 1
  | .iface _ d => uptoBulk d + 1
  | .map entries => uptoBulkEntries entries + 1
  | .held _ => 1
def uptoBulkAll {H : Type} : List (DataW H) → Nat
  | [] => 0
  | d :: r => uptoBulk d + uptoBulkAll r
def uptoBulkEntries {H : Type} : List (Lit × DataW H) → Nat
  | [] => 0
  | x :: r => uptoBulkEntry x + uptoBulkEntries r
def uptoBulkEntry {H : Type} : Lit × DataW H → Nat
  | (.string bytes, d) => bytes.length + uptoBulk d + 1
  | (_, d) => uptoBulk d + 1
 end
def uptoSmall : (H : Type) → List (DataW H) → Bool := fun _ ds => decide (uptoBulkAll ds ≤ 1048576)
def OpenSpec.upto (s : _root_.Go.ChangeSpec) : _root_.Go.OpenSpec := { _root_.Go.OpenSpec.ofChange s with cond := some uptoSmall }

/-- 'quarrylaw09.PiecesParts', WHERE WHAT IT READS IS OF BULK AT MOST 1048576: true; the input reads as it did. -/
def piecesPartsUptoRow : OpenClaim := { program := "ytifpahkgielocaa", sum := "10ad6198fc529917d7dfa0b6792b8391991fd1eb12bd51daf0286ff3cee566fc", func := "quarry/quarrylaw09.PiecesParts", spec := "piecesParts", apart := false, narrowed := true }
def PiecesPartsUptoSaid : Prop := piecesPartsUptoRow.holds Try.pinned (OpenSpec.upto piecesPartsSpec)

/-- 'quarrylaw09.PiecesJoins', WHERE WHAT IT READS IS OF BULK AT MOST 1048576: true; the input reads as it did. -/
def piecesJoinsUptoRow : OpenClaim := { program := "ytifpahkgielocaa", sum := "10ad6198fc529917d7dfa0b6792b8391991fd1eb12bd51daf0286ff3cee566fc", func := "quarry/quarrylaw09.PiecesJoins", spec := "piecesJoins", apart := false, narrowed := true }
def PiecesJoinsUptoSaid : Prop := piecesJoinsUptoRow.holds Try.pinned (OpenSpec.upto piecesJoinsSpec)

/-- 'quarrylaw09.PiecesGroups', WHERE WHAT IT READS IS OF BULK AT MOST 1048576: true; the input reads as it did. -/
def piecesGroupsUptoRow : OpenClaim := { program := "ytifpahkgielocaa", sum := "10ad6198fc529917d7dfa0b6792b8391991fd1eb12bd51daf0286ff3cee566fc", func := "quarry/quarrylaw09.PiecesGroups", spec := "piecesGroups", apart := false, narrowed := true }
def PiecesGroupsUptoSaid : Prop := piecesGroupsUptoRow.holds Try.pinned (OpenSpec.upto piecesGroupsSpec)

/-- 'quarrylaw09.PiecesStates', WHERE WHAT IT READS IS OF BULK AT MOST 1048576: true; the input reads as it did. -/
def piecesStatesUptoRow : OpenClaim := { program := "ytifpahkgielocaa", sum := "10ad6198fc529917d7dfa0b6792b8391991fd1eb12bd51daf0286ff3cee566fc", func := "quarry/quarrylaw09.PiecesStates", spec := "piecesStates", unfollowed := true, recurses := true, leaving := true, apart := false, narrowed := true }
def PiecesStatesUptoSaid : Prop := piecesStatesUptoRow.holds Try.pinned (OpenSpec.upto piecesStatesSpec)

/-- 'quarrylaw09.PiecesIndexes', WHERE WHAT IT READS IS OF BULK AT MOST 1048576: true; the input reads as it did. -/
def piecesIndexesUptoRow : OpenClaim := { program := "ytifpahkgielocaa", sum := "10ad6198fc529917d7dfa0b6792b8391991fd1eb12bd51daf0286ff3cee566fc", func := "quarry/quarrylaw09.PiecesIndexes", spec := "piecesIndexes", inPlace := ["internal/bytealg.IndexByteString", "(*sync.WaitGroup).Add", "internal/race.ReleaseMerge", "internal/race.Disable", "internal/race.Enable", "internal/synctest.IsInBubble", "internal/synctest.Associate[sync.WaitGroup]", "sync.fatal", "sync/atomic.OrUint64", "sync/atomic.AddUint64", "internal/race.Read", "sync/atomic.LoadUint64", "sync/atomic.StoreUint64", "internal/synctest.Disassociate[sync.WaitGroup]", "sync.runtime_Semrelease", "(*sync.WaitGroup).Done", "(*sync.WaitGroup).Wait", "internal/race.Acquire", "internal/synctest.IsAssociated[sync.WaitGroup]", "sync/atomic.CompareAndSwapUint64", "internal/race.Write", "sync.runtime_SemacquireWaitGroup"], unfollowed := true, recurses := true, leaving := true, apart := false, narrowed := true }
def PiecesIndexesUptoSaid : Prop := piecesIndexesUptoRow.holds Try.pinned (OpenSpec.upto piecesIndexesSpec)

/-- 'quarrylaw09.PiecesBads', WHERE WHAT IT READS IS OF BULK AT MOST 1048576: true; the input reads as it did. -/
def piecesBadsUptoRow : OpenClaim := { program := "ytifpahkgielocaa", sum := "10ad6198fc529917d7dfa0b6792b8391991fd1eb12bd51daf0286ff3cee566fc", func := "quarry/quarrylaw09.PiecesBads", spec := "piecesBads", inPlace := ["(*sync.WaitGroup).Add", "internal/race.ReleaseMerge", "internal/race.Disable", "internal/race.Enable", "internal/synctest.IsInBubble", "internal/synctest.Associate[sync.WaitGroup]", "sync.fatal", "sync/atomic.OrUint64", "sync/atomic.AddUint64", "internal/race.Read", "sync/atomic.LoadUint64", "sync/atomic.StoreUint64", "internal/synctest.Disassociate[sync.WaitGroup]", "sync.runtime_Semrelease", "(*sync.WaitGroup).Done", "(*sync.WaitGroup).Wait", "internal/race.Acquire", "internal/synctest.IsAssociated[sync.WaitGroup]", "sync/atomic.CompareAndSwapUint64", "internal/race.Write", "sync.runtime_SemacquireWaitGroup"], unfollowed := true, recurses := true, leaving := true, apart := false, narrowed := true }
def PiecesBadsUptoSaid : Prop := piecesBadsUptoRow.holds Try.pinned (OpenSpec.upto piecesBadsSpec)

/-- 'quarrylaw09.PiecesKeeps', WHERE WHAT IT READS IS OF BULK AT MOST 1048576: true; the input reads as it did. -/
def piecesKeepsUptoRow : OpenClaim := { program := "ytifpahkgielocaa", sum := "10ad6198fc529917d7dfa0b6792b8391991fd1eb12bd51daf0286ff3cee566fc", func := "quarry/quarrylaw09.PiecesKeeps", spec := "piecesKeeps", inPlace := ["internal/bytealg.IndexByteString", "(*sync.WaitGroup).Add", "internal/race.ReleaseMerge", "internal/race.Disable", "internal/race.Enable", "internal/synctest.IsInBubble", "internal/synctest.Associate[sync.WaitGroup]", "sync.fatal", "sync/atomic.OrUint64", "sync/atomic.AddUint64", "internal/race.Read", "sync/atomic.LoadUint64", "sync/atomic.StoreUint64", "internal/synctest.Disassociate[sync.WaitGroup]", "sync.runtime_Semrelease", "(*sync.WaitGroup).Done", "(*sync.WaitGroup).Wait", "internal/race.Acquire", "internal/synctest.IsAssociated[sync.WaitGroup]", "sync/atomic.CompareAndSwapUint64", "internal/race.Write", "sync.runtime_SemacquireWaitGroup"], unfollowed := true, recurses := true, leaving := true, apart := false, narrowed := true }
def PiecesKeepsUptoSaid : Prop := piecesKeepsUptoRow.holds Try.pinned (OpenSpec.upto piecesKeepsSpec)

end Rows
end Go.Proofs.Ytifpahkgielocaa
