/-
  PiecesGroups: the walk tells all; nothing is left to say.
-/
import Derived.Test.YtifpahkgielocaaPGx2
namespace Go.Proofs.Ytifpahkgielocaa.Pure
open Go.RowKit Go.Proofs.Ytifpahkgielocaa.PG

theorem PiecesGroups : quarrylaw09_PiecesGroups.Pure := trivial

end Go.Proofs.Ytifpahkgielocaa.Pure
