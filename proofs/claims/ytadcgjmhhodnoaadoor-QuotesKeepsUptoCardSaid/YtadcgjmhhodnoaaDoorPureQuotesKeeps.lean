/-
  QuotesKeeps: for every two texts of at most 1048576 bytes together: the walk tells all.
-/
import Derived.Test.YtadcgjmhhodnoaaDoorPQx4
namespace Go.Proofs.YtadcgjmhhodnoaaDoor.Pure
open Go Go.RowKit Go.Proofs.YtadcgjmhhodnoaaDoor.PQ Go.Proofs.YtadcgjmhhodnoaaDoorW.PrintWords Go.Proofs.YtadcgjmhhodnoaaDoorW.PrintLast Go.Proofs.YtadcgjmhhodnoaaDoorQ
set_option linter.unusedVariables false
set_option linter.unusedSimpArgs false
theorem QuotesKeeps (s t : ByteArray) (hn : s.size + t.size ≤ 1048576) : quarrylaw07_QuotesKeeps.f s t = some true := by
  unfold quarrylaw07_QuotesKeeps.f
  rw [if_pos ⟨by omega, by omega⟩]

end Go.Proofs.YtadcgjmhhodnoaaDoor.Pure
