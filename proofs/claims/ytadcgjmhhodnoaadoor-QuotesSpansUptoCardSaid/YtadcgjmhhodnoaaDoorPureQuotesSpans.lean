/-
  QuotesSpans: for every text of at most 1048576 bytes: the walk tells all (the plain law stands beside it).
-/
import Derived.Test.YtadcgjmhhodnoaaDoorPSx4
namespace Go.Proofs.YtadcgjmhhodnoaaDoor.Pure
open Go Go.RowKit Go.Proofs.YtadcgjmhhodnoaaDoor.PS Go.Proofs.YtadcgjmhhodnoaaDoorW.PrintWords Go.Proofs.YtadcgjmhhodnoaaDoorW.PrintLast Go.Proofs.YtadcgjmhhodnoaaDoorQ
set_option linter.unusedVariables false
set_option linter.unusedSimpArgs false
theorem QuotesSpans (s : ByteArray) (hn : s.size ≤ 1048576) : quarrylaw07_QuotesSpans.f s = some true := by
  unfold quarrylaw07_QuotesSpans.f
  rw [if_pos hn]

end Go.Proofs.YtadcgjmhhodnoaaDoor.Pure
