/-
  QuotesTexts: for every text of at most 1048576 bytes, and every whole number: the walk tells all (the plain law stands beside it).
-/
import Derived.Test.YtadcgjmhhodnoaaDoorPDx5
namespace Go.Proofs.YtadcgjmhhodnoaaDoor.Pure
open Go Go.RowKit Go.Proofs.YtadcgjmhhodnoaaDoor.PD Go.Proofs.YtadcgjmhhodnoaaDoorW.PrintWords Go.Proofs.YtadcgjmhhodnoaaDoorW.PrintLast Go.Proofs.YtadcgjmhhodnoaaDoorQ
set_option linter.unusedVariables false
set_option linter.unusedSimpArgs false
theorem QuotesTexts (s : ByteArray) (n : Int) (hn : s.size ≤ 1048576) (_ : (Lit.int .i64 n).wf = true) : quarrylaw07_QuotesTexts.f s n = some true := by
  unfold quarrylaw07_QuotesTexts.f
  rw [if_pos hn]

end Go.Proofs.YtadcgjmhhodnoaaDoor.Pure
