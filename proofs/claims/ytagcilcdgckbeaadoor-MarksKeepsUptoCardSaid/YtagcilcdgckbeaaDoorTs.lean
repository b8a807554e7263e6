/-
  The shelf's words on the lowest set bit, for the texts of this seat.
-/
import Derived.Test.YtagcilcdgckbeaaDoorProg
import Derived.Shelf.Spec.TrailingZeros
namespace Go.Proofs.YtagcilcdgckbeaaDoorQ
end Go.Proofs.YtagcilcdgckbeaaDoorQ
