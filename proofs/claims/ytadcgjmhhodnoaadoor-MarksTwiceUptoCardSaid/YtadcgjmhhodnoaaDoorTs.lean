/-
  The shelf's words on the lowest set bit, for the texts of this seat.
-/
import Derived.Test.YtadcgjmhhodnoaaDoorProg
import Derived.Shelf.Spec.TrailingZeros
namespace Go.Proofs.YtadcgjmhhodnoaaDoorQ
end Go.Proofs.YtadcgjmhhodnoaaDoorQ
