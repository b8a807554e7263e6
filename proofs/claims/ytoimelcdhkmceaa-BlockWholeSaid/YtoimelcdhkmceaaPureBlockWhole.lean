/-
  BlockWhole: the walk tells all; nothing is left to say.
-/
import Derived.Test.YtoimelcdhkmceaaPHx2
namespace Go.Proofs.Ytoimelcdhkmceaa.Pure
open Go.RowKit Go.Proofs.Ytoimelcdhkmceaa.PH Go.Proofs.YtoimelcdhkmceaaW.PrintWords Go.Proofs.YtoimelcdhkmceaaW.PrintLast

theorem BlockWhole : quarrylaw02_BlockWhole.Pure := trivial

end Go.Proofs.Ytoimelcdhkmceaa.Pure
