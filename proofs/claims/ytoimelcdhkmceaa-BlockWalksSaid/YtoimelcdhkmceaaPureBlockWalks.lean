/-
  BlockWalks: the walk tells all; nothing is left to say.
-/
import Derived.Test.YtoimelcdhkmceaaPWx1
namespace Go.Proofs.Ytoimelcdhkmceaa.Pure
open Go.RowKit Go.Proofs.Ytoimelcdhkmceaa.PW

theorem BlockWalks : quarrylaw02_BlockWalks.Pure := trivial

end Go.Proofs.Ytoimelcdhkmceaa.Pure
