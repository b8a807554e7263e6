/-
  BlockCuts: the walk tells all; nothing is left to say.
-/
import Derived.Test.YtoimelcdhkmceaaPCx1
namespace Go.Proofs.Ytoimelcdhkmceaa.Pure
open Go.RowKit Go.Proofs.Ytoimelcdhkmceaa.PC

theorem BlockCuts : quarrylaw02_BlockCuts.Pure := trivial

end Go.Proofs.Ytoimelcdhkmceaa.Pure
