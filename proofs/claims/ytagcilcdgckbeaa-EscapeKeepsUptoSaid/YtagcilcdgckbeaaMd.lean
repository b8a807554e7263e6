/-
  How many cells the seat's small arrays have.
-/
import Derived.Test.YtagcilcdgckbeaaProg
import Derived.Test.YtagcilcdgckbeaaQd
import Derived.Test.YtagcilcdgckbeaaWEqStruct
namespace Go.Proofs.YtagcilcdgckbeaaM
open Go Go.RowKit Go.Proofs.YtagcilcdgckbeaaQ Go.Proofs.YtagcilcdgckbeaaW.PrintWords
theorem size64 : (Try.prog.info? 34).map (·.size) = some (blkA fun _ => 0).size := by kernel_rfl
theorem size64' (f : Nat → Int) : (Try.prog.info? 34).map (·.size) = some (blkA f).size := by rw [size64, blkA_size, blkA_size]
end Go.Proofs.YtagcilcdgckbeaaM
