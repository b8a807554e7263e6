/-
  How many cells the seat's small arrays have.
-/
import Derived.Test.YtifpahkgielocaaProg
import Derived.Test.YtifpahkgielocaaQd
import Derived.Test.YtifpahkgielocaaWEqStruct
namespace Go.Proofs.YtifpahkgielocaaM
open Go Go.RowKit Go.Proofs.YtifpahkgielocaaQ Go.Proofs.YtifpahkgielocaaW.PrintWords
theorem size64 : (Try.prog.info? 80).map (·.size) = some (blkA fun _ => 0).size := by kernel_rfl
theorem size64' (f : Nat → Int) : (Try.prog.info? 80).map (·.size) = some (blkA f).size := by rw [size64, blkA_size, blkA_size]
end Go.Proofs.YtifpahkgielocaaM
