/-
  How many cells the seat's small arrays have.
-/
import Derived.Test.YtoimelcdhkmceaaProg
import Derived.Test.YtoimelcdhkmceaaQd
namespace Go.Proofs.YtoimelcdhkmceaaM
open Go Go.RowKit Go.Proofs.YtoimelcdhkmceaaQ
theorem size64 : (Try.prog.info? 26).map (·.size) = some (blkA fun _ => 0).size := by kernel_rfl
theorem size64' (f : Nat → Int) : (Try.prog.info? 26).map (·.size) = some (blkA f).size := by rw [size64, blkA_size, blkA_size]
theorem sizeC' (p : Nat → Bool) : (Try.prog.info? 33).map (·.size) = some (clsA p).size := by
  rw [clsA_size]
  kernel_rfl
theorem size4' (p : Nat → Bool) : (Try.prog.info? 31).map (·.size) = some (clsA p).size := by
  rw [clsA_size]
  kernel_rfl
end Go.Proofs.YtoimelcdhkmceaaM
