/-
  A bitmap by value: its fields.
-/
import Derived.Test.YtadcgjmhhodnoaaDoorProg
import Derived.Tactics
import Derived.WalkKit
import Derived.KernelRfl
namespace Go.Proofs.YtadcgjmhhodnoaaDoorM
open Go Go.RowKit
theorem fieldBits0 (t : Int) (v : Value) (w : World) : (Instr.field 38 (.agg #[.int .i64 t, v]) 0).run Tryd.prog w = .ok (.int .i64 t) w := by
  have h1 : (isAgg 3).run Tryd.prog w = .ok false w := by simp [isAgg, run_underlying Tryd.underlying3]
  simp [Instr.field, run_underlying Tryd.underlying38, asAgg, part, h1]
theorem fieldBits1 (t : Int) (v : Value) (w : World) : (Instr.field 38 (.agg #[.int .i64 t, v]) 1).run Tryd.prog w = .ok v w := by
  have h1 : (isAgg 36).run Tryd.prog w = .ok false w := by simp [isAgg, run_underlying Tryd.underlying36]
  simp [Instr.field, run_underlying Tryd.underlying38, asAgg, part, h1]
end Go.Proofs.YtadcgjmhhodnoaaDoorM
