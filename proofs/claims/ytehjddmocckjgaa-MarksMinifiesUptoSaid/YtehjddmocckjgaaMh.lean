/-
  A bitmap by value: its fields.
-/
import Derived.Test.YtehjddmocckjgaaProg
import Derived.Tactics
import Derived.WalkKit
import Derived.KernelRfl
namespace Go.Proofs.YtehjddmocckjgaaM
open Go Go.RowKit
theorem fieldBits0 (t : Int) (v : Value) (w : World) : (Instr.field 24 (.agg #[.int .i64 t, v]) 0).run Try.prog w = .ok (.int .i64 t) w := by
  have h1 : (isAgg 3).run Try.prog w = .ok false w := by simp [isAgg, run_underlying Try.underlying3]
  simp [Instr.field, run_underlying Try.underlying24, asAgg, part, h1]
theorem fieldBits1 (t : Int) (v : Value) (w : World) : (Instr.field 24 (.agg #[.int .i64 t, v]) 1).run Try.prog w = .ok v w := by
  have h1 : (isAgg 22).run Try.prog w = .ok false w := by simp [isAgg, run_underlying Try.underlying22]
  simp [Instr.field, run_underlying Try.underlying24, asAgg, part, h1]
end Go.Proofs.YtehjddmocckjgaaM
