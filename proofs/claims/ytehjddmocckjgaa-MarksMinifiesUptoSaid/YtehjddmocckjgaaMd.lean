/-
  How many cells the seat's small arrays have.
-/
import Derived.Test.YtehjddmocckjgaaProg
import Derived.Test.YtehjddmocckjgaaQd
import Derived.Test.YtehjddmocckjgaaWEqStruct
namespace Go.Proofs.YtehjddmocckjgaaM
open Go Go.RowKit Go.Proofs.YtehjddmocckjgaaQ Go.Proofs.YtehjddmocckjgaaW.PrintWords
theorem size64 : (Try.prog.info? 52).map (·.size) = some (blkA fun _ => 0).size := by kernel_rfl
theorem size64' (f : Nat → Int) : (Try.prog.info? 52).map (·.size) = some (blkA f).size := by rw [size64, blkA_size, blkA_size]
theorem sizeC' (p : Nat → Bool) : (Try.prog.info? 46).map (·.size) = some (clsA p).size := by
  rw [clsA_size]
  kernel_rfl
theorem size4' (p : Nat → Bool) : (Try.prog.info? 44).map (·.size) = some (clsA p).size := by
  rw [clsA_size]
  kernel_rfl
theorem partC (p : Nat → Bool) (w : World) : (part 44 (clsA p) 0).run Try.prog w = .ok (.agg (clsA p)) w := by
  simp [part, isAgg, run_underlying Try.underlying44, clsA_lit]
theorem fieldC (p : Nat → Bool) (w : World) : (Instr.field 46 (.agg (clsA p)) 0).run Try.prog w = .ok (.agg (clsA p)) w := by
  simp [Instr.field, run_underlying Try.underlying46, asAgg, partC]
theorem indexC (p : Nat → Bool) {i : Nat} (hi : i < 4) (w : World) : (Instr.index 44 (.agg (clsA p)) (.int .i64 (i : Int))).run Try.prog w = .ok (.int .u64 (iv (clsW p i))) w :=
  run_index_arr (P := Try.prog) Try.underlying44 (by kernel_rfl) (by kernel_rfl) (by kernel_rfl) hi (clsA_get p hi) .i64 w
/-- '==' of classes. -/
theorem eqCls (p q : Nat → Bool) (w : World) : (Op.equalIn 10000 46 (.agg (clsA p)) (.agg (clsA q))).run Try.prog w = .ok ((List.range 4).all fun j => iv (clsW p j) == iv (clsW q j)) w :=
  eqA_of Try.underlying46 (by kernel_rfl) (eqf_last rfl (partC p w) (partC q w)
    (run_eqArr (P := Try.prog) Try.underlying44 (by kernel_rfl) (by kernel_rfl) Try.underlying26 (fun j => iv (clsW p j)) (fun j => iv (clsW q j)) (fun _ hj => clsA_get _ hj) (fun _ hj => clsA_get _ hj) 9997 w))
theorem eqCls_same (p : Nat → Bool) (w : World) : (Op.equalIn 10000 46 (.agg (clsA p)) (.agg (clsA p))).run Try.prog w = .ok true w := by
  rw [eqCls, all_eq_true fun _ _ => rfl]
end Go.Proofs.YtehjddmocckjgaaM
