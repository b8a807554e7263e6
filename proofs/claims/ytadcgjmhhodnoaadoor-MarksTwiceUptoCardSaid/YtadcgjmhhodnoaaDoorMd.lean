/-
  How many cells the seat's small arrays have.
-/
import Derived.Test.YtadcgjmhhodnoaaDoorProg
import Derived.Test.YtadcgjmhhodnoaaDoorQd
import Derived.Test.YtadcgjmhhodnoaaDoorWEqStruct
namespace Go.Proofs.YtadcgjmhhodnoaaDoorM
open Go Go.RowKit Go.Proofs.YtadcgjmhhodnoaaDoorQ Go.Proofs.YtadcgjmhhodnoaaDoorW.PrintWords
theorem size64 : (Tryd.prog.info? 79).map (·.size) = some (blkA fun _ => 0).size := by kernel_rfl
theorem size64' (f : Nat → Int) : (Tryd.prog.info? 79).map (·.size) = some (blkA f).size := by rw [size64, blkA_size, blkA_size]
theorem sizeC' (p : Nat → Bool) : (Tryd.prog.info? 90).map (·.size) = some (clsA p).size := by
  rw [clsA_size]
  kernel_rfl
theorem size4' (p : Nat → Bool) : (Tryd.prog.info? 88).map (·.size) = some (clsA p).size := by
  rw [clsA_size]
  kernel_rfl
theorem partC (p : Nat → Bool) (w : World) : (part 88 (clsA p) 0).run Tryd.prog w = .ok (.agg (clsA p)) w := by
  simp [part, isAgg, run_underlying Tryd.underlying88, clsA_lit]
theorem fieldC (p : Nat → Bool) (w : World) : (Instr.field 90 (.agg (clsA p)) 0).run Tryd.prog w = .ok (.agg (clsA p)) w := by
  simp [Instr.field, run_underlying Tryd.underlying90, asAgg, partC]
theorem indexC (p : Nat → Bool) {i : Nat} (hi : i < 4) (w : World) : (Instr.index 88 (.agg (clsA p)) (.int .i64 (i : Int))).run Tryd.prog w = .ok (.int .u64 (iv (clsW p i))) w :=
  run_index_arr (P := Tryd.prog) Tryd.underlying88 (by kernel_rfl) (by kernel_rfl) (by kernel_rfl) hi (clsA_get p hi) .i64 w
/-- '==' of classes. -/
theorem eqCls (p q : Nat → Bool) (w : World) : (Op.equalIn 10000 90 (.agg (clsA p)) (.agg (clsA q))).run Tryd.prog w = .ok ((List.range 4).all fun j => iv (clsW p j) == iv (clsW q j)) w :=
  eqA_of Tryd.underlying90 (by kernel_rfl) (eqf_last rfl (partC p w) (partC q w)
    (run_eqArr (P := Tryd.prog) Tryd.underlying88 (by kernel_rfl) (by kernel_rfl) Tryd.underlying64 (fun j => iv (clsW p j)) (fun j => iv (clsW q j)) (fun _ hj => clsA_get _ hj) (fun _ hj => clsA_get _ hj) 9997 w))
theorem eqCls_same (p : Nat → Bool) (w : World) : (Op.equalIn 10000 90 (.agg (clsA p)) (.agg (clsA p))).run Tryd.prog w = .ok true w := by
  rw [eqCls, all_eq_true fun _ _ => rfl]
end Go.Proofs.YtadcgjmhhodnoaaDoorM
