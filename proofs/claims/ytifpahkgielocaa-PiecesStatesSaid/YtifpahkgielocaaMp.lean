/-
  How many cells the seat's Parts have; '==' of them.
-/
import Derived.Test.YtifpahkgielocaaProg
import Derived.Test.YtifpahkgielocaaQe
import Derived.Test.YtifpahkgielocaaWEqStruct
namespace Go.Proofs.YtifpahkgielocaaM
open Go Go.RowKit Go.Proofs.YtifpahkgielocaaQ Go.Proofs.YtifpahkgielocaaW.PrintWords
theorem sizeP' (o : Nat → Bool) (u : Nat → Int) : (Try.prog.info? 25).map (·.size) = some (partA o u).size := by
  rw [partA_size]
  kernel_rfl
/-- '==' of [2]bool, of Part. -/
theorem eqB2 (d : Nat) (a b a' b' : Bool) (w : World) : (Op.equalIn (d + 2) 22 (.agg #[.bool a, .bool b]) (.agg #[.bool a', .bool b'])).run Try.prog w = .ok ((a == a') && (b == b')) w := by
  obtain ⟨i, hi⟩ := Option.isSome_iff_exists.mp (show (Try.prog.info? 4).isSome = true by kernel_rfl)
  rw [run_equalIn_array w (d + 1) _ _ Try.underlying22 hi, show Try.prog.cellsOf 4 = 1 by kernel_rfl]
  have hp : Try.prog.plainKey 4 = true := by kernel_rfl
  have h1 := run_part_plain w hp (xs := #[.bool a, .bool b]) (off := 0) (v := .bool a) rfl
  have h2 := run_part_plain w hp (xs := #[.bool a, .bool b]) (off := 1) (v := .bool b) rfl
  have h3 := run_part_plain w hp (xs := #[.bool a', .bool b']) (off := 0) (v := .bool a') rfl
  have h4 := run_part_plain w hp (xs := #[.bool a', .bool b']) (off := 1) (v := .bool b') rfl
  have h5 := fun x y => run_equalIn_bool' (P := Try.prog) w d 4 x y Try.underlying4
  rw [show List.range 2 = [0, 1] from rfl]
  simp only [Op.eqItems, Sem.run_bind, Nat.zero_mul, Nat.one_mul, h1, h3, h5, Result.andThen_ok]
  cases g : (a == a') <;> cases g' : (b == b') <;> simp [h2, h4, h5, g']
theorem eqI2 (d : Nat) (a b a' b' : Int) (w : World) : (Op.equalIn (d + 2) 23 (.agg #[.int .i64 a, .int .i64 b]) (.agg #[.int .i64 a', .int .i64 b'])).run Try.prog w = .ok ((a == a') && (b == b')) w := by
  obtain ⟨i, hi⟩ := Option.isSome_iff_exists.mp (show (Try.prog.info? 3).isSome = true by kernel_rfl)
  rw [run_equalIn_array w (d + 1) _ _ Try.underlying23 hi, show Try.prog.cellsOf 3 = 1 by kernel_rfl]
  have hp : Try.prog.plainKey 3 = true := by kernel_rfl
  have h1 := run_part_plain w hp (xs := #[.int .i64 a, .int .i64 b]) (off := 0) (v := .int .i64 a) rfl
  have h2 := run_part_plain w hp (xs := #[.int .i64 a, .int .i64 b]) (off := 1) (v := .int .i64 b) rfl
  have h3 := run_part_plain w hp (xs := #[.int .i64 a', .int .i64 b']) (off := 0) (v := .int .i64 a') rfl
  have h4 := run_part_plain w hp (xs := #[.int .i64 a', .int .i64 b']) (off := 1) (v := .int .i64 b') rfl
  have h5 := fun x y => run_equalIn_int (P := Try.prog) w d 3 .i64 .i64 x y Try.underlying3
  rw [show List.range 2 = [0, 1] from rfl]
  simp only [Op.eqItems, Sem.run_bind, Nat.zero_mul, Nat.one_mul, h1, h3, h5, Result.andThen_ok]
  cases g : (a == a') <;> cases g' : (b == b') <;> simp [h2, h4, h5, g']
theorem partOdd (o : Nat → Bool) (u : Nat → Int) (w : World) : (part 22 (partA o u) 0).run Try.prog w = .ok (.agg #[.bool (o 0), .bool (o 1)]) w := by
  simp [part, isAgg, run_underlying Try.underlying22, partA]
theorem partOut (o : Nat → Bool) (u : Nat → Int) (w : World) : (part 23 (partA o u) 2).run Try.prog w = .ok (.agg #[.int .i64 (u 0), .int .i64 (u 1)]) w := by
  simp [part, isAgg, run_underlying Try.underlying23, partA]
theorem eqPart (o : Nat → Bool) (u : Nat → Int) (o' : Nat → Bool) (u' : Nat → Int) (w : World) : (Op.equalIn 10000 25 (.agg (partA o u)) (.agg (partA o' u'))).run Try.prog w = .ok (peq o u o' u') w := by
  refine eqA_of Try.underlying25 (by kernel_rfl) ?_
  exact eqf_cons rfl (partOdd o u w) (partOdd o' u' w) (eqB2 9997 _ _ _ _ w) (eqf_last rfl (partOut o u w) (partOut o' u' w) (eqI2 9997 _ _ _ _ w))
theorem sizeI2 (a b : Value) : (Try.prog.info? 23).map (·.size) = some (#[a, b] : Array Value).size := by
  rw [show (#[a, b] : Array Value).size = 2 from rfl]
  kernel_rfl
theorem sizeB2 (a b : Value) : (Try.prog.info? 22).map (·.size) = some (#[a, b] : Array Value).size := by
  rw [show (#[a, b] : Array Value).size = 2 from rfl]
  kernel_rfl
theorem two_get (a b : Value) {x : Nat} (h : x < 2) : (#[a, b] : Array Value)[x]? = some (if x = 0 then a else b) := by
  match x, h with
  | 0, _ => rfl
  | 1, _ => rfl
end Go.Proofs.YtifpahkgielocaaM
