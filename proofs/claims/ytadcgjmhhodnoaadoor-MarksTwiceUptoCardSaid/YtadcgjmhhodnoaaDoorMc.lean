/-
  Small words for hand-typed walks: '==' of arrays of whole numbers. No function of the program in sight.
-/
import Derived.Test.YtadcgjmhhodnoaaDoorMa
import Derived.ChangeKeysEq
namespace Go.Proofs.YtadcgjmhhodnoaaDoorM
open Go Go.RowKit Go.Lib Go.Proofs.YtadcgjmhhodnoaaDoorW.PrintWords Go.Proofs.YtadcgjmhhodnoaaDoorW.PrintLast Go.Proofs.YtadcgjmhhodnoaaDoorW.PrintMore

theorem run_eqItems_int {P : Program} {e : TypeId} {k : IntKind} (he : P.underlying e = some (.int k)) (d : Nat) (w : World) (xs ys : Array Value) (X Y : Nat → Int) :
    ∀ is : List Nat, (∀ j ∈ is, xs[j]? = some (.int k (X j)) ∧ ys[j]? = some (.int k (Y j))) → (Op.eqItems (d + 1) e 1 xs ys is).run P w = .ok (is.all fun j => X j == Y j) w
  | [], _ => by simp [Op.eqItems]
  | j :: is, h => by
    have hp : P.plainKey e = true := by unfold Program.plainKey; rw [he]
    obtain ⟨hx, hy⟩ := h j (by simp)
    have h1 := run_part_plain w hp hx
    have h2 := run_part_plain w hp hy
    have h3 := run_equalIn_int w d e k k (X j) (Y j) he
    have h4 := run_eqItems_int he d w xs ys X Y is fun j hj => h j (by simp [hj])
    simp only [Op.eqItems, Nat.mul_one, Sem.run_bind, h1, h2, h3, Result.andThen_ok]
    by_cases g : X j = Y j
    · simpa [g] using h4
    · simp [g]
/-- Two arrays of whole numbers are the same. -/
theorem run_eqArr {P : Program} {t e : TypeId} {n : Nat} {k : IntKind} (hu : P.underlying t = some (.array n e)) (hi : (P.info? e).isSome = true) (hc : P.cellsOf e = 1) (he : P.underlying e = some (.int k))
    {xs ys : Array Value} (X Y : Nat → Int) (hx : ∀ j, j < n → xs[j]? = some (.int k (X j))) (hy : ∀ j, j < n → ys[j]? = some (.int k (Y j))) (d : Nat) (w : World) :
    (Op.equalIn (d + 2) t (.agg xs) (.agg ys)).run P w = .ok ((List.range n).all fun j => X j == Y j) w := by
  obtain ⟨i, hi⟩ := Option.isSome_iff_exists.mp hi
  rw [run_equalIn_array w (d + 1) xs ys hu hi, hc]
  exact run_eqItems_int he d w xs ys X Y _ fun j hj => ⟨hx j (List.mem_range.mp hj), hy j (List.mem_range.mp hj)⟩
theorem all_eq_true {n : Nat} {X Y : Nat → Int} (h : ∀ j, j < n → X j = Y j) : ((List.range n).all fun j => X j == Y j) = true := by
  rw [List.all_eq_true]
  intro j hj
  exact beq_iff_eq.mpr (h j (List.mem_range.mp hj))
theorem all_eq_false {n : Nat} {X Y : Nat → Int} {j : Nat} (hj : j < n) (h : X j ≠ Y j) : ((List.range n).all fun j => X j == Y j) = false := by
  rw [List.all_eq_false]
  exact ⟨j, List.mem_range.mpr hj, by simpa using h⟩
theorem run_equalIn_func_nil {P : Program} (t : TypeId) {ps rs : Array TypeId} {vd : Bool} (h : P.underlying t = some (.func ps rs vd)) (w : World) (d : Nat) (f : Fn) (a c : Array Value) :
    (Op.equalIn (d + 1) t (.func f a c) .nilFunc).run P w = .ok false w := by
  simp [Op.equalIn, run_underlying h]
/-- 'f == nil' -/
theorem run_eql_func_nil {P : Program} (t : TypeId) {ps rs : Array TypeId} {vd : Bool} (h : P.underlying t = some (.func ps rs vd)) (w : World) (f : Fn) (a c : Array Value) :
    (binOp .eql t (.func f a c) .nilFunc).run P w = .ok (.bool false) w := by
  simp only [binOp]
  simp [Op.equal, Op.maxDepth, run_equalIn_func_nil t h w 9999]
/-- 'a[i]' of an array by value. -/
theorem run_index_arr {P : Program} {t e : TypeId} {n : Nat} (h : P.underlying t = some (.array n e)) (hp : P.plainKey e = true) (hi : (P.info? e).isSome = true) (hc : P.cellsOf e = 1) {cs : Array Value} {i : Nat} {v : Value} (hn : i < n) (hv : cs[i]? = some v) (k : IntKind) (w : World) :
    (Instr.index t (.agg cs) (.int k (i : Int))).run P w = .ok v w := by
  obtain ⟨j, hj⟩ := Option.isSome_iff_exists.mp hi
  have h2 : (0 : Int) ≤ i ∧ (i : Int) < (n : Int) := by omega
  have h3 := run_part_plain (P := P) w hp hv
  have h4 := run_sizeOf (P := P) w hj
  rw [hc] at h4
  simp only [Instr.index, asIntOf, Sem.run_bind, Sem.run_pure, Result.andThen_ok, run_underlying h, h2, and_self, if_true, h4, Int.toNat_natCast, Nat.mul_one, h3]
/-- A result that lies in memory, one cell. -/
theorem results_cell1 {P : Program} {fn : Func} {p : Tmp} {ty : TypeId} (h : fn.results = #[.cell p ty]) (tmps : Array Value) (w : World) (g : Nat) (t : TypeId) (v : Value) (d : TypeDesc)
    (hp : tmps.getD p undef = .pointer (some ⟨g, 0, none⟩)) (hg : Blk w g #[v] t) (hu : P.underlying ty = some d) (hd : (match d with | .struct _ | .array _ _ => false | _ => true) = true) :
    (results fn tmps).run P w = .ok v w := by
  have hp' : tmps[p]?.getD undef = .pointer (some ⟨g, 0, none⟩) := by simpa using hp
  have hc := hg.cell (i := 0) rfl
  have hl : (loadVar ty ⟨g, 0, none⟩).run P w = .ok v w := by
    cases d <;> simp at hd <;> (simp only [loadVar, isAgg, Sem.run_bind, run_underlying hu, Result.andThen_ok]; simp [go_sem, hc])
  simp [results, h, hp', asAddr, hl]
section
variable {P : Program} {ops : Array Oper} {rest : List Oper} {o : Oper} {a : Act} {Q : Exit → Act → World → Prop} {W : World}
/-- A struct or an array out of its block. -/
theorem ev_loadS {g : Nat} {cs : Array Value} {t : TypeId} (B : Blk W g cs t) (hgd : o.guard = none) (ty : TypeId) (x : Operand) (ho : o.op = .load ty x) (hx : a.eval x = .pointer (some ⟨g, 0, none⟩))
    {d : TypeDesc} (hu : P.underlying ty = some d) (hd : (match d with | .struct _ | .array _ _ => true | _ => false) = true) (hi : (P.info? ty).map (·.size) = some cs.size)
    (h : wpList P ops Q rest (a.put o.dst (.agg cs)) W) : wpList P ops Q (o :: rest) a W :=
  wpList_load_row hgd ty x ho g hx t cs (0, 0) _ B.out hu hd hi h
end
end Go.Proofs.YtadcgjmhhodnoaaDoorM
