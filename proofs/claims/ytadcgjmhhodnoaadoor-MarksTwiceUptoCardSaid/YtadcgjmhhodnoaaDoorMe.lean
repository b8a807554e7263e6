/-
  Steps of a region that draws its order, walked by hand: loads of whole blocks, a new block, a store into it, a call. No function of the program in sight.
-/
import Derived.Test.YtadcgjmhhodnoaaDoorMc
import Derived.Deep.RegionHeld3
import Derived.Laws.IdiomStrings
namespace Go.Proofs.YtadcgjmhhodnoaaDoorM
open Go Go.RowKit Go.Lib Go.Proofs.YtadcgjmhhodnoaaDoorW.PrintWords Go.Proofs.YtadcgjmhhodnoaaDoorW.PrintLast Go.Proofs.YtadcgjmhhodnoaaDoorW.PrintMore
section
variable {P : Program} {ops : Array Oper} {o : Oper} {a : Act} {K : Act → World → Prop} {Q : Exit → Act → World → Prop} {W : World} {S : World → Prop}
theorem rg_load {g : Nat} {cs : Array Value} {t : TypeId} (hw : Region.wanted o (yielded ops a.tmps) = true) (hB : ∀ W, S W → Blk W g cs t) (ty : TypeId) (x : Operand) (ho : o.op = .load ty x) (hx : a.eval x = .pointer (some ⟨g, 0, none⟩))
    {d : TypeDesc} (hu : P.underlying ty = some d) (hd : (match d with | .struct _ | .array _ _ => true | _ => false) = true) (hi : (P.info? ty).map (·.size) = some cs.size) : YieldsIf P ops S o (.agg cs) a :=
  .inl ⟨hw, fun W hS => by
    have := run_loadVar_row (P := P) W g t ty cs (0, 0) _ (hB W hS).out hu hd hi
    unfold execOp
    simp [ho, hx, Instr.loadAt, Instr.sureAddr, this, Result.andThen]⟩
theorem rg_alloc {w : World} (HB : BelowH w W) (hw : Region.wanted o (yielded ops a.tmps) = true) (cs : Array Value) (t : TypeId)
    (hrun : (execOp a.eval o).run P W = .ok (.value (.pointer (some ⟨W.heap.size, 0, none⟩))) (W.alloc (.cells cs t (0, 0))))
    (h : ∀ g w1, Aside0 (W.heap.size ≤ g) → Aside0 (w.heap.size ≤ g) → Blk w1 g cs t → BelowH w w1 → Aside0 (Below W.heap.size W w1) → K (a.put o.dst (.pointer (some ⟨g, 0, none⟩))) w1) :
    if Region.wanted o (yielded ops a.tmps) = true then Oper.wp P o a W K Q else K (a.put o.dst undef) W := by
  rw [if_pos hw]
  unfold Oper.wp
  rw [hrun]
  exact h _ _ ⟨Nat.le_refl _⟩ ⟨HB.le⟩ ⟨blk_new W _⟩ (HB.step (below_alloc (Below.refl _ _) _)) ⟨below_alloc (Below.refl _ _) _⟩
theorem rg_store {w : World} (HB : BelowH w W) (hw : Region.wanted o (yielded ops a.tmps) = true) {g : Nat} {old cs : Array Value} {t : TypeId} (B : Blk W g old t) (GE : Aside0 (w.heap.size ≤ g)) (ty : TypeId) (x y : Operand) (ho : o.op = .store ty x y) (hx : a.eval x = .pointer (some ⟨g, 0, none⟩)) (hy : a.eval y = .agg cs)
    (hi : (P.info? ty).map (·.size) = some cs.size) (hold : old.size = cs.size) (h1 : cs.all (·.oneCell') = true)
    (h : ∀ w1, Blk w1 g cs t → BelowH w w1 → Aside0 (W.heap.size ≤ w1.heap.size ∧ ∀ k, k ≠ g → w1.heap[k]? = W.heap[k]?) → K (a.put o.dst undef) w1) :
    if Region.wanted o (yielded ops a.tmps) = true then Oper.wp P o a W K Q else K (a.put o.dst undef) W := by
  rw [if_pos hw]
  have := run_storeVar_row (P := P) W g t ty old cs B.out hi hold h1
  have hr : (execOp a.eval o).run P W = .ok .skip (W.setRow g cs) := by
    unfold execOp
    simp [ho, hx, hy, Instr.storeAt, Instr.sureAddr, this, Result.andThen]
  unfold Oper.wp
  rw [hr]
  exact h _ (B.row cs) (HB.row GE.out cs) ⟨Nat.le_of_eq (setRow_size W g cs).symm, fun k hk => setRow_other W g k cs hk⟩
theorem rg_call (hw : Region.wanted o (yielded ops a.tmps) = true) (f : FuncId) (args : Array Value) (v : Value) (hrun : (execOp a.eval o).run P W = .ok (.enter f args) W)
    (hc : Calls P f args W fun e w' => e = .returned v ∧ Below W.heap.size W w') (h : ∀ w', Aside0 (Below W.heap.size W w') → K (a.put o.dst v) w') :
    if Region.wanted o (yielded ops a.tmps) = true then Oper.wp P o a W K Q else K (a.put o.dst undef) W := by
  rw [if_pos hw]
  unfold Oper.wp
  rw [hrun, Oper.upon_enter]
  refine hc.mono ?_
  rintro e w' ⟨rfl, hb⟩
  exact h w' ⟨hb⟩
/-- '[]T{x}': a new block of one cell. -/
theorem rg_lit {w : World} (HB : BelowH w W) (hw : Region.wanted o (yielded ops a.tmps) = true) (u : Value) (e : TypeId)
    (hrun : (execOp a.eval o).run P W = .ok (.value (.slice (some ⟨W.heap.size, 0, none⟩) 1 1)) (W.alloc (.cells #[u] e (0, 0))))
    (h : ∀ g w1, Blk w1 g #[u] e → BelowH w w1 → Aside0 (Below W.heap.size W w1) → K (a.put o.dst (.slice (some ⟨g, 0, none⟩) 1 1)) w1) :
    if Region.wanted o (yielded ops a.tmps) = true then Oper.wp P o a W K Q else K (a.put o.dst undef) W := by
  rw [if_pos hw]
  unfold Oper.wp
  rw [hrun]
  exact h _ _ ⟨blk_new W _⟩ (HB.step (below_alloc (Below.refl _ _) _)) ⟨below_alloc (Below.refl _ _) _⟩
/-- 'string(b)', b of one byte. -/
theorem rg_str1 (hw : Region.wanted o (yielded ops a.tmps) = true) {g : Nat} {e : TypeId} {b : UInt8} (B : Blk W g #[.int .u8 (b.toNat : Int)] e) (src dst eb : TypeId) (x : Operand) (ho : o.op = .convert src dst x) (hx : a.eval x = .slice (some ⟨g, 0, none⟩) 1 1)
    (hs : P.underlying src = some (.slice eb)) (he : P.underlying eb = some (.int .u8)) (hd : P.underlying dst = some .string)
    (h : K (a.put o.dst (.string ⟨#[b]⟩)) W) : if Region.wanted o (yielded ops a.tmps) = true then Oper.wp P o a W K Q else K (a.put o.dst undef) W := by
  rw [if_pos hw]
  have hc := run_convert_bytes_back (P := P) W src dst eb ⟨g, 0, none⟩ 1 [b] hs he hd (fun j hj => by
    obtain rfl : j = 0 := by simpa using hj
    exact B.cell (i := 0) rfl)
  have hr : (execOp a.eval o).run P W = .ok (.value (.string ⟨#[b]⟩)) W := by
    unfold execOp
    simp only [ho, hx, Sem.run_bind]
    rw [show ([b] : List UInt8).length = 1 from rfl] at hc
    simp [hc, Result.andThen]
  unfold Oper.wp
  rw [hr]
  exact h
end
end Go.Proofs.YtadcgjmhhodnoaaDoorM
