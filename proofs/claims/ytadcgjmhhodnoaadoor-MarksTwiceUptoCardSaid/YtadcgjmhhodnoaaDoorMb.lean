/-
  The words of Ma inside a fence: for walks of loops over iterators, and of iterators.
-/
import Derived.Test.YtadcgjmhhodnoaaDoorMa
import Derived.Scope
import Derived.RangeFuncBox
import Derived.Maps.AppendAt
import Derived.RangeFuncNested
import Derived.RangeFuncBound
import Derived.RangeFuncCalls
import Derived.RangeFuncLeaves
import Derived.Shelf.Abstract
import Derived.Shelf.RegionOpen
import Derived.OwnWalkIn
import Derived.TacticsInMore
import Derived.LoopNIn
import Derived.LoopIn
import Derived.Sort.CutIn
namespace Go.Proofs.YtadcgjmhhodnoaaDoorM
open Go Go.RowKit Go.Lib Go.Proofs.YtadcgjmhhodnoaaDoorW.PrintWords Go.Proofs.YtadcgjmhhodnoaaDoorW.PrintLast Go.Proofs.YtadcgjmhhodnoaaDoorW.PrintMore
section
variable {F : Fence} {n : Nat} {P : Program} {ops : Array Oper} {rest : List Oper} {o : Oper} {a : Act} {Q : Exit → Act → World → Prop} {W : World}
/-- A guarded operation whose guard is known to want it. -/
theorem gate_guardIn (hw : Region.wanted o (yielded ops a.tmps) = true) (h : wpListIn F n P ops Q ({ o with guard := none } :: rest) a W) : wpListIn F n P ops Q (o :: rest) a W := by
  have h1 : Region.wanted { o with guard := none } (yielded ops a.tmps) = true := rfl
  unfold wpListIn at h ⊢
  rw [if_pos h1] at h
  rw [if_pos hw]
  exact h
theorem callsIn_of (hF : Aside0 (F = Fence.wide)) {f : FuncId} {args : Array Value} {w : World} {R : Ending → World → Prop} (h : Calls P f args w R) : CallsIn F n P f args w R := by
  obtain ⟨rfl⟩ := hF
  exact callsIn_wide.2 h
theorem wide_fn (hF : Aside0 (F = Fence.wide)) (f : FuncId) : F.fn f := by
  obtain ⟨rfl⟩ := hF
  trivial
theorem wide_round (hF : Aside0 (F = Fence.wide)) : F.round = none := by
  obtain ⟨rfl⟩ := hF
  rfl
/-- A scope without jumps, inside the widest fence. -/
theorem wpIn_scope (hF : Aside0 (F = Fence.wide)) {c : Code} {w : World} (h : c.wpIn F n P (Exit.noGoto Q) a w) : (Code.scope c).wpIn F n P Q a w := by
  obtain ⟨rfl⟩ := hF
  exact wpIn_wide.2 (wp_scope_straight (wpIn_wide.1 h))
/-- Neither a call nor a deferred one. -/
def Oper.plainOp (o : Oper) : Bool := match o.op with | .call _ | .defer _ => false | _ => true
theorem event_runIn (hp : Oper.plainOp o = true) {w1 : World} {v : Value} (hgd : o.guard = none) (hrun : (execOp a.eval o).run P W = .ok (.value v) w1) (h : wpListIn F n P ops Q rest (a.put o.dst v) w1) : wpListIn F n P ops Q (o :: rest) a W := by
  refine wpListIn_plain hgd fun K hK => ⟨fun f hf => ?_, ?_⟩
  · unfold Oper.about at hf
    unfold Oper.plainOp at hp
    split at hf
    · rename_i c hc
      simp [hc] at hp
    · cases hf
  · rw [Oper.semAt_eq _ _ _ (fun c hc => by simp [Oper.plainOp, hc] at hp), hrun]
    exact hK _ _ h
theorem event_skipIn (hp : Oper.plainOp o = true) {w1 : World} (hgd : o.guard = none) (hrun : (execOp a.eval o).run P W = .ok .skip w1) (h : wpListIn F n P ops Q rest (a.put o.dst undef) w1) : wpListIn F n P ops Q (o :: rest) a W := by
  refine wpListIn_plain hgd fun K hK => ⟨fun f hf => ?_, ?_⟩
  · unfold Oper.about at hf
    unfold Oper.plainOp at hp
    split at hf
    · rename_i c hc
      simp [hc] at hp
    · cases hf
  · rw [Oper.semAt_eq _ _ _ (fun c hc => by simp [Oper.plainOp, hc] at hp), hrun]
    exact hK _ _ h
theorem gate_dstIn {N : Tmp} (_hN : o.dst = some N) (h : wpListIn F n P ops Q (o :: rest) a W) : wpListIn F n P ops Q (o :: rest) a W := h
theorem gate_In (op : Op) (_ho : o.op = op) (h : wpListIn F n P ops Q (o :: rest) a W) : wpListIn F n P ops Q (o :: rest) a W := h
/-- A new block, in letters. -/
theorem ev_allocIn {w : World} (HB : BelowH w W) (hp : Oper.plainOp o = true) (hgd : o.guard = none) (cs : Array Value) (t : TypeId)
    (hrun : (execOp a.eval o).run P W = .ok (.value (.pointer (some ⟨W.heap.size, 0, none⟩))) (W.alloc (.cells cs t (0, 0))))
    (h : ∀ g w1, Aside0 (W.heap.size ≤ g) → Aside0 (w.heap.size ≤ g) → Blk w1 g cs t → BelowH w w1 → Aside0 (Below W.heap.size W w1) → Aside0 (KeepsOthers W w1) → wpListIn F n P ops Q rest (a.put o.dst (.pointer (some ⟨g, 0, none⟩))) w1) : wpListIn F n P ops Q (o :: rest) a W :=
  event_runIn hp hgd hrun (h _ _ ⟨Nat.le_refl _⟩ ⟨HB.le⟩ ⟨blk_new W _⟩ (HB.step (below_alloc (Below.refl _ _) _)) ⟨below_alloc (Below.refl _ _) _⟩ ⟨KeepsOthers.alloc W _⟩)
/-- A whole array out of its block. -/
theorem ev_loadIn {g : Nat} {cs : Array Value} {t : TypeId} (B : Blk W g cs t) (hgd : o.guard = none) (ty : TypeId) (x : Operand) (ho : o.op = .load ty x) (hx : a.eval x = .pointer (some ⟨g, 0, none⟩))
    {m : Nat} {e : TypeId} (hu : P.underlying ty = some (.array m e)) (hi : (P.info? ty).map (·.size) = some cs.size)
    (h : wpListIn F n P ops Q rest (a.put o.dst (.agg cs)) W) : wpListIn F n P ops Q (o :: rest) a W := by
  refine event_runIn (by simp [Oper.plainOp, ho]) hgd (v := .agg cs) (w1 := W) ?_ h
  have := run_loadVar_row (P := P) W g t ty cs (0, 0) _ B.out hu rfl hi
  unfold execOp
  simp [ho, hx, Instr.loadAt, Instr.sureAddr, this, Result.andThen]
/-- A struct out of its block. -/
theorem ev_loadSIn {g : Nat} {cs : Array Value} {t : TypeId} (B : Blk W g cs t) (hgd : o.guard = none) (ty : TypeId) (x : Operand) (ho : o.op = .load ty x) (hx : a.eval x = .pointer (some ⟨g, 0, none⟩))
    {d : TypeDesc} (hu : P.underlying ty = some d) (hd : (match d with | .struct _ | .array _ _ => true | _ => false) = true) (hi : (P.info? ty).map (·.size) = some cs.size)
    (h : wpListIn F n P ops Q rest (a.put o.dst (.agg cs)) W) : wpListIn F n P ops Q (o :: rest) a W := by
  refine event_runIn (by simp [Oper.plainOp, ho]) hgd (v := .agg cs) (w1 := W) ?_ h
  have := run_loadVar_row (P := P) W g t ty cs (0, 0) _ B.out hu hd hi
  unfold execOp
  simp [ho, hx, Instr.loadAt, Instr.sureAddr, this, Result.andThen]
theorem keepsOthers_setRow (W : World) {g : Nat} {old cs : Array Value} {t : TypeId} (B : Blk W g old t) : KeepsOthers W (W.setRow g cs) :=
  ⟨Nat.le_of_eq (setRow_size W g cs).symm, fun k o hk ho => by
    by_cases e : k = g
    · subst e
      rw [B.out] at hk
      cases hk
      cases ho
    · rw [setRow_other W g k cs e]; exact hk⟩
/-- A whole array into its block. -/
theorem ev_storeIn {w : World} (HB : BelowH w W) {g : Nat} {old cs : Array Value} {t : TypeId} (B : Blk W g old t) (GE : Aside0 (w.heap.size ≤ g)) (hgd : o.guard = none) (ty : TypeId) (x y : Operand) (ho : o.op = .store ty x y) (hx : a.eval x = .pointer (some ⟨g, 0, none⟩)) (hy : a.eval y = .agg cs)
    (hi : (P.info? ty).map (·.size) = some cs.size) (hold : old.size = cs.size) (h1 : cs.all (·.oneCell') = true)
    (h : ∀ w1, Blk w1 g cs t → BelowH w w1 → Aside0 (W.heap.size ≤ w1.heap.size ∧ ∀ k, k ≠ g → w1.heap[k]? = W.heap[k]?) → Aside0 (KeepsOthers W w1) → wpListIn F n P ops Q rest (a.put o.dst undef) w1) : wpListIn F n P ops Q (o :: rest) a W := by
  refine event_skipIn (by simp [Oper.plainOp, ho]) hgd (w1 := W.setRow g cs) ?_ (h _ (B.row cs) (HB.row GE.out cs) ⟨Nat.le_of_eq (setRow_size W g cs).symm, fun k hk => setRow_other W g k cs hk⟩ ⟨keepsOthers_setRow W B⟩)
  have := run_storeVar_row (P := P) W g t ty old cs B.out hi hold h1
  unfold execOp
  simp [ho, hx, hy, Instr.storeAt, Instr.sureAddr, this, Result.andThen]
/-- One cell into its block. -/
theorem ev_store1In {w : World} (HB : BelowH w W) {g i : Nat} {cs : Array Value} {t : TypeId} (B : Blk W g cs t) (GE : Aside0 (w.heap.size ≤ g)) (hgd : o.guard = none) (ty : TypeId) (x y : Operand) (ho : o.op = .store ty x y) (hx : a.eval x = .pointer (some ⟨g, i, none⟩)) (v : Value) (hy : a.eval y = v)
    (hi : i < cs.size) (hs : (P.info? ty).map (·.size) = some 1) (hv : v.oneCell' = true)
    (h : ∀ w1, Blk w1 g (cs.setIfInBounds i v) t → BelowH w w1 → Aside0 (W.heap.size ≤ w1.heap.size ∧ ∀ k, k ≠ g → w1.heap[k]? = W.heap[k]?) → Aside0 (KeepsOthers W w1) → wpListIn F n P ops Q rest (a.put o.dst undef) w1) : wpListIn F n P ops Q (o :: rest) a W := by
  refine event_skipIn (by simp [Oper.plainOp, ho]) hgd (w1 := W.setRow g (cs.setIfInBounds i v)) ?_ (h _ (B.row _) (HB.row GE.out _) ⟨Nat.le_of_eq (setRow_size W g _).symm, fun k hk => setRow_other W g k _ hk⟩ ⟨keepsOthers_setRow W B⟩)
  have := run_store1 (P := P) B hi ty v hs hv
  unfold execOp
  simp [ho, hx, hy, Instr.storeAt, Instr.sureAddr, this, Result.andThen]
/-- A struct into its block. -/
theorem ev_storeSIn {w : World} (HB : BelowH w W) {g : Nat} {old cs : Array Value} {t : TypeId} (B : Blk W g old t) (GE : Aside0 (w.heap.size ≤ g)) (hgd : o.guard = none) (ty : TypeId) (x y : Operand) (ho : o.op = .store ty x y) (hx : a.eval x = .pointer (some ⟨g, 0, none⟩)) (hy : a.eval y = .agg cs)
    (hi : (P.info? ty).map (·.size) = some cs.size) (hold : old.size = cs.size) (h1 : cs.all (·.oneCell') = true)
    (h : ∀ w1, Blk w1 g cs t → BelowH w w1 → Aside0 (W.heap.size ≤ w1.heap.size ∧ ∀ k, k ≠ g → w1.heap[k]? = W.heap[k]?) → Aside0 (KeepsOthers W w1) → wpListIn F n P ops Q rest (a.put o.dst undef) w1) : wpListIn F n P ops Q (o :: rest) a W :=
  ev_storeIn HB B GE hgd ty x y ho hx hy hi hold h1 h
end
/-- Two blocks are kept as they are: those that an iterator reads between two rounds. -/
def Keep2 (g1 g2 : Nat) (W W' : World) : Prop := W'.heap[g1]? = W.heap[g1]? ∧ W'.heap[g2]? = W.heap[g2]? ∧ W.heap.size ≤ W'.heap.size
theorem Keep2.trans {g1 g2 : Nat} {A B C : World} (h : Keep2 g1 g2 A B) (k : Keep2 g1 g2 B C) : Keep2 g1 g2 A C := ⟨k.1.trans h.1, k.2.1.trans h.2.1, Nat.le_trans h.2.2 k.2.2⟩
theorem Keep2.putObj {g1 g2 m : Nat} (h1 : g1 < m) (h2 : g2 < m) (W : World) (l : Nat) (o o' : Obj) (hl : m ≤ l) (_ : W.heap[l]? = some o) (_ : o.isCells = false) (_ : o.isWalk = false) : Keep2 g1 g2 W (W.putObj l o') :=
  ⟨World.putObj_heap_other (by omega), World.putObj_heap_other (by omega), by simp⟩
theorem Keep2.below {g1 g2 : Nat} {W W' : World} (h : Below W.heap.size W W') (h1 : g1 < W.heap.size) (h2 : g2 < W.heap.size) : Keep2 g1 g2 W W' := ⟨h.block _ h1, h.block _ h2, h.size⟩
theorem Keep2.other {g1 g2 g : Nat} {W W' : World} (K : Aside0 (W.heap.size ≤ W'.heap.size ∧ ∀ k, k ≠ g → W'.heap[k]? = W.heap[k]?)) (h1 : g1 ≠ g) (h2 : g2 ≠ g) : Keep2 g1 g2 W W' := ⟨K.out.2 _ h1, K.out.2 _ h2, K.out.1⟩
/-- A block of cells abides what turns no cells. -/
theorem Blk.kept {W W' : World} {g : Nat} {cs : Array Value} {t : Nat} (B : Blk W g cs t) {row : Option Nat} (hg : W.grownBy W' row) (hr : ∀ r, row = some r → ∃ o : Obj, W.heap[r]? = some o ∧ o.isCells = false) : Blk W' g cs t :=
  ⟨(hg.block g B.lt (fun e => by obtain ⟨o, ho, hc⟩ := hr g e.symm; rw [B.out] at ho; cases ho; cases hc)).trans B.out⟩
/-- What lay ahead of B abides what turns blocks from B on alone. -/
theorem BelowH.kept {w W W' : World} (h : BelowH w W) {row : Option Nat} (hg : W.grownBy W' row) {B : Nat} (hB : w.heap.size ≤ B) (hr : ∀ r, row = some r → B ≤ r) : BelowH w W' :=
  ⟨h.out.grown hg h.le (fun k e => Nat.le_trans hB (hr k e))⟩
/-- A block of another type is no row's. -/
theorem Blk.not_row {W : World} {g : Nat} {cs : Array Value} {t e : TypeId} (B : Blk W g cs t) (hte : t ≠ e) {base size k : Nat} {v : Value} {xs : List Value} (h : W.ownsRow base e size v k xs) : some g ≠ v.ownBlock := by
  intro he
  rcases h.2 with ⟨rfl, _⟩ | ⟨g', cap, cur, rfl, _, hgb, _⟩
  · simp [Value.ownBlock] at he
  · simp [Value.ownBlock] at he
    subst he
    rw [B.out] at hgb
    cases hgb
    exact hte rfl
theorem keepsOthers_below {W W' : World} (h : Below W.heap.size W W') : KeepsOthers W W' := ⟨h.size, fun k _ hk _ => (h.block k (Array.getElem?_eq_some_iff.1 hk).1).trans hk⟩
theorem keepsOthers_row {W W' : World} {base e size k : Nat} {v : Value} {xs : List Value} (hrow : W.ownsRow base e size v k xs) (hg : W.grownBy W' v.ownBlock) : KeepsOthers W W' :=
  KeepsOthers.of_grownBy hg fun j o ej hj => by
    rcases hrow.2 with ⟨rfl, _⟩ | ⟨g, cap, cur, rfl, _, hgb, _⟩
    · simp [Value.ownBlock] at ej
    · simp [Value.ownBlock] at ej
      subst ej
      rw [hgb] at hj
      cases hj
      rfl
/-- An owned row abides what turns another block. -/
theorem row_other {W W' : World} {base e size k g t : Nat} {cs : Array Value} {v : Value} {xs : List Value} (h : W.ownsRow base e size v k xs) (B : Blk W g cs t) (hte : t ≠ e) (K : Aside0 (W.heap.size ≤ W'.heap.size ∧ ∀ k, k ≠ g → W'.heap[k]? = W.heap[k]?)) : W'.ownsRow base e size v k xs := by
  have hne := B.not_row hte h
  refine ⟨h.1, ?_⟩
  rcases h.2 with h0 | ⟨g', cap, cur, rfl, hb, hgb, hrest⟩
  · exact .inl h0
  · refine .inr ⟨g', cap, cur, rfl, hb, ?_, hrest⟩
    rw [K.out.2 g' (fun e' => hne (by rw [← e']; rfl))]
    exact hgb
theorem row_below {W W' : World} {base e size k : Nat} {v : Value} {xs : List Value} (h : W.ownsRow base e size v k xs) (hb : Below W.heap.size W W') : W'.ownsRow base e size v k xs :=
  h.kept (row := none) ⟨hb.os, hb.tape, hb.output, hb.size, fun k hk _ => hb.block k hk⟩ (by cases h : v.ownBlock with | none => exact .inl rfl | some k => exact .inr (by simp))
/-- An owned row abides what turns no cells. -/
theorem row_kept {W W' : World} {base e size k : Nat} {v : Value} {xs : List Value} (h : W.ownsRow base e size v k xs) {row : Option Nat} (hg : W.grownBy W' row) (hr : ∀ r, row = some r → ∃ o : Obj, W.heap[r]? = some o ∧ o.isCells = false) : W'.ownsRow base e size v k xs := by
  refine h.kept hg ?_
  rcases h.2 with ⟨rfl, _⟩ | ⟨g, cap, cur, rfl, _, hgb, _⟩
  · exact .inl rfl
  · refine .inr fun e' => ?_
    obtain ⟨o, ho, hc⟩ := hr g (by rw [← e']; rfl)
    rw [hgb] at ho
    cases ho
    cases hc
section
variable {F : Fence} {n : Nat} {P : Program} {ops : Array Oper} {rest : List Oper} {o : Oper} {a : Act} {Q : Exit → Act → World → Prop} {W : World}
/-- A literal of one element. -/
theorem ev_lit1In {w : World} (HB : BelowH w W) (hp : Oper.plainOp o = true) (hgd : o.guard = none) (u : Value) (e : TypeId)
    (hrun : (execOp a.eval o).run P W = .ok (.value (.slice (some ⟨W.heap.size, 0, none⟩) 1 1)) (W.alloc (.cells #[u] e (0, 0))))
    (h : ∀ g w1, Aside0 (W.heap.size ≤ g) → Blk w1 g #[u] e → BelowH w w1 → Aside0 (Below W.heap.size W w1) → Aside0 (KeepsOthers W w1) → wpListIn F n P ops Q rest (a.put o.dst (.slice (some ⟨g, 0, none⟩) 1 1)) w1) : wpListIn F n P ops Q (o :: rest) a W :=
  event_runIn hp hgd hrun (h _ _ ⟨Nat.le_refl _⟩ ⟨blk_new W _⟩ (HB.step (below_alloc (Below.refl _ _) _)) ⟨below_alloc (Below.refl _ _) _⟩ ⟨KeepsOthers.alloc W _⟩)
/-- 'append(v, u)': v a row of the call's own. -/
theorem ev_append1In {w : World} (HB : BelowH w W) (hgd : o.guard = none) (s x : Operand) (t e : TypeId) (z : Value) (bytes : Nat) (hop : o.op = .call { callee := .builtin .append, args := #[s, x], argTypes := #[t, t] })
    (h1 : P.underlying t = some (.slice e)) (hinfo : (P.info? e).map (fun i => (i.zero, i.size, i.bytes)) = some (some z, 1, bytes)) (hz : z.cells.size = 1) (hb0 : 0 < bytes)
    (v : Value) (k : Nat) (xs : List Value) (hs : a.eval s = v) (hrow : W.ownsRow w.heap.size e 1 v k xs) (g : Nat) (u : Value) (hx : a.eval x = .slice (some ⟨g, 0, none⟩) 1 1) {t' : TypeId} (B : Blk W g #[u] t') (h1c : u.oneCell' = true) (b : (k + 1) * bytes ≤ 140737488355328)
    (h : ∀ v1 w1, w1.ownsRow w.heap.size e 1 v1 (k + 1) (xs ++ [u]) → BelowH w w1 → Aside0 (W.heap.size ≤ w1.heap.size ∧ ∀ j, j < W.heap.size → some j ≠ v.ownBlock → w1.heap[j]? = W.heap[j]?) → Aside0 (KeepsOthers W w1) → Aside0 (∃ g' cap', v1 = .slice (some ⟨g', 0, none⟩) (k + 1) cap') → wpListIn F n P ops Q rest (a.put o.dst v1) w1) :
    wpListIn F n P ops Q (o :: rest) a W := by
  obtain ⟨i, h2, h3, h4, h5⟩ := info_parts hinfo
  have hk : k + 1 ≤ (k + 1) * bytes := Nat.le_mul_of_pos_right _ hb0
  refine wpListIn_append_own W hgd s x t hop w.heap.size e i z 1 bytes h1 h2 h3 h4 h5 hz (by decide) v k xs hs hrow ⟨g, 0, none⟩ 1 1 [u] hx rfl ?_ ?_ (by unfold maxLen; omega) b HB.le ?_
  · intro j u' hj
    cases j with
    | zero =>
      simp at hj
      subst hj
      exact B.cell (i := 0) rfl
    | succ j => simp at hj
  · intro u' hu
    rw [List.mem_singleton.1 hu]
    exact h1c
  · intro v1 w1 hown hg _
    obtain ⟨g', cap', e1⟩ := ownsRow_succ hown
    exact h v1 w1 hown ⟨HB.out.grown hg HB.le (fun j ej => (hrow.lt j ej).1)⟩ ⟨hg.size, fun j hj hne => hg.block j hj hne⟩ ⟨keepsOthers_row hrow hg⟩ ⟨g', cap', e1⟩
end
theorem Blk.appended {W w1 : World} {g : Nat} {cs : Array Value} {t e base k : Nat} {v : Value} {xs : List Value} (B : Blk W g cs t) (hte : t ≠ e) (hrow : W.ownsRow base e 1 v k xs)
    (K : Aside0 (W.heap.size ≤ w1.heap.size ∧ ∀ j, j < W.heap.size → some j ≠ v.ownBlock → w1.heap[j]? = W.heap[j]?)) : Blk w1 g cs t := ⟨(K.out.2 g B.lt (B.not_row hte hrow)).trans B.out⟩
theorem row_one {W : World} {base e size k : Nat} {v : Value} {xs : List Value} (h : W.ownsRow base e size v k xs) : v.oneCell' = true := by
  rcases h.2 with ⟨rfl, _⟩ | ⟨g, cap, cur, rfl, _⟩ <;> rfl
/-- Several blocks that stay as they are. -/
structure Blks (L : List (Nat × Array Value × Nat)) (W : World) : Prop where mk :: (out : ∀ b ∈ L, Blk W b.1 b.2.1 b.2.2)
theorem Blks.below {L : List (Nat × Array Value × Nat)} {W W' : World} (h : Blks L W) (hb : Below W.heap.size W W') : Blks L W' := ⟨fun b m => (h.out b m).below hb⟩
theorem Blks.other {L : List (Nat × Array Value × Nat)} {W W' : World} {g : Nat} (h : Blks L W) (K : Aside0 (W.heap.size ≤ W'.heap.size ∧ ∀ k, k ≠ g → W'.heap[k]? = W.heap[k]?)) (hne : ∀ b ∈ L, b.1 ≠ g) : Blks L W' := ⟨fun b m => (h.out b m).other K (hne b m)⟩
theorem Blks.appended {L : List (Nat × Array Value × Nat)} {W W' : World} {e base k : Nat} {v : Value} {xs : List Value} (h : Blks L W) (hte : ∀ b ∈ L, b.2.2 ≠ e) (hrow : W.ownsRow base e 1 v k xs)
    (K : Aside0 (W.heap.size ≤ W'.heap.size ∧ ∀ j, j < W.heap.size → some j ≠ v.ownBlock → W'.heap[j]? = W.heap[j]?)) : Blks L W' := ⟨fun b m => (h.out b m).appended (hte b m) hrow K⟩
theorem Blks.kept {L : List (Nat × Array Value × Nat)} {W W' : World} (h : Blks L W) {row : Option Nat} (hg : W.grownBy W' row) (hr : ∀ r, row = some r → ∃ o : Obj, W.heap[r]? = some o ∧ o.isCells = false) : Blks L W' := ⟨fun b m => (h.out b m).kept hg hr⟩
theorem Blks.drewN {L : List (Nat × Array Value × Nat)} {W : World} (h : Blks L W) (n : Nat) : Blks L (W.drewN n) := ⟨fun b m => (h.out b m).drewN n⟩
theorem row_drewN {W : World} {base e size k : Nat} {v : Value} {xs : List Value} (h : W.ownsRow base e size v k xs) (n : Nat) : (W.drewN n).ownsRow base e size v k xs := row_below h (pw_below_drewN (Below.refl _ _) n)
theorem keepsOthers_drewN (W : World) (n : Nat) : KeepsOthers W (W.drewN n) := keepsOthers_below (pw_below_drewN (Below.refl _ _) n)
theorem Keep2.of_blk {g1 g2 : Nat} {c1 c2 : Array Value} {t1 t2 : Nat} {W W' : World} (a1 : Blk W g1 c1 t1) (a2 : Blk W g2 c2 t2) (b1 : Blk W' g1 c1 t1) (b2 : Blk W' g2 c2 t2) (hs : W.heap.size ≤ W'.heap.size) : Keep2 g1 g2 W W' :=
  ⟨b1.out.trans a1.out.symm, b2.out.trans a2.out.symm, hs⟩
end Go.Proofs.YtadcgjmhhodnoaaDoorM
