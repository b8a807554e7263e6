/-
  Regions that draw their order inside a round: the walk of Me (wpAnyH), carried over into the fence of a round. No function of the program in sight.
-/
import Derived.Test.YtadcgjmhhodnoaaDoorMb
import Derived.Test.YtadcgjmhhodnoaaDoorMe
import Derived.OrdersIn
namespace Go.Proofs.YtadcgjmhhodnoaaDoorM
open Go Go.RowKit Go.Lib Go.Proofs.YtadcgjmhhodnoaaDoorW.PrintWords Go.Proofs.YtadcgjmhhodnoaaDoorW.PrintLast Go.Proofs.YtadcgjmhhodnoaaDoorW.PrintMore
section
variable {n l : Nat} {P : Program} {ops : Array Oper} {Q : Exit → Act → World → Prop} {md : Region.Mode} {S : World → Prop} {a : Act} {w W : World}
/-- Nothing but the straight way out. -/
def Straight (Q : Exit → Act → World → Prop) : Exit → Act → World → Prop
  | .normal, a, w => Q .normal a w
  | _, _, _ => False
theorem Straight.normal (h : Q .normal a w) : Straight Q .normal a w := h
theorem oper_wpIn_of {o : Oper} (hd : ∀ c, o.op ≠ .defer c) {K : Act → World → Prop} (h : o.wp P a w K (Straight Q)) : o.wpIn (Fence.wide.inRound l) n P a w K Q := by
  refine ⟨fun _ _ => trivial, ?_⟩
  rw [Oper.semAt_eq _ _ _ hd]
  unfold Oper.wp at h
  generalize (execOp a.eval o).run P w = r at *
  cases r with
  | ok x w' =>
    cases x with
    | value v => exact h
    | skip => exact h
    | defer d => exact h
    | enter f args =>
      rw [Oper.upon_enter] at h
      rw [Oper.uponIn_enter]
      refine ⟨fun hx => by simp [Fence.wide] at hx, (CallsIn.inRound l (callsIn_wide.2 h)).mono ?_⟩
      intro e w'' he
      cases e with
      | returned v => exact he
      | panicked c => exact he.elim
      | outgrown => obtain ⟨a1, w1, h1⟩ := he; exact h1.elim
    | row r args =>
      rw [Oper.upon_row] at h
      rw [Oper.uponIn_row]
      exact ⟨fun hx => by simp [Fence.wide] at hx, fun c cs _ => let ⟨v, w', r, s⟩ := h c cs; ⟨v, w', r, stepsIn_wide.2 s⟩⟩
    | _ => exact h.elim
  | halt x w' => cases x <;> first | exact h.elim | exact (h : False).elim
theorem wpAnyIn_of_held (hd : ∀ (i : Nat) (o : Oper), ops[i]? = some o → ∀ c, o.op ≠ .defer c) : ∀ (fuel : Nat) (listed : Array Bool) (a : Act) (w : World), wpAnyH P md ops (Straight Q) S fuel listed a w → wpAnyIn (Fence.wide.inRound l) n P md ops Q fuel listed a w
  | 0, _, _, _, h => h
  | fuel + 1, listed, a, w, h => ⟨h.1, fun i hi => by
    have h1 := h.2 i hi
    unfold wpOp at h1
    unfold wpOpIn
    cases ho : ops[i]? with
    | none =>
      simp only [ho] at h1
      exact wpAnyIn_of_held hd fuel _ a w h1.2
    | some o =>
      simp only [ho] at h1 ⊢
      split
      · rename_i hw
        rw [if_pos hw] at h1
        rcases h1 with h1 | ⟨_, a1, w1, h1⟩
        · exact Oper.wpIn_mono (fun a' w' h' => wpAnyIn_of_held hd fuel _ a' w' h'.2) (oper_wpIn_of (hd i o ho) h1)
        · exact h1.elim
      · rename_i hw
        rw [if_neg hw] at h1
        exact ⟨fun _ _ => trivial, wpAnyIn_of_held hd fuel _ _ w h1.2⟩⟩
/-- No operation of the region is deferred. -/
def noDefer (ops : Array Oper) : Bool := ops.all fun o => match o.op with | .defer _ => false | _ => true
theorem noDefer_spec (h : noDefer ops = true) (i : Nat) (o : Oper) (hi : ops[i]? = some o) (c : _) : o.op ≠ .defer c := by
  intro e
  have hm : o ∈ ops := Array.mem_of_getElem? hi
  have := (Array.all_eq_true'.1 h) o hm
  rw [e] at this
  cases this
/-- The beginning, inside a round: S is shown of the world behind the draw. -/
theorem wpIn_region_held_drew {F : Fence} (HF : Aside0 (F = Fence.wide)) {id : Nat} (hm : P.follows .mixedOrders = true) (hd : noDefer ops = true) (hS : S w.drew)
    (h : S w.drew → wpAnyH P .any ops (Straight Q) S ops.size (Array.replicate ops.size false) a w.drew) : (Code.region id ops true).wpIn (F.inRound l) n P Q a w := by
  obtain ⟨rfl⟩ := HF
  exact wpIn_region_any hm (wpAnyIn_of_held (noDefer_spec hd) _ _ _ _ (h hS))
/-- The same outside of a round. -/
theorem wpIn_region_held_wide {F : Fence} (HF : Aside0 (F = Fence.wide)) {id : Nat} (hm : P.follows .mixedOrders = true) (hS : S w.drew)
    (h : S w.drew → wpAnyH P .any ops (NoPanic Q) S ops.size (Array.replicate ops.size false) a w.drew) : (Code.region id ops true).wpIn F n P Q a w := by
  obtain ⟨rfl⟩ := HF
  exact wpIn_wide.2 (wp_region_noPanic (wp_region_held_drew hm hS h))
end
/-! ### The same over wpAnyLast: behind the operations of ds nothing is shown -/
section
variable {n l : Nat} {P : Program} {ops : Array Oper} {Q : Exit → Act → World → Prop} {md : Region.Mode} {S : World → Prop} {ds : List Nat} {a : Act} {w : World}
theorem wpAnyIn_of_last (hd : ∀ (i : Nat) (o : Oper), ops[i]? = some o → ∀ c, o.op ≠ .defer c) : ∀ (fuel : Nat) (listed : Array Bool) (a : Act) (w : World), wpAnyLast P md ops (Straight Q) S ds fuel listed a w → wpAnyIn (Fence.wide.inRound l) n P md ops Q fuel listed a w
  | 0, _, _, _, h => h
  | fuel + 1, listed, a, w, h => ⟨h.1, fun i hi => by
    have h1 := h.2 i hi
    unfold wpOp at h1
    unfold wpOpIn
    cases ho : ops[i]? with
    | none =>
      simp only [ho] at h1
      exact wpAnyIn_of_last hd fuel _ a w h1.2
    | some o =>
      simp only [ho] at h1 ⊢
      split
      · rename_i hw
        rw [if_pos hw] at h1
        rcases h1 with h1 | ⟨_, a1, w1, h1⟩
        · exact Oper.wpIn_mono (fun a' w' h' => wpAnyIn_of_last hd fuel _ a' w' h'.2) (oper_wpIn_of (hd i o ho) h1)
        · exact h1.elim
      · rename_i hw
        rw [if_neg hw] at h1
        exact ⟨fun _ _ => trivial, wpAnyIn_of_last hd fuel _ _ w h1.2⟩⟩
/-- The beginning, inside a round. -/
theorem wpIn_region_last_drew {F : Fence} (HF : Aside0 (F = Fence.wide)) {id : Nat} (hm : P.follows .mixedOrders = true) (hd : noDefer ops = true) (hS : S w.drew)
    (h : S w.drew → wpAnyLast P .any ops (Straight Q) S ds ops.size (Array.replicate ops.size false) a w.drew) : (Code.region id ops true).wpIn (F.inRound l) n P Q a w := by
  obtain ⟨rfl⟩ := HF
  exact wpIn_region_any hm (wpAnyIn_of_last (noDefer_spec hd) _ _ _ _ (h hS))
/-- The same outside of a round, in the widest fence. -/
theorem wpIn_region_last_wide {F : Fence} (HF : Aside0 (F = Fence.wide)) {id : Nat} (hm : P.follows .mixedOrders = true) (hS : S w.drew)
    (h : S w.drew → wpAnyLast P .any ops (NoPanic Q) S ds ops.size (Array.replicate ops.size false) a w.drew) : (Code.region id ops true).wpIn F n P Q a w := by
  obtain ⟨rfl⟩ := HF
  exact wpIn_wide.2 (wp_region_noPanic (wp_region_last_drew hm hS h))
end
section
variable {P : Program} {ops : Array Oper} {o : Oper} {a : Act} {K : Act → World → Prop} {Q : Exit → Act → World → Prop} {W : World} {S : World → Prop}
/-- One cell out of its block. -/
theorem rg_load1 {g i : Nat} {v : Value} (hw : Region.wanted o (yielded ops a.tmps) = true) (hB : ∀ W, S W → W.cell? ⟨g, i, none⟩ = some v) (ty : TypeId) (x : Operand) (ho : o.op = .load ty x) (hx : a.eval x = .pointer (some ⟨g, i, none⟩))
    (hagg : ∀ W, (isAgg ty).run P W = .ok false W) : YieldsIf P ops S o v a :=
  .inl ⟨hw, fun W hS => by
    have h1 := hB W hS
    have : (loadVar ty ⟨g, i, none⟩).run P W = .ok v W := by simp [loadVar, Sem.run_bind, hagg, load, Sem.run, h1]
    unfold execOp
    simp [ho, hx, Instr.loadAt, Instr.sureAddr, this, Result.andThen]⟩
/-- One cell into its block. -/
theorem rg_store1 {w : World} (HB : BelowH w W) (hw : Region.wanted o (yielded ops a.tmps) = true) {g i : Nat} {cs : Array Value} {t : TypeId} (B : Blk W g cs t) (GE : Aside0 (w.heap.size ≤ g)) (ty : TypeId) (x y : Operand) (ho : o.op = .store ty x y) (hx : a.eval x = .pointer (some ⟨g, i, none⟩)) (v : Value) (hy : a.eval y = v)
    (hi : i < cs.size) (hs : (P.info? ty).map (·.size) = some 1) (hv : v.oneCell' = true)
    (h : ∀ w1, Blk w1 g (cs.setIfInBounds i v) t → BelowH w w1 → Aside0 (W.heap.size ≤ w1.heap.size ∧ ∀ k, k ≠ g → w1.heap[k]? = W.heap[k]?) → K (a.put o.dst undef) w1) :
    if Region.wanted o (yielded ops a.tmps) = true then Oper.wp P o a W K Q else K (a.put o.dst undef) W := by
  rw [if_pos hw]
  have := run_store1 (P := P) B hi ty v hs hv
  have hr : (execOp a.eval o).run P W = .ok .skip (W.setRow g (cs.setIfInBounds i v)) := by
    unfold execOp
    simp [ho, hx, hy, Instr.storeAt, Instr.sureAddr, this, Result.andThen]
  unfold Oper.wp
  rw [hr]
  exact h _ (B.row _) (HB.row GE.out _) ⟨Nat.le_of_eq (setRow_size W g _).symm, fun k hk => setRow_other W g k _ hk⟩
end
section
variable {P : Program} {ops : Array Oper} {o : Oper} {a : Act} {K : Act → World → Prop} {Q : Exit → Act → World → Prop} {W : World}
/-- One cell out of memory, now. -/
theorem rg_loadNow {g i : Nat} {v : Value} (hw : Region.wanted o (yielded ops a.tmps) = true) (hB : W.cell? ⟨g, i, none⟩ = some v) (ty : TypeId) (x : Operand) (ho : o.op = .load ty x) (hx : a.eval x = .pointer (some ⟨g, i, none⟩))
    (hagg : ∀ W, (isAgg ty).run P W = .ok false W) (h : K (a.put o.dst v) W) :
    if Region.wanted o (yielded ops a.tmps) = true then Oper.wp P o a W K Q else K (a.put o.dst undef) W := by
  rw [if_pos hw]
  have : (loadVar ty ⟨g, i, none⟩).run P W = .ok v W := by simp [loadVar, Sem.run_bind, hagg, load, Sem.run, hB]
  have hr : (execOp a.eval o).run P W = .ok (.value v) W := by
    unfold execOp
    simp [ho, hx, Instr.loadAt, Instr.sureAddr, this, Result.andThen]
  unfold Oper.wp
  rw [hr]
  exact h
/-- A call, by a contract of any form. -/
theorem rg_callP {Φ : World → Prop} (hw : Region.wanted o (yielded ops a.tmps) = true) (f : FuncId) (args : Array Value) (v : Value) (hrun : (execOp a.eval o).run P W = .ok (.enter f args) W)
    (hc : Calls P f args W fun e w' => e = .returned v ∧ Φ w') (h : ∀ w', Aside0 (Φ w') → K (a.put o.dst v) w') :
    if Region.wanted o (yielded ops a.tmps) = true then Oper.wp P o a W K Q else K (a.put o.dst undef) W := by
  rw [if_pos hw]
  unfold Oper.wp
  rw [hrun, Oper.upon_enter]
  refine hc.mono ?_
  rintro e w' ⟨rfl, hb⟩
  exact h w' ⟨hb⟩
/-- 'append(v, u)': v a row of the call's own, from block number 'base' on. -/
theorem rg_append1 {w : World} (HB : BelowH w W) (hw : Region.wanted o (yielded ops a.tmps) = true) (s x : Operand) (t e : TypeId) (z : Value) (bytes : Nat) (hop : o.op = .call { callee := .builtin .append, args := #[s, x], argTypes := #[t, t] })
    (h1 : P.underlying t = some (.slice e)) (hinfo : (P.info? e).map (fun i => (i.zero, i.size, i.bytes)) = some (some z, 1, bytes)) (hz : z.cells.size = 1) (hb0 : 0 < bytes)
    (v : Value) (k : Nat) (xs : List Value) (hs : a.eval s = v) {base : Nat} (hrow : W.ownsRow base e 1 v k xs) (hwb : w.heap.size ≤ base ∧ base ≤ W.heap.size) (g : Nat) (u : Value) (hx : a.eval x = .slice (some ⟨g, 0, none⟩) 1 1) {t' : TypeId} (B : Blk W g #[u] t') (h1c : u.oneCell' = true) (b : (k + 1) * bytes ≤ 140737488355328)
    (h : ∀ v1 w1, w1.ownsRow base e 1 v1 (k + 1) (xs ++ [u]) → BelowH w w1 → Aside0 (W.heap.size ≤ w1.heap.size ∧ ∀ j, j < W.heap.size → some j ≠ v.ownBlock → w1.heap[j]? = W.heap[j]?) → Aside0 (∃ g' cap', v1 = .slice (some ⟨g', 0, none⟩) (k + 1) cap') → K (a.put o.dst v1) w1) :
    if Region.wanted o (yielded ops a.tmps) = true then Oper.wp P o a W K Q else K (a.put o.dst undef) W := by
  rw [if_pos hw]
  obtain ⟨i, h2, h3, h4, h5⟩ := info_parts hinfo
  have hk : k + 1 ≤ (k + 1) * bytes := Nat.le_mul_of_pos_right _ hb0
  refine wp_append_own W s x t hop base e i z 1 bytes h1 h2 h3 h4 h5 hz (by decide) v k xs hs hrow ⟨g, 0, none⟩ 1 1 [u] hx rfl ?_ ?_ (by unfold maxLen; omega) b hwb.2 ?_
  · intro j u' hj
    cases j with
    | zero =>
      simp at hj
      subst hj
      exact B.cell (i := 0) rfl
    | succ j => simp at hj
  · intro u' hu
    rw [List.mem_singleton.1 hu]
    exact h1c
  · intro v1 w1 hown hg _
    obtain ⟨g', cap', e1⟩ := ownsRow_succ hown
    exact h v1 w1 hown ⟨HB.out.grown hg HB.le (fun j ej => Nat.le_trans hwb.1 (hrow.lt j ej).1)⟩ ⟨hg.size, fun j hj hne => hg.block j hj hne⟩ ⟨g', cap', e1⟩
end
section
variable {W w1 : World} {g base k : Nat} {cs : Array Value} {t e : TypeId} {v : Value} {xs : List Value}
theorem Blk.ne {g' : Nat} {cs' : Array Value} {t' : TypeId} (A : Blk W g cs t) (B : Blk W g' cs' t') (h : t ≠ t') : g ≠ g' := by
  intro e'
  subst e'
  have := A.out.symm.trans B.out
  injection this with this
  injection this with _ h2 _
  exact h h2
/-- What lay ahead of a row's blocks abides an append to it. -/
theorem Blk.appended_lt (B : Blk W g cs t) (hlt : g < base) (hrow : W.ownsRow base e 1 v k xs)
    (K : Aside0 (W.heap.size ≤ w1.heap.size ∧ ∀ j, j < W.heap.size → some j ≠ v.ownBlock → w1.heap[j]? = W.heap[j]?)) : Blk w1 g cs t :=
  ⟨(K.out.2 g B.lt (fun e' => by have := (hrow.lt g e'.symm).1; omega)).trans B.out⟩
theorem Blks.appended_lt {L : List (Nat × Array Value × Nat)} (h : Blks L W) (hlt : ∀ b ∈ L, b.1 < base) (hrow : W.ownsRow base e 1 v k xs)
    (K : Aside0 (W.heap.size ≤ w1.heap.size ∧ ∀ j, j < W.heap.size → some j ≠ v.ownBlock → w1.heap[j]? = W.heap[j]?)) : Blks L w1 := ⟨fun b m => (h.out b m).appended_lt (hlt b m) hrow K⟩
theorem keepsOthers_rowK (hrow : W.ownsRow base e 1 v k xs)
    (K : Aside0 (W.heap.size ≤ w1.heap.size ∧ ∀ j, j < W.heap.size → some j ≠ v.ownBlock → w1.heap[j]? = W.heap[j]?)) : KeepsOthers W w1 :=
  ⟨K.out.1, fun j o hj ho => by
    have hlt : j < W.heap.size := (Array.getElem?_eq_some_iff.1 hj).1
    refine (K.out.2 j hlt (fun ej => ?_)).trans hj
    rcases hrow.2 with ⟨rfl, _⟩ | ⟨g, cap, cur, rfl, _, hgb, _⟩
    · simp [Value.ownBlock] at ej
    · simp [Value.ownBlock] at ej
      subst ej
      rw [hgb] at hj
      cases hj
      cases ho⟩
theorem keepsOthers_other (B : Blk W g cs t) (K : Aside0 (W.heap.size ≤ w1.heap.size ∧ ∀ k, k ≠ g → w1.heap[k]? = W.heap[k]?)) : KeepsOthers W w1 :=
  ⟨K.out.1, fun k o hk ho => by
    by_cases e : k = g
    · subst e
      rw [B.out] at hk
      cases hk
      cases ho
    · exact (K.out.2 k e).trans hk⟩
end
/-- Two results that lie in memory, structs or arrays. -/
theorem results_cells2 {P : Program} {fn : Func} {p q : Tmp} {ty : TypeId} (h : fn.results = #[.cell p ty, .cell q ty]) (tmps : Array Value) (w : World) (g g' : Nat) (t : TypeId) (cs cs' : Array Value) (d : TypeDesc)
    (hp : tmps.getD p undef = .pointer (some ⟨g, 0, none⟩)) (hq : tmps.getD q undef = .pointer (some ⟨g', 0, none⟩)) (hg : Blk w g cs t) (hg' : Blk w g' cs' t)
    (hu : P.underlying ty = some d) (hd : (match d with | .struct _ | .array _ _ => true | _ => false) = true) (hi : (P.info? ty).map (·.size) = some cs.size) (hi' : (P.info? ty).map (·.size) = some cs'.size) :
    (results fn tmps).run P w = .ok (.tuple #[.agg cs, .agg cs']) w := by
  have hp' : tmps[p]?.getD undef = .pointer (some ⟨g, 0, none⟩) := by simpa using hp
  have hq' : tmps[q]?.getD undef = .pointer (some ⟨g', 0, none⟩) := by simpa using hq
  have h1 := run_loadVar_row (P := P) w g t ty cs (0, 0) d hg.out hu hd hi
  have h2 := run_loadVar_row (P := P) w g' t ty cs' (0, 0) d hg'.out hu hd hi'
  simp [results, h, hp', hq', asAddr, h1, h2, Result.andThen]
theorem keepsOthers_rowN {W W' : World} {base e size k : Nat} {v : Value} {xs : List Value} (hrow : W.ownsRow base e size v k xs) (hg : W.grownBy W' v.ownBlock) : KeepsOthers W W' := keepsOthers_row hrow hg
section
variable {F : Fence} {n : Nat} {P : Program} {ops : Array Oper} {rest : List Oper} {o : Oper} {a : Act} {Q : Exit → Act → World → Prop} {W : World}
/-- A literal of one element, of several cells. -/
theorem ev_litNIn {w : World} (HB : BelowH w W) (hp : Oper.plainOp o = true) (hgd : o.guard = none) (cs : Array Value) (e : TypeId)
    (hrun : (execOp a.eval o).run P W = .ok (.value (.slice (some ⟨W.heap.size, 0, none⟩) 1 1)) (W.alloc (.cells cs e (0, 0))))
    (h : ∀ g w1, Aside0 (W.heap.size ≤ g) → Blk w1 g cs e → BelowH w w1 → Aside0 (Below W.heap.size W w1) → Aside0 (KeepsOthers W w1) → wpListIn F n P ops Q rest (a.put o.dst (.slice (some ⟨g, 0, none⟩) 1 1)) w1) : wpListIn F n P ops Q (o :: rest) a W :=
  event_runIn hp hgd hrun (h _ _ ⟨Nat.le_refl _⟩ ⟨blk_new W _⟩ (HB.step (below_alloc (Below.refl _ _) _)) ⟨below_alloc (Below.refl _ _) _⟩ ⟨KeepsOthers.alloc W _⟩)
/-- 'make([]T, 0, c)': an empty row of the call's own. -/
theorem ev_makeIn {w : World} (HB : BelowH w W) (hgd : o.guard = none) (t e : TypeId) (x y : Operand) (z : Value) (size bytes c : Nat) (hop : o.op = .makeSlice t x y) (hx : a.eval x = .int .i64 0) (hy : a.eval y = .int .i64 (c : Int))
    (h1 : P.underlying t = some (.slice e)) (hinfo : (P.info? e).map (fun i => (i.zero, i.size, i.bytes)) = some (some z, size, bytes)) (hb : bytes * c ≤ 281474976710656) (hc : c ≤ maxLen)
    (h : ∀ g w1, Aside0 (W.heap.size ≤ g) → w1.ownsRow w.heap.size e size (.slice (some ⟨g, 0, none⟩) 0 c) 0 [] → BelowH w w1 → Aside0 (Below W.heap.size W w1) → Aside0 (KeepsOthers W w1) → wpListIn F n P ops Q rest (a.put o.dst (.slice (some ⟨g, 0, none⟩) 0 c)) w1) : wpListIn F n P ops Q (o :: rest) a W := by
  obtain ⟨i, h2, h3, h4, h5⟩ := info_parts hinfo
  obtain ⟨w1, hr, ho, hg⟩ := run_make_own (P := P) W w.heap.size t e i z size h1 h2 h3 h4 .i64 .i64 c (by rw [h5]; exact hb) hc HB.le
  have hbl : Below W.heap.size W w1 := (Below.refl _ _).grown hg (Nat.le_refl _) (fun j ej => by cases ej)
  refine event_runIn (by simp [Oper.plainOp, hop]) hgd (v := .slice (some ⟨W.heap.size, 0, none⟩) 0 c) (w1 := w1) ?_ (h _ _ ⟨Nat.le_refl _⟩ ho (HB.step hbl) ⟨hbl⟩ ⟨keepsOthers_below hbl⟩)
  unfold execOp
  simp [hop, hx, hy, hr, Result.andThen]
/-- 'append(v, u)': v a row of the call's own, its elements of several cells. -/
theorem ev_appendNIn {w : World} (HB : BelowH w W) (hgd : o.guard = none) (s x : Operand) (t e : TypeId) (z : Value) (size bytes : Nat) (hop : o.op = .call { callee := .builtin .append, args := #[s, x], argTypes := #[t, t] })
    (h1 : P.underlying t = some (.slice e)) (hinfo : (P.info? e).map (fun i => (i.zero, i.size, i.bytes)) = some (some z, size, bytes)) (hz : z.cells.size = size) (hsz : 0 < size) (hb0 : 0 < bytes)
    (v : Value) (k : Nat) (xs : List Value) (hs : a.eval s = v) (hrow : W.ownsRow w.heap.size e size v k xs) (g : Nat) (us : List Value) (hx : a.eval x = .slice (some ⟨g, 0, none⟩) 1 1) {t' : TypeId} (B : Blk W g us.toArray t') (hl : us.length = size) (h1c : ∀ u ∈ us, u.oneCell' = true) (b : (k + 1) * bytes ≤ 140737488355328)
    (h : ∀ v1 w1, w1.ownsRow w.heap.size e size v1 (k + 1) (xs ++ us) → BelowH w w1 → Aside0 (W.heap.size ≤ w1.heap.size ∧ ∀ j, j < W.heap.size → some j ≠ v.ownBlock → w1.heap[j]? = W.heap[j]?) → Aside0 (KeepsOthers W w1) → Aside0 (∃ g' cap', v1 = .slice (some ⟨g', 0, none⟩) (k + 1) cap') → wpListIn F n P ops Q rest (a.put o.dst v1) w1) :
    wpListIn F n P ops Q (o :: rest) a W := by
  obtain ⟨i, h2, h3, h4, h5⟩ := info_parts hinfo
  have hk : k + 1 ≤ (k + 1) * bytes := Nat.le_mul_of_pos_right _ hb0
  refine wpListIn_append_own W hgd s x t hop w.heap.size e i z size bytes h1 h2 h3 h4 h5 hz hsz v k xs hs hrow ⟨g, 0, none⟩ 1 1 us hx (by rw [hl, Nat.one_mul]) ?_ h1c (by unfold maxLen; omega) b HB.le ?_
  · intro j u' hj
    have hc := B.cell (i := j) (v := u') (by rw [List.getElem?_toArray]; exact hj)
    have ha : (⟨g, 0, none⟩ : Addr).add j = ⟨g, j, none⟩ := by rw [Addr.add_mid, Nat.zero_add]
    rw [ha]
    exact hc
  · intro v1 w1 hown hg _
    obtain ⟨g', cap', e1⟩ := ownsRow_succ hown
    exact h v1 w1 hown ⟨HB.out.grown hg HB.le (fun j ej => (hrow.lt j ej).1)⟩ ⟨hg.size, fun j hj hne => hg.block j hj hne⟩ ⟨keepsOthers_rowN hrow hg⟩ ⟨g', cap', e1⟩
end
section
variable {W w1 : World} {g base k size : Nat} {cs : Array Value} {t e : TypeId} {v : Value} {xs : List Value}
theorem Blk.not_rowN (B : Blk W g cs t) (hte : t ≠ e) (h : W.ownsRow base e size v k xs) : some g ≠ v.ownBlock := B.not_row hte h
theorem Blk.appendedN (B : Blk W g cs t) (hte : t ≠ e) (hrow : W.ownsRow base e size v k xs)
    (K : Aside0 (W.heap.size ≤ w1.heap.size ∧ ∀ j, j < W.heap.size → some j ≠ v.ownBlock → w1.heap[j]? = W.heap[j]?)) : Blk w1 g cs t := ⟨(K.out.2 g B.lt (B.not_row hte hrow)).trans B.out⟩
theorem Blks.appendedN {L : List (Nat × Array Value × Nat)} (h : Blks L W) (hte : ∀ b ∈ L, b.2.2 ≠ e) (hrow : W.ownsRow base e size v k xs)
    (K : Aside0 (W.heap.size ≤ w1.heap.size ∧ ∀ j, j < W.heap.size → some j ≠ v.ownBlock → w1.heap[j]? = W.heap[j]?)) : Blks L w1 := ⟨fun b m => (h.out b m).appendedN (hte b m) hrow K⟩
/-- An owned row abides an append to a row of another type. -/
theorem row_appended {base' k' size' : Nat} {e' : TypeId} {v' : Value} {ys : List Value} (h : W.ownsRow base' e' size' v' k' ys) (hte : e' ≠ e) (hrow : W.ownsRow base e size v k xs)
    (K : Aside0 (W.heap.size ≤ w1.heap.size ∧ ∀ j, j < W.heap.size → some j ≠ v.ownBlock → w1.heap[j]? = W.heap[j]?)) : w1.ownsRow base' e' size' v' k' ys :=
  own_move h fun j ej => K.out.2 j (h.lt j ej).2 fun e2 => by
    obtain ⟨c1, h1⟩ := own_typed h j ej
    obtain ⟨c2, h2⟩ := own_typed hrow j e2.symm
    rw [h1] at h2
    injection h2 with h2
    injection h2 with _ h3 _
    exact hte h3
end
/-- The cells of a row's block, as far as the row goes. -/
structure RowA (cur : Array Value) (xs : List Value) : Prop where mk :: (out : cur.toList.take xs.length = xs)
theorem RowA.get {cur : Array Value} {xs : List Value} (h : RowA cur xs) {i : Nat} {v : Value} (hi : xs[i]? = some v) : cur[i]? = some v := by
  have hl := (List.getElem?_eq_some_iff.1 hi).1
  rw [← h.out, List.getElem?_take, if_pos hl, Array.getElem?_toList] at hi
  exact hi
theorem RowA.set {cur : Array Value} {xs : List Value} (h : RowA cur xs) (i : Nat) (v : Value) : RowA (cur.setIfInBounds i v) (xs.set i v) := by
  refine ⟨?_⟩
  rw [List.length_set, Array.toList_setIfInBounds, List.take_set, h.out]
theorem RowA.size {cur : Array Value} {xs : List Value} (h : RowA cur xs) : xs.length ≤ cur.size := by
  have := congrArg List.length h.out
  have e : cur.toList.length = cur.size := Array.length_toList
  rw [List.length_take] at this
  omega
theorem row_mono {W : World} {base base' n size : Nat} {e : TypeId} {v : Value} {xs : List Value} (h : W.ownsRow base e size v n xs) (hb : base' ≤ base) : W.ownsRow base' e size v n xs :=
  ⟨h.1, h.2.imp id fun ⟨g, cap, cur, e1, h1, r⟩ => ⟨g, cap, cur, e1, Nat.le_trans hb h1, r⟩⟩
/-- An owned row, opened: its block. -/
theorem row_open {W : World} {base n : Nat} {e : TypeId} {v : Value} {xs : List Value} (h : W.ownsRow base e 1 v n xs) :
    xs.length = n ∧ ((v = .slice none 0 0 ∧ n = 0) ∨ ∃ g cap cur, v = .slice (some ⟨g, 0, none⟩) n cap ∧ base ≤ g ∧ Blk W g cur e ∧ n ≤ cap ∧ cap ≤ maxLen ∧ cur.size = cap ∧ RowA cur xs) := by
  have hl : xs.length = n := by rw [h.1, Nat.mul_one]
  refine ⟨hl, ?_⟩
  rcases h.2 with h0 | ⟨g, cap, cur, rfl, hb, hgb, h1, h2, h3, h4⟩
  · exact .inl h0
  · rw [Nat.mul_one] at h3 h4
    exact .inr ⟨g, cap, cur, rfl, hb, ⟨hgb⟩, h1, h2, h3, ⟨by rw [hl]; exact h4⟩⟩
theorem row_shut {W : World} {base n g cap : Nat} {e : TypeId} {cur : Array Value} {xs : List Value} (hb : base ≤ g) (B : Blk W g cur e) (h1 : n ≤ cap) (h2 : cap ≤ maxLen) (h3 : cur.size = cap) (hl : xs.length = n) (h4 : RowA cur xs) : W.ownsRow base e 1 (.slice (some ⟨g, 0, none⟩) n cap) n xs :=
  ⟨by rw [hl, Nat.mul_one], .inr ⟨g, cap, cur, rfl, hb, B.out, h1, h2, by rw [h3, Nat.mul_one], by rw [Nat.mul_one, ← hl]; exact h4.out⟩⟩
end Go.Proofs.YtadcgjmhhodnoaaDoorM
