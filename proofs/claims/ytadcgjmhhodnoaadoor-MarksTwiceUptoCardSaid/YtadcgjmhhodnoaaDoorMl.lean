/-
  A range over a function in the round of an ordinary loop: each entry leaves a mark among the deferred calls; they are swept at the return. No function of the program in sight.
-/
import Derived.Test.YtadcgjmhhodnoaaDoorMj
import Derived.RangeFuncLeaves
namespace Go.Proofs.YtadcgjmhhodnoaaDoorM
open Go Go.RowKit Go.Lib Go.Proofs.YtadcgjmhhodnoaaDoorW.PrintWords Go.Proofs.YtadcgjmhhodnoaaDoorW.PrintLast Go.Proofs.YtadcgjmhhodnoaaDoorW.PrintMore
/-- The marks, the latest first. -/
def marksD (Ds : List Nat) : List Deferred := Ds.map fun D => { target := .collected D, args := #[] }
structure Marks (m : Nat) (Ds : List Nat) (W : World) : Prop where mk ::
  at_ : ∀ D ∈ Ds, m ≤ D ∧ W.heap[D]? = some (.deferred (some []))
  nd : Ds.Nodup
section
variable {m : Nat} {Ds : List Nat} {W W' : World}
theorem Marks.nil : Marks m [] W := ⟨fun _ h => (List.not_mem_nil h).elim, List.nodup_nil⟩
theorem Marks.lt (h : Marks m Ds W) {D : Nat} (hD : D ∈ Ds) : D < W.heap.size := (Array.getElem?_eq_some_iff.1 (h.at_ D hD).2).1
theorem Marks.same (h : Marks m Ds W) (k : ∀ D ∈ Ds, W'.heap[D]? = W.heap[D]?) : Marks m Ds W' := ⟨fun D hD => ⟨(h.at_ D hD).1, (k D hD).trans (h.at_ D hD).2⟩, h.nd⟩
theorem Marks.below (h : Marks m Ds W) (k : Below W.heap.size W W') : Marks m Ds W' := h.same fun _ hD => k.block _ (h.lt hD)
theorem Marks.keeps (h : Marks m Ds W) {B : Nat} (k : KeepsFrom B W W') (hB : B ≤ m) : Marks m Ds W' := ⟨fun D hD => ⟨(h.at_ D hD).1, k.same D _ (Nat.le_trans hB (h.at_ D hD).1) (h.at_ D hD).2 rfl⟩, h.nd⟩
theorem Marks.others (h : Marks m Ds W) (k : KeepsOthers W W') : Marks m Ds W' := h.keeps (k.from m) (Nat.le_refl _)
theorem Marks.cons (h : Marks m Ds W) {D : Nat} (h1 : m ≤ D) (h2 : W.heap[D]? = some (.deferred (some []))) (h3 : D ∉ Ds) : Marks m (D :: Ds) W :=
  ⟨fun D' hD => by
    rcases List.mem_cons.1 hD with rfl | hD
    · exact ⟨h1, h2⟩
    · exact h.at_ D' hD, List.nodup_cons.2 ⟨h3, h.nd⟩⟩
/-- They abide the turn of what was laid behind them. -/
theorem Marks.grown (h : Marks m Ds W) {row : Option Nat} (hg : W.grownBy W' row) {B : Nat} (hB : ∀ D ∈ Ds, D < B) (hr : ∀ r, row = some r → B ≤ r) : Marks m Ds W' :=
  h.same fun D hD => hg.block D (h.lt hD) fun e => by
    have := hr D e.symm
    have := hB D hD
    omega
end
/-- All that turned were marks' blocks, from m on. -/
structure Swept (m : Nat) (W W' : World) : Prop where mk ::
  os : W'.os = W.os
  tape : W'.tape = W.tape
  output : W'.output = W.output
  size : W'.heap.size = W.heap.size
  low : ∀ k, k < m → W'.heap[k]? = W.heap[k]?
  cells : ∀ (k : Nat) (o : Obj), W.heap[k]? = some o → o.isCells = true → W'.heap[k]? = some o
section
variable {m : Nat} {W W' : World}
theorem Swept.refl (m : Nat) (W : World) : Swept m W W := ⟨rfl, rfl, rfl, rfl, fun _ _ => rfl, fun _ _ h _ => h⟩
theorem Swept.put {W1 : World} (h : Swept m W W1) {D : Nat} (hD : m ≤ D) {o : Obj} (ho : W1.heap[D]? = some o) (hc : o.isCells = false) (o' : Obj) : Swept m W (W1.putObj D o') :=
  ⟨h.os, h.tape, h.output, by rw [← h.size]; simp, fun k hk => (World.putObj_heap_other (by omega)).trans (h.low k hk), fun k o2 h2 hc2 => by
    have h3 := h.cells k o2 h2 hc2
    by_cases e : k = D
    · subst e
      rw [h3] at ho
      injection ho with ho
      subst ho
      rw [hc2] at hc
      cases hc
    · exact (World.putObj_heap_other e).trans h3⟩
theorem Blk.swept {g : Nat} {cs : Array Value} {t : Nat} (B : Blk W g cs t) (h : Swept m W W') : Blk W' g cs t := ⟨h.cells g _ B.out rfl⟩
theorem Swept.own {base e size n : Nat} {v : Value} {xs : List Value} (h : Swept m W W') (hr : W.ownsRow base e size v n xs) : W'.ownsRow base e size v n xs :=
  own_move hr fun j ej => by
    obtain ⟨cs, hc⟩ := own_typed hr j ej
    rw [hc]
    exact h.cells j _ hc rfl
theorem Swept.below {w : World} {B : Nat} (h : Swept m W W') (hB : B ≤ m) (k : Below B w W) : Below B w W' := ⟨h.os.trans k.os, h.tape.trans k.tape, h.output.trans k.output, by rw [h.size]; exact k.size, fun i hi => (h.low i (by omega)).trans (k.block i hi)⟩
theorem Swept.belowH {w : World} (h : Swept m W W') (hB : w.heap.size ≤ m) (k : BelowH w W) : BelowH w W' := ⟨h.below hB k.out⟩
end
/-- At the return: the marks are swept, one by one; S: what abides that. -/
theorem leaves_marksS {F : Fence} {n : Nat} {P : Program} {fn : Func} {tmps : Array Value} {R : Ending → World → Prop} {m : Nat} {S : World → Prop}
    (hS : ∀ (W : World) (D : Nat), S W → m ≤ D → W.heap[D]? = some (.deferred (some [])) → S (W.putObj D (.deferred none))) : ∀ (Ds : List Nat) (W : World), S W → Marks m Ds W →
    (∀ W', S W' → ∃ v, (results fn tmps).run P W' = .ok v W' ∧ R (.returned v) W') → LeavesInM F n P fn tmps R (marksD Ds) .returning W
  | [], W, hs, _, h => h W hs
  | D :: Ds, W, hs, hm, h => by
    obtain ⟨h1, h2⟩ := hm.at_ D (List.mem_cons_self ..)
    have hnd := List.nodup_cons.1 hm.nd
    refine ⟨by simp, .inl ⟨D, W.putObj D (.deferred none), rfl, run_takeDeferred h2, leaves_marksS hS Ds _ (hS W D hs h1 h2) ?_ h⟩⟩
    exact ⟨fun D' hD' => ⟨(hm.at_ D' (List.mem_cons_of_mem _ hD')).1, (World.putObj_heap_other (fun e => hnd.1 (by rw [← e]; exact hD'))).trans (hm.at_ D' (List.mem_cons_of_mem _ hD')).2⟩, hnd.2⟩
theorem leaves_marks {F : Fence} {n : Nat} {P : Program} {fn : Func} {tmps : Array Value} {R : Ending → World → Prop} {m : Nat} (Ds : List Nat) (W : World) (hm : Marks m Ds W)
    (h : ∀ W', Swept m W W' → ∃ v, (results fn tmps).run P W' = .ok v W' ∧ R (.returned v) W') : LeavesInM F n P fn tmps R (marksD Ds) .returning W :=
  leaves_marksS (S := Swept m W) (fun _ _ hs h1 h2 => hs.put h1 h2 rfl _) Ds W (Swept.refl m W) hm h
/-- An ordinary loop in whose rounds the deferred calls grow: what a round owes is kept from the walk. -/
theorem wpIn_loopM {F : Fence} {n : Nat} {P : Program} {Q : Exit → Act → World → Prop} {a : Act} {w : World} {c : Code} (I : Nat → Act → World → Prop) (k0 : Nat) (h0 : I k0 a w)
    (round : ∀ k a w, I k a w → ∀ K : Act → World → Prop, (∀ k' a' w', k' < k → I k' a' w' → K a' w') → c.wpIn F n P (Exit.then K Q) a w) : (Code.loop c).wpIn F n P Q a w := by
  classical
  have key : ∀ k a w, I k a w → ∃ j, I j a w ∧ ∀ i, I i a w → j ≤ i := fun k => by
    induction k using Nat.strongRecOn with
    | _ k ih =>
      intro a w h
      by_cases hk : ∃ i, i < k ∧ I i a w
      · obtain ⟨i, hi, hI⟩ := hk
        exact ih i hi a w hI
      · exact ⟨k, h, fun i hi => Nat.le_of_not_lt fun c => hk ⟨i, c, hi⟩⟩
  refine wpIn_loop (fun a w => ∃ k, I k a w) (fun a w => if h : ∃ k, I k a w then Classical.choose (key _ a w h.choose_spec) else 0) ⟨k0, h0⟩ ?_
  rintro a w ⟨k, hk⟩
  have hm : ∃ k, I k a w := ⟨k, hk⟩
  have hc := Classical.choose_spec (key _ a w hm.choose_spec)
  refine round _ a w hc.1 _ fun k' a' w' hlt hI => ⟨⟨k', hI⟩, ?_⟩
  have hm' : ∃ k, I k a' w' := ⟨k', hI⟩
  have hc' := Classical.choose_spec (key _ a' w' hm'.choose_spec)
  rw [dif_pos hm', dif_pos hm]
  exact Nat.lt_of_le_of_lt (hc'.2 k' hI) hlt
end Go.Proofs.YtadcgjmhhodnoaaDoorM
