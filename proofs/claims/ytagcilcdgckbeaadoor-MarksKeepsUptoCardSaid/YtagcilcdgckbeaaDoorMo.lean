/-
  Several rows of words that were handed out one behind the other: each has a block of its own. No function of the program in sight.
-/
import Derived.Test.YtagcilcdgckbeaaDoorMn
namespace Go.Proofs.YtagcilcdgckbeaaDoorM
open Go Go.RowKit Go.Lib Go.Proofs.YtagcilcdgckbeaaDoorW.PrintWords Go.Proofs.YtagcilcdgckbeaaDoorW.PrintLast Go.Proofs.YtagcilcdgckbeaaDoorW.PrintMore
/-- A row of words that owns its block. -/
def RowU (e : TypeId) (base : Nat) (W : World) (r : Value × List Int) : Prop := W.ownsRow base e 1 r.1 r.2.length (r.2.map (Value.int .u64))
structure Bag (e : TypeId) (base : Nat) (W : World) (L : List (Value × List Int)) : Prop where mk ::
  row : ∀ (i : Nat) (r : Value × List Int), L[i]? = some r → RowU e base W r
  dis : ∀ (i j : Nat) (r q : Value × List Int) (b : Nat), L[i]? = some r → L[j]? = some q → i ≠ j → r.1.ownBlock = some b → q.1.ownBlock ≠ some b
section
variable {e : TypeId} {base : Nat} {W W' : World} {L : List (Value × List Int)}
theorem Bag.nil (e : TypeId) (base : Nat) (W : World) : Bag e base W [] := ⟨fun i r h => by simp at h, fun i j r q b h => by simp at h⟩
theorem Bag.below (h : Bag e base W L) (hb : Below W.heap.size W W') : Bag e base W' L := ⟨fun i r hr => row_below (h.row i r hr) hb, h.dis⟩
theorem Bag.other (h : Bag e base W L) {g t : Nat} {cs : Array Value} (B : Blk W g cs t) (hte : t ≠ e) (K : Aside0 (W.heap.size ≤ W'.heap.size ∧ ∀ k, k ≠ g → W'.heap[k]? = W.heap[k]?)) : Bag e base W' L := ⟨fun i r hr => row_other (h.row i r hr) B hte K, h.dis⟩
theorem Bag.snoc (h : Bag e base W L) (hbase : base ≤ W.heap.size) (hb : Below W.heap.size W W') {v : Value} {xs : List Int} {n : Nat} (hn : xs.length = n) (hr : W'.ownsRow W.heap.size e 1 v n (xs.map (Value.int .u64))) : Bag e base W' (L ++ [(v, xs)]) := by
  subst hn
  have hget : ∀ (i : Nat) (r : Value × List Int), (L ++ [(v, xs)])[i]? = some r → L[i]? = some r ∨ (i = L.length ∧ r = (v, xs)) := fun i r hi => by
    by_cases hl : i < L.length
    · rw [List.getElem?_append_left hl] at hi
      exact .inl hi
    · rw [List.getElem?_append_right (by omega)] at hi
      obtain ⟨d, hd⟩ : ∃ d, i - L.length = d := ⟨_, rfl⟩
      rw [hd] at hi
      cases d with
      | zero => simp at hi; exact .inr ⟨by omega, hi.symm⟩
      | succ d => simp at hi
  refine ⟨fun i r hi => ?_, fun i j r q b hi hj hij hb1 hb2 => ?_⟩
  · rcases hget i r hi with h1 | ⟨_, rfl⟩
    · exact row_below (h.row i r h1) hb
    · exact row_mono hr hbase
  · rcases hget i r hi with h1 | ⟨e1, rfl⟩
    · rcases hget j q hj with h2 | ⟨e2, rfl⟩
      · exact h.dis i j r q b h1 h2 hij hb1 hb2
      · have a1 := (World.ownsRow.lt (h.row i r h1) b hb1).2
        have a2 := (hr.lt b hb2).1
        omega
    · rcases hget j q hj with h2 | ⟨e2, rfl⟩
      · have a1 := (World.ownsRow.lt (h.row j q h2) b hb2).2
        have a2 := (hr.lt b hb1).1
        omega
      · omega
theorem RowU.reads {r : Value × List Int} {A : Option Addr} {n c : Nat} (h : RowU e base W r) (hv : r.1 = .slice A n c) (hn : r.2.length = n) : n ≤ c ∧ Kd.C (Kd.int .u64) W A n r.2 := by
  subst hn
  have h1 : Kd.R (Kd.int .u64) e W base (fun _ => True) r.1 r.2 := Kd.R_of_own h (fun _ _ => trivial)
  rw [hv] at h1
  exact (Kd.R_reads' h1).2
/-- The values, their lengths, their elements by number. -/
def bagV (L : List (Value × List Int)) (i : Nat) : Value := (L.getD i (.slice none 0 0, [])).1
def bagN (L : List (Value × List Int)) (i : Nat) : Nat := (L.getD i (.slice none 0 0, [])).2.length
def bagC (L : List (Value × List Int)) (i j : Nat) : Value := .int .u64 ((L.getD i (.slice none 0 0, [])).2.getD j 0)
theorem bag_at {i : Nat} {r : Value × List Int} (h : L[i]? = some r) : L.getD i (.slice none 0 0, []) = r := by rw [List.getD_eq_getElem?_getD, h]; rfl
theorem Bag.rowF (h : Bag e base W L) {i : Nat} (hi : i < L.length) : RowF W e (bagV L i) (bagN L i) (bagC L i) := by
  have h1 := List.getElem?_eq_getElem hi
  have h2 := h.row i _ h1
  unfold bagV bagN bagC RowF
  rw [bag_at h1]
  have e1 : (List.range L[i].2.length).map (fun j => Value.int .u64 (L[i].2.getD j 0)) = L[i].2.map (Value.int .u64) := by
    apply List.ext_getElem?
    intro j
    by_cases hj : j < L[i].2.length
    · rw [List.getElem?_map, List.getElem?_range hj, List.getElem?_map, List.getElem?_eq_getElem hj, Option.map_some, Option.map_some, List.getD_eq_getElem?_getD, List.getElem?_eq_getElem hj]
      rfl
    · rw [List.getElem?_eq_none (by simp; omega), List.getElem?_eq_none (by simp; omega)]
  rw [e1]
  exact row_mono h2 (Nat.zero_le _)
theorem Bag.disV (h : Bag e base W L) : ∀ i j b, i < L.length → j < L.length → i ≠ j → (bagV L i).ownBlock = some b → (bagV L j).ownBlock ≠ some b := fun i j b hi hj hij hb => by
  have h1 := List.getElem?_eq_getElem hi
  have h2 := List.getElem?_eq_getElem hj
  unfold bagV at hb ⊢
  rw [bag_at h1] at hb
  rw [bag_at h2]
  exact h.dis i j _ _ b h1 h2 hij hb
/-- Behind what turned the first N rows' blocks alone: all below the rows is as it was; another row stays; a block of another type stays. -/
theorem Tv.belowH {N : Nat} {w : World} (h : Tv N (bagV L) W W') (hg : Bag e w.heap.size W L) (hN : N ≤ L.length) (hb : BelowH w W) : BelowH w W' :=
  ⟨⟨h.os.trans hb.out.os, h.tape.trans hb.out.tape, h.output.trans hb.out.output, Nat.le_trans hb.out.size h.size, fun k hk => (h.block k (Nat.lt_of_lt_of_le hk hb.out.size) fun i hi e1 => by
    have h1 := List.getElem?_eq_getElem (show i < L.length by omega)
    unfold bagV at e1
    rw [bag_at h1] at e1
    have := (World.ownsRow.lt (hg.row i _ h1) k e1).1
    omega).trans (hb.out.block k hk)⟩⟩
theorem Tv.row {N : Nat} (h : Tv N (bagV L) W W') (hg : Bag e base W L) (hN : N ≤ L.length) {i : Nat} {r : Value × List Int} (hi : L[i]? = some r) (hNi : N ≤ i) : RowU e base W' r := by
  refine own_move (hg.row i r hi) fun k hk => ?_
  refine h.block k (World.ownsRow.lt (hg.row i r hi) k hk).2 fun j hj e1 => ?_
  have h1 := List.getElem?_eq_getElem (show j < L.length by omega)
  unfold bagV at e1
  rw [bag_at h1] at e1
  exact hg.dis j i _ _ k h1 hi (by omega) e1 hk
theorem Tv.blk {N : Nat} (h : Tv N (bagV L) W W') (hg : Bag e base W L) (hN : N ≤ L.length) {g t : Nat} {cs : Array Value} (B : Blk W g cs t) (hte : t ≠ e) : Blk W' g cs t := ⟨(h.block g B.lt fun i hi e1 => by
    have h1 := List.getElem?_eq_getElem (show i < L.length by omega)
    unfold bagV at e1
    rw [bag_at h1] at e1
    exact B.not_row hte (hg.row i _ h1) e1.symm).trans B.out⟩
theorem Blks.cons {Bs : List (Nat × Array Value × Nat)} {g t : Nat} {cs : Array Value} (h : Blks Bs W) (B : Blk W g cs t) : Blks ((g, cs, t) :: Bs) W := ⟨fun b hb => by
  rcases List.mem_cons.1 hb with rfl | hb
  · exact B
  · exact h.out b hb⟩
theorem Blks.nil (W : World) : Blks [] W := ⟨fun b hb => by cases hb⟩
theorem Blks.fresh {Bs : List (Nat × Array Value × Nat)} (h : Blks Bs W) {g : Nat} (hg : W.heap.size ≤ g) : ∀ b ∈ Bs, b.1 ≠ g := fun b hb e1 => by
  have := (h.out b hb).lt
  omega
end
section
variable {P : Program} {ops : Array Oper} {rest : List Oper} {o : Oper} {a : Act} {Q : Exit → Act → World → Prop} {W : World}
/-- A literal of several elements. -/
theorem ev_litM (hgd : o.guard = none) (cs : Array Value) (e n : Nat)
    (hrun : (execOp a.eval o).run P W = .ok (.value (.slice (some ⟨W.heap.size, 0, none⟩) n n)) (W.alloc (.cells cs e (0, 0))))
    (h : ∀ g w1, Aside0 (W.heap.size ≤ g) → Blk w1 g cs e → Aside0 (Below W.heap.size W w1) → wpList P ops Q rest (a.put o.dst (.slice (some ⟨g, 0, none⟩) n n)) w1) : wpList P ops Q (o :: rest) a W :=
  Kd.event_run hgd hrun (h _ _ ⟨Nat.le_refl _⟩ ⟨blk_new W _⟩ ⟨below_alloc (Below.refl _ _) _⟩)
end
end Go.Proofs.YtagcilcdgckbeaaDoorM
