/-
  Several rows of whole numbers of one kind that were handed out one behind the other: each has a block of its own. No function of the program in sight.
-/
import Derived.Test.YtagcilcdgckbeaaDoorMo
namespace Go.Proofs.YtagcilcdgckbeaaDoorM
open Go Go.RowKit Go.Lib Go.Proofs.YtagcilcdgckbeaaDoorW.PrintWords Go.Proofs.YtagcilcdgckbeaaDoorW.PrintLast Go.Proofs.YtagcilcdgckbeaaDoorW.PrintMore
/-- A row of words that owns its block. -/
def RowK (q : IntKind) (e : TypeId) (base : Nat) (W : World) (r : Value × List Int) : Prop := W.ownsRow base e 1 r.1 r.2.length (r.2.map (Value.int q))
structure BagK (q : IntKind) (e : TypeId) (base : Nat) (W : World) (L : List (Value × List Int)) : Prop where mk ::
  row : ∀ (i : Nat) (r : Value × List Int), L[i]? = some r → RowK q e base W r
  dis : ∀ (i j : Nat) (r q : Value × List Int) (b : Nat), L[i]? = some r → L[j]? = some q → i ≠ j → r.1.ownBlock = some b → q.1.ownBlock ≠ some b
section
variable {q : IntKind} {e : TypeId} {base : Nat} {W W' : World} {L : List (Value × List Int)}
theorem BagK.nil (q : IntKind) (e : TypeId) (base : Nat) (W : World) : BagK q e base W [] := ⟨fun i r h => by simp at h, fun i j r q b h => by simp at h⟩
theorem BagK.below (h : BagK q e base W L) (hb : Below W.heap.size W W') : BagK q e base W' L := ⟨fun i r hr => row_below (h.row i r hr) hb, h.dis⟩
theorem BagK.other (h : BagK q e base W L) {g t : Nat} {cs : Array Value} (B : Blk W g cs t) (hte : t ≠ e) (K : Aside0 (W.heap.size ≤ W'.heap.size ∧ ∀ k, k ≠ g → W'.heap[k]? = W.heap[k]?)) : BagK q e base W' L := ⟨fun i r hr => row_other (h.row i r hr) B hte K, h.dis⟩
theorem BagK.snoc (h : BagK q e base W L) (hbase : base ≤ W.heap.size) (hb : Below W.heap.size W W') {v : Value} {xs : List Int} {n : Nat} (hn : xs.length = n) (hr : W'.ownsRow W.heap.size e 1 v n (xs.map (Value.int q))) : BagK q e base W' (L ++ [(v, xs)]) := by
  subst hn
  have hget : ∀ (i : Nat) (r : Value × List Int), (L ++ [(v, xs)])[i]? = some r → L[i]? = some r ∨ (i = L.length ∧ r = (v, xs)) := fun i r hi => by
    by_cases hl : i < L.length
    · rw [List.getElem?_append_left hl] at hi
      exact .inl hi
    · rw [List.getElem?_append_right (by omega)] at hi
      obtain ⟨d, hd⟩ : ∃ d, i - L.length = d := ⟨_, rfl⟩
      rw [hd] at hi
      cases d with
      | zero => simp at hi; exact .inr ⟨by omega, hi.symm⟩
      | succ d => simp at hi
  refine ⟨fun i r hi => ?_, fun i j r q b hi hj hij hb1 hb2 => ?_⟩
  · rcases hget i r hi with h1 | ⟨_, rfl⟩
    · exact row_below (h.row i r h1) hb
    · exact row_mono hr hbase
  · rcases hget i r hi with h1 | ⟨e1, rfl⟩
    · rcases hget j q hj with h2 | ⟨e2, rfl⟩
      · exact h.dis i j r q b h1 h2 hij hb1 hb2
      · have a1 := (World.ownsRow.lt (h.row i r h1) b hb1).2
        have a2 := (hr.lt b hb2).1
        omega
    · rcases hget j q hj with h2 | ⟨e2, rfl⟩
      · have a1 := (World.ownsRow.lt (h.row j q h2) b hb2).2
        have a2 := (hr.lt b hb1).1
        omega
      · omega
theorem RowK.reads {r : Value × List Int} {A : Option Addr} {n c : Nat} (h : RowK q e base W r) (hv : r.1 = .slice A n c) (hn : r.2.length = n) : n ≤ c ∧ Kd.C (Kd.int q) W A n r.2 := by
  subst hn
  have h1 : Kd.R (Kd.int q) e W base (fun _ => True) r.1 r.2 := Kd.R_of_own h (fun _ _ => trivial)
  rw [hv] at h1
  exact (Kd.R_reads' h1).2
/-- The values, their lengths, their elements by number. -/
def bgV (L : List (Value × List Int)) (i : Nat) : Value := (L.getD i (.slice none 0 0, [])).1
def bgN (L : List (Value × List Int)) (i : Nat) : Nat := (L.getD i (.slice none 0 0, [])).2.length
def bgC (q : IntKind) (L : List (Value × List Int)) (i j : Nat) : Value := .int q ((L.getD i (.slice none 0 0, [])).2.getD j 0)
theorem bg_at {i : Nat} {r : Value × List Int} (h : L[i]? = some r) : L.getD i (.slice none 0 0, []) = r := by rw [List.getD_eq_getElem?_getD, h]; rfl
theorem BagK.rowF (h : BagK q e base W L) {i : Nat} (hi : i < L.length) : RowF W e (bgV L i) (bgN L i) (bgC q L i) := by
  have h1 := List.getElem?_eq_getElem hi
  have h2 := h.row i _ h1
  unfold bgV bgN bgC RowF
  rw [bg_at h1]
  have e1 : (List.range L[i].2.length).map (fun j => Value.int q (L[i].2.getD j 0)) = L[i].2.map (Value.int q) := by
    apply List.ext_getElem?
    intro j
    by_cases hj : j < L[i].2.length
    · rw [List.getElem?_map, List.getElem?_range hj, List.getElem?_map, List.getElem?_eq_getElem hj, Option.map_some, Option.map_some, List.getD_eq_getElem?_getD, List.getElem?_eq_getElem hj]
      rfl
    · rw [List.getElem?_eq_none (by simp; omega), List.getElem?_eq_none (by simp; omega)]
  rw [e1]
  exact row_mono h2 (Nat.zero_le _)
theorem BagK.disV (h : BagK q e base W L) : ∀ i j b, i < L.length → j < L.length → i ≠ j → (bgV L i).ownBlock = some b → (bgV L j).ownBlock ≠ some b := fun i j b hi hj hij hb => by
  have h1 := List.getElem?_eq_getElem hi
  have h2 := List.getElem?_eq_getElem hj
  unfold bgV at hb ⊢
  rw [bg_at h1] at hb
  rw [bg_at h2]
  exact h.dis i j _ _ b h1 h2 hij hb
/-- Behind what turned the first N rows' blocks alone: all below the rows is as it was; another row stays; a block of another type stays. -/
theorem Tv.belowHK {N : Nat} {w : World} (h : Tv N (bgV L) W W') (hg : BagK q e w.heap.size W L) (hN : N ≤ L.length) (hb : BelowH w W) : BelowH w W' :=
  ⟨⟨h.os.trans hb.out.os, h.tape.trans hb.out.tape, h.output.trans hb.out.output, Nat.le_trans hb.out.size h.size, fun k hk => (h.block k (Nat.lt_of_lt_of_le hk hb.out.size) fun i hi e1 => by
    have h1 := List.getElem?_eq_getElem (show i < L.length by omega)
    unfold bgV at e1
    rw [bg_at h1] at e1
    have := (World.ownsRow.lt (hg.row i _ h1) k e1).1
    omega).trans (hb.out.block k hk)⟩⟩
theorem Tv.rowK {N : Nat} (h : Tv N (bgV L) W W') (hg : BagK q e base W L) (hN : N ≤ L.length) {i : Nat} {r : Value × List Int} (hi : L[i]? = some r) (hNi : N ≤ i) : RowK q e base W' r := by
  refine own_move (hg.row i r hi) fun k hk => ?_
  refine h.block k (World.ownsRow.lt (hg.row i r hi) k hk).2 fun j hj e1 => ?_
  have h1 := List.getElem?_eq_getElem (show j < L.length by omega)
  unfold bgV at e1
  rw [bg_at h1] at e1
  exact hg.dis j i _ _ k h1 hi (by omega) e1 hk
theorem Tv.blkK {N : Nat} (h : Tv N (bgV L) W W') (hg : BagK q e base W L) (hN : N ≤ L.length) {g t : Nat} {cs : Array Value} (B : Blk W g cs t) (hte : t ≠ e) : Blk W' g cs t := ⟨(h.block g B.lt fun i hi e1 => by
    have h1 := List.getElem?_eq_getElem (show i < L.length by omega)
    unfold bgV at e1
    rw [bg_at h1] at e1
    exact B.not_row hte (hg.row i _ h1) e1.symm).trans B.out⟩
/-- A row of another type stays. -/
theorem Tv.rowTK {N : Nat} (h : Tv N (bgV L) W W') (hg : BagK q e base W L) (hN : N ≤ L.length) {e' b' n : Nat} {v : Value} {xs : List Value} (hte : e' ≠ e) (hr : W.ownsRow b' e' 1 v n xs) : W'.ownsRow b' e' 1 v n xs := by
  refine own_move hr fun k hk => ?_
  refine h.block k (World.ownsRow.lt hr k hk).2 fun i hi e1 => ?_
  have h1 := List.getElem?_eq_getElem (show i < L.length by omega)
  unfold bgV at e1
  rw [bg_at h1] at e1
  obtain ⟨c1, q1⟩ := own_typed hr k hk
  obtain ⟨c2, q2⟩ := own_typed (hg.row i _ h1) k e1
  rw [q1] at q2
  simp at q2
  exact hte q2.2
theorem Tv.bagTK {q' : IntKind} {e' base' : Nat} {L' : List (Value × List Int)} {N : Nat} (h : Tv N (bgV L) W W') (hg : BagK q e base W L) (hN : N ≤ L.length) (hte : e' ≠ e) (hr : BagK q' e' base' W L') : BagK q' e' base' W' L' :=
  ⟨fun i r hi => Tv.rowTK h hg hN hte (hr.row i r hi), hr.dis⟩
end
end Go.Proofs.YtagcilcdgckbeaaDoorM
