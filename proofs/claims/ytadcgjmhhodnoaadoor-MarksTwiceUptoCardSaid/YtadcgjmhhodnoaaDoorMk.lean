/-
  Appends to a row of the call's own that tell where the row lies behind them. No function of the program in sight.
-/
import Derived.Test.YtadcgjmhhodnoaaDoorMg
import Derived.Maps.OwnIn
namespace Go.Proofs.YtadcgjmhhodnoaaDoorM
open Go Go.RowKit Go.Lib Go.Proofs.YtadcgjmhhodnoaaDoorW.PrintWords Go.Proofs.YtadcgjmhhodnoaaDoorW.PrintLast Go.Proofs.YtadcgjmhhodnoaaDoorW.PrintMore
section
variable {F : Fence} {n : Nat} {P : Program} {ops : Array Oper} {rest : List Oper} {o : Oper} {a : Act} {Q : Exit → Act → World → Prop} {W : World}
/-- 'append(v, u)': v a row of the call's own; it lies where it lay, or in a new block. -/
theorem ev_appendAtIn {w : World} (HB : BelowH w W) (hgd : o.guard = none) (s x : Operand) (t e : TypeId) (z : Value) (size bytes : Nat) (hop : o.op = .call { callee := .builtin .append, args := #[s, x], argTypes := #[t, t] })
    (h1 : P.underlying t = some (.slice e)) (hinfo : (P.info? e).map (fun i => (i.zero, i.size, i.bytes)) = some (some z, size, bytes)) (hz : z.cells.size = size) (hsz : 0 < size) (hb0 : 0 < bytes)
    (v : Value) (k : Nat) (xs : List Value) (hs : a.eval s = v) (hrow : W.ownsRow w.heap.size e size v k xs) (g : Nat) (us : List Value) (hx : a.eval x = .slice (some ⟨g, 0, none⟩) 1 1) {t' : TypeId} (B : Blk W g us.toArray t') (hl : us.length = size) (h1c : ∀ u ∈ us, u.oneCell' = true) (b : (k + 1) * bytes ≤ 140737488355328)
    (h : ∀ v1 w1, w1.ownsRow w.heap.size e size v1 (k + 1) (xs ++ us) → BelowH w w1 → Aside0 (W.heap.size ≤ w1.heap.size ∧ ∀ j, j < W.heap.size → some j ≠ v.ownBlock → w1.heap[j]? = W.heap[j]?) → Aside0 (KeepsOthers W w1) →
      Aside0 (v1.ownBlock = v.ownBlock ∨ v1.ownBlock = some W.heap.size) → Aside0 (∃ g' cap', v1 = .slice (some ⟨g', 0, none⟩) (k + 1) cap') → wpListIn F n P ops Q rest (a.put o.dst v1) w1) :
    wpListIn F n P ops Q (o :: rest) a W := by
  obtain ⟨i, h2, h3, h4, h5⟩ := info_parts hinfo
  have hk : k + 1 ≤ (k + 1) * bytes := Nat.le_mul_of_pos_right _ hb0
  refine wpListIn_append_own_at W hgd s x t hop w.heap.size e i z size bytes h1 h2 h3 h4 h5 hz hsz v k xs hs hrow ⟨g, 0, none⟩ 1 1 us hx (by rw [hl, Nat.one_mul]) ?_ h1c (by unfold maxLen; omega) b HB.le ?_
  · intro j u' hj
    have hc := B.cell (i := j) (v := u') (by rw [List.getElem?_toArray]; exact hj)
    have ha : (⟨g, 0, none⟩ : Addr).add j = ⟨g, j, none⟩ := by rw [Addr.add_mid, Nat.zero_add]
    rw [ha]
    exact hc
  · intro v1 w1 hown hg _ hat
    obtain ⟨g', cap', e1⟩ := ownsRow_succ hown
    exact h v1 w1 hown ⟨HB.out.grown hg HB.le (fun j ej => (hrow.lt j ej).1)⟩ ⟨hg.size, fun j hj hne => hg.block j hj hne⟩ ⟨keepsOthers_rowN hrow hg⟩ ⟨hat⟩ ⟨g', cap', e1⟩
end
section
variable {W w1 : World} {g base k size : Nat} {cs : Array Value} {t e : TypeId} {v v1 : Value} {xs : List Value}
/-- A block that is not the row's abides an append to it. -/
theorem Blk.appended_ne (B : Blk W g cs t) (hne : v.ownBlock ≠ some g) (K : Aside0 (W.heap.size ≤ w1.heap.size ∧ ∀ j, j < W.heap.size → some j ≠ v.ownBlock → w1.heap[j]? = W.heap[j]?)) : Blk w1 g cs t :=
  ⟨(K.out.2 g B.lt (Ne.symm hne)).trans B.out⟩
theorem own_ne_appended (h : Aside0 (v1.ownBlock = v.ownBlock ∨ v1.ownBlock = some W.heap.size)) (hne : v.ownBlock ≠ some g) (hg : g < W.heap.size) : v1.ownBlock ≠ some g := by
  rcases h.out with e | e
  · rw [e]
    exact hne
  · rw [e]
    intro c
    injection c with c
    omega
theorem own_ne_lt (h : W.ownsRow base e size v k xs) (hg : g < base) : v.ownBlock ≠ some g := fun c => by
  have := (h.lt g c).1
  omega
theorem own_ne_new (h : W.ownsRow base e size v k xs) (hg : W.heap.size ≤ g) : v.ownBlock ≠ some g := fun c => by
  have := (h.lt g c).2
  omega
theorem heap_appended {g : Nat} (hg : g < W.heap.size) (hne : v.ownBlock ≠ some g) (K : Aside0 (W.heap.size ≤ w1.heap.size ∧ ∀ j, j < W.heap.size → some j ≠ v.ownBlock → w1.heap[j]? = W.heap[j]?)) : w1.heap[g]? = W.heap[g]? := K.out.2 g hg (Ne.symm hne)
/-- A store into a block that is not the row's. -/
theorem row_other_ne (h : W.ownsRow base e size v k xs) (hne : v.ownBlock ≠ some g) (K : Aside0 (W.heap.size ≤ w1.heap.size ∧ ∀ j, j ≠ g → w1.heap[j]? = W.heap[j]?)) : w1.ownsRow base e size v k xs :=
  own_move h fun j ej => K.out.2 j fun c => hne (c ▸ ej)
/-- An owned row of wider elements, opened: its cells. -/
theorem row_openN (h : W.ownsRow base e size v k xs) : (v = .slice none 0 0 ∧ k = 0) ∨ ∃ g cap cur, v = .slice (some ⟨g, 0, none⟩) k cap ∧ base ≤ g ∧ Blk W g cur e ∧ ∀ (i : Nat) (u : Value), xs[i]? = some u → cur[i]? = some u := by
  rcases h.2 with h0 | ⟨g, cap, cur, rfl, hb, hgb, h1, h2, h3, h4⟩
  · exact .inl h0
  · refine .inr ⟨g, cap, cur, rfl, hb, ⟨hgb⟩, fun i u hi => ?_⟩
    rw [← h4, List.getElem?_take] at hi
    split at hi
    · rw [Array.getElem?_toList] at hi
      exact hi
    · cases hi
end
end Go.Proofs.YtadcgjmhhodnoaaDoorM
