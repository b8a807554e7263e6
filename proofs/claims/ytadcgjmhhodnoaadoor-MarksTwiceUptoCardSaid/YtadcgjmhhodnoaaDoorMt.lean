/-
  A list of texts that grows in the rounds of a range over a function, beside one that stays. No function of the program in sight.
-/
import Derived.Test.YtadcgjmhhodnoaaDoorMn
import Derived.Test.YtadcgjmhhodnoaaDoorMl
namespace Go.Proofs.YtadcgjmhhodnoaaDoorM
open Go Go.RowKit Go.Lib Go.Proofs.YtadcgjmhhodnoaaDoorW.PrintWords Go.Proofs.YtadcgjmhhodnoaaDoorW.PrintLast Go.Proofs.YtadcgjmhhodnoaaDoorW.PrintMore
section
variable {ops : Array Oper} {P : Program} {o : Oper} {a : Act} {K : Act → World → Prop} {Q : Exit → Act → World → Prop} {W : World}
/-- 'append(v, news..)' in a region that draws its order. -/
theorem rg_append2 (hw : Region.wanted o (yielded ops a.tmps) = true) (s x : Operand) (t e : TypeId) (z : Value) (bytes : Nat) (hop : o.op = .call { callee := .builtin .append, args := #[s, x], argTypes := #[t, t] })
    (h1 : P.underlying t = some (.slice e)) (hinfo : (P.info? e).map (fun i => (i.zero, i.size, i.bytes)) = some (some z, 1, bytes)) (hz : z.cells.size = 1) (hb0 : 0 < bytes)
    (v : Value) (k : Nat) (xs : List Value) {base : Nat} (hrow : W.ownsRow base e 1 v k xs) (hs : a.eval s = v) (ad : Addr) (m c : Nat) (news : List Value) (hx : a.eval x = .slice (some ad) m c) (hl : news.length = m) (hm : 0 < m)
    (hnews : ∀ j u, news[j]? = some u → W.cell? (ad.add j) = some u) (h1c : ∀ u ∈ news, u.oneCell' = true) (b : (k + m) * bytes ≤ 140737488355328)
    (h : ∀ v1 w1, Aside0 (Appended W w1 e v v1 k (k + m) (xs ++ news)) → K (a.put o.dst v1) w1) :
    if Region.wanted o (yielded ops a.tmps) = true then Oper.wp P o a W K Q else K (a.put o.dst undef) W := by
  rw [if_pos hw]
  obtain ⟨i, h2, h3, h4, h5⟩ := info_parts hinfo
  have hk : k + m ≤ (k + m) * bytes := Nat.le_mul_of_pos_right _ hb0
  obtain ⟨v', w', hr, hA⟩ := run_append_two (P := P) W base t o.type e i z bytes h1 h2 h3 h4 h5 hz v k xs hrow ad m c news hl hm hnews h1c (by unfold maxLen; omega) b
  unfold Oper.wp execOp
  simp only [hop, resolve, invoke, builtin, Sem.run_bind, Sem.run_pure, Result.andThen_ok, List.map_toArray, List.map_cons, List.map_nil, hs, hx, hr]
  exact h v' w' ⟨hA⟩
end
theorem row_turned {X : List Nat} {W W' : World} {base e size n : Nat} {v : Value} {xs : List Value} (h : W.ownsRow base e size v n xs) (ht : Turned X W W') (hv : ∀ b, v.ownBlock = some b → b ∉ X) : W'.ownsRow base e size v n xs :=
  own_move h fun k hk => ht.block k (World.ownsRow.lt h k hk).2 (hv k hk)
/-- The list in gG grows; the one in gF stays. e: the type of a text, se: of a list of texts. -/
structure GrI (e se : TypeId) (sG sF : List ByteArray) (vF : Value) (wA : World) (gG gF m : Nat) (X : List Nat) (W : World) : Prop where mk ::
  g : ∃ v, Blk W gG #[v] se ∧ W.ownsRow 0 e 1 v sG.length (sG.map Value.string) ∧ ∀ b, v.ownBlock = some b → m ≤ b ∧ b ∉ X
  f : Blk W gF #[vF] se ∧ W.ownsRow 0 e 1 vF sF.length (sF.map Value.string) ∧ ∀ b, vF.ownBlock = some b → b < m
  hb : BelowH wA W
  sz : m ≤ W.heap.size
theorem blk_same {W : World} {g t : Nat} {a b : Value} (h : Blk W g #[a] t) (k : Blk W g #[b] t) : a = b := by
  have := h.out
  rw [k.out] at this
  simp at this
  exact this.symm
section
variable {e se : TypeId} {sG sF : List ByteArray} {vF : Value} {wA : World} {gG gF m : Nat} {X : List Nat} {W W' : World}
theorem GrI.kept (h : GrI e se sG sF vF wA gG gF m X W) {B : Nat} (hB : wA.heap.size ≤ B) {row : Option Nat} (hg : W.grownBy W' row) (hr : ∀ r, row = some r → B ≤ r ∧ ∃ o : Obj, W.heap[r]? = some o ∧ o.isCells = false) : GrI e se sG sF vF wA gG gF m X W' := by
  have hr' : ∀ r, row = some r → ∃ o : Obj, W.heap[r]? = some o ∧ o.isCells = false := fun r e => (hr r e).2
  obtain ⟨v, a1, a2, a3⟩ := h.g
  obtain ⟨b1, b2, b3⟩ := h.f
  exact ⟨⟨v, a1.kept hg hr', row_kept a2 hg hr', a3⟩, ⟨b1.kept hg hr', row_kept b2 hg hr', b3⟩, h.hb.kept hg hB (fun r e => (hr r e).1), Nat.le_trans h.sz hg.size⟩
theorem GrI.below (h : GrI e se sG sF vF wA gG gF m X W) (hb : Below W.heap.size W W') : GrI e se sG sF vF wA gG gF m X W' := by
  obtain ⟨v, a1, a2, a3⟩ := h.g
  obtain ⟨b1, b2, b3⟩ := h.f
  exact ⟨⟨v, a1.below hb, row_below a2 hb, a3⟩, ⟨b1.below hb, row_below b2 hb, b3⟩, h.hb.step hb, Nat.le_trans h.sz hb.size⟩
theorem GrI.turned (h : GrI e se sG sF vF wA gG gF m X W) (hX : ∀ k ∈ X, m ≤ k) (ht : Turned X W W') (hG : gG < m) (hF : gF < m) (hA : wA.heap.size ≤ m) : GrI e se sG sF vF wA gG gF m X W' := by
  obtain ⟨v, a1, a2, a3⟩ := h.g
  obtain ⟨b1, b2, b3⟩ := h.f
  exact ⟨⟨v, a1.turned ht (not_mem_above hX hG), row_turned a2 ht (fun b hb => (a3 b hb).2), a3⟩, ⟨b1.turned ht (not_mem_above hX hF), row_turned b2 ht (fun b hb => not_mem_above hX (b3 b hb)), b3⟩, ⟨ht.below (fun k hk => Nat.le_trans hA (hX k hk)) h.hb.le h.hb.out⟩, Nat.le_trans h.sz ht.size⟩
theorem GrI.more (h : GrI e se sG sF vF wA gG gF m X W) {k : Nat} (hk : W.heap.size ≤ k) : GrI e se sG sF vF wA gG gF m (k :: X) W := by
  obtain ⟨v, a1, a2, a3⟩ := h.g
  refine ⟨⟨v, a1, a2, fun b hb => ⟨(a3 b hb).1, fun c => ?_⟩⟩, h.f, h.hb, h.sz⟩
  rcases List.mem_cons.1 c with e1 | c
  · have := (World.ownsRow.lt a2 b hb).2
    omega
  · exact (a3 b hb).2 c
/-- One text more: 'append' and the store. What else there is stays: the blocks of X, and all below m but gG. -/
theorem GrI.grow (h : GrI e se sG sF vF wA gG gF m X W) (hes : se ≠ e) (hne : gG ≠ gF) (hG : gG < m) (hGA : wA.heap.size ≤ gG) (hX : ∀ k ∈ X, k < W.heap.size) (hXm : ∀ k ∈ X, m ≤ k) {u : ByteArray} : ∃ v, Blk W gG #[v] se ∧ W.ownsRow 0 e 1 v sG.length (sG.map Value.string) ∧
    ∀ v' W1 W2, Appended W W1 e v v' sG.length (sG.length + 1) (sG.map Value.string ++ [.string u]) → (Blk W1 gG #[v] se ∧ v'.oneCell' = true) ∧ (Blk W2 gG #[v'] se → W1.grownBy W2 (some gG) →
      GrI e se (sG ++ [u]) sF vF wA gG gF m X W2 ∧ (∀ k ∈ X, W2.heap[k]? = W.heap[k]?) ∧ (∀ k, k < m → k ≠ gG → W2.heap[k]? = W.heap[k]?) ∧ W.heap.size ≤ W2.heap.size ∧ KeepsOthers W W2) := by
  obtain ⟨v, a1, a2, a3⟩ := h.g
  obtain ⟨b1, b2, b3⟩ := h.f
  refine ⟨v, a1, a2, fun v' W1 W2 hAp => ?_⟩
  have hz := h.sz
  -- what append leaves
  obtain ⟨row, hg, hrow, hr1, hr2, ho⟩ : ∃ row : Option Nat, W.grownBy W1 row ∧ W1.ownsRow 0 e 1 v' (sG.length + 1) (sG.map Value.string ++ [.string u]) ∧ (∀ b, row = some b → m ≤ b ∧ b ∉ X ∧ v.ownBlock = some b) ∧ (∀ b, v'.ownBlock = some b → m ≤ b ∧ b ∉ X) ∧ v'.oneCell' = true := by
    rcases hAp with ⟨g, cap, rfl, rfl, q1, q2⟩ | ⟨cap, rfl, q1, q2⟩
    · exact ⟨some g, q2, q1, fun b hb => (by cases hb; exact ⟨(a3 g rfl).1, (a3 g rfl).2, rfl⟩), fun b hb => (by cases hb; exact a3 g rfl), rfl⟩
    · exact ⟨none, q2, q1, fun b hb => (by cases hb), fun b hb => (by cases hb; exact ⟨hz, fun c => Nat.lt_irrefl _ (hX _ c)⟩), rfl⟩
  have hG1 : Blk W1 gG #[v] se := ⟨(hg.block gG a1.lt (fun e1 => by have := (hr1 gG e1.symm).1; omega)).trans a1.out⟩
  have hgF : gF < W.heap.size := b1.lt
  have nF : some gF ≠ row := fun e1 => b1.not_row hes a2 (by rw [(hr1 gF e1.symm).2.2])
  refine ⟨⟨hG1, ho⟩, fun B2 hg2 => ?_⟩
  have both : ∀ k, k < W.heap.size → some k ≠ row → k ≠ gG → W2.heap[k]? = W.heap[k]? := fun k hk h1 h2 => (hg2.block k (Nat.lt_of_lt_of_le hk hg.size) (fun e1 => h2 (by injection e1))).trans (hg.block k hk h1)
  have hbl : BelowH wA W2 := ⟨⟨hg2.os.trans (hg.os.trans h.hb.out.os), hg2.tape.trans (hg.tape.trans h.hb.out.tape), hg2.output.trans (hg.output.trans h.hb.out.output), Nat.le_trans h.hb.le (Nat.le_trans hg.size hg2.size), fun k hk => (both k (Nat.lt_of_lt_of_le hk h.hb.le) (fun e1 => by have := (hr1 k e1.symm).1; omega) (by omega)).trans (h.hb.out.block k hk)⟩⟩
  refine ⟨⟨⟨v', B2, ?_, hr2⟩, ⟨⟨(both gF hgF nF (Ne.symm hne)).trans b1.out⟩, ?_, b3⟩, hbl, Nat.le_trans hz (Nat.le_trans hg.size hg2.size)⟩, fun k hk => both k (hX k hk) (fun e1 => (hr1 k e1.symm).2.1 hk) (by have := hXm k hk; omega), fun k hk h2 => both k (by omega) (fun e1 => by have := (hr1 k e1.symm).1; omega) h2, Nat.le_trans hg.size hg2.size, ?_⟩
  · rw [List.length_append, List.length_singleton, List.map_append]
    refine own_move hrow fun k hk => hg2.block k (World.ownsRow.lt hrow k hk).2 fun e1 => ?_
    injection e1 with e1
    have := (hr2 k hk).1
    omega
  · refine own_move b2 fun k hk => both k (World.ownsRow.lt b2 k hk).2 (fun e1 => ?_) (fun e1 => ?_)
    · have q1 := (hr1 k e1.symm).1
      have q2 := b3 k hk
      omega
    · subst e1
      exact a1.not_row hes b2 hk.symm
  · refine KeepsOthers.trans ⟨hg.size, fun k o hk ho => ?_⟩ ⟨hg2.size, fun k o hk ho => ?_⟩
    · refine (hg.block k (Array.getElem?_eq_some_iff.1 hk).1 (fun e1 => ?_)).trans hk
      obtain ⟨cs, hc⟩ := own_typed a2 k (hr1 k e1.symm).2.2
      rw [hc] at hk
      cases hk
      cases ho
    · refine (hg2.block k (Array.getElem?_eq_some_iff.1 hk).1 (fun e1 => ?_)).trans hk
      injection e1 with e1
      subst e1
      rw [hG1.out] at hk
      cases hk
      cases ho
end
end Go.Proofs.YtadcgjmhhodnoaaDoorM
