-- Written by a program (myprint.py, over the kit's print) for this claim. Not trusted: Lean checks it.
import Derived.Test.YtagcilcdgckbeaaDoorPKx0
namespace Go.Proofs.YtagcilcdgckbeaaDoor.PK
open Go.RowKit Go.Proofs.YtagcilcdgckbeaaDoorW.PrintWords Go.Proofs.YtagcilcdgckbeaaDoorW.PrintLast Go.Proofs.YtagcilcdgckbeaaDoorW.PrintMore
attribute [local go_sem] max2_int min2_int max_two min_two max_three min_three max_four min_four   -- for this text's walks alone
set_option linter.unusedVariables false
set_option linter.unusedSimpArgs false

/-! ### quarrykit_ApartWords: function 12 -/
section
open Go.Proofs.YtagcilcdgckbeaaDoorQ Go.Proofs.YtagcilcdgckbeaaDoorM
namespace ApWords
def mkI (k i : Int) : Int := wrap64 ((wrap64 (1000003 * (wrap64 (k + 7)))) + i)
def mkv (k i : Nat) : Value := Value.int .u64 (IntKind.u64.wrap (mkI (k : Int) (i : Int)))
theorem mkv_one (k i : Nat) : (mkv k i).oneCell' = true := rfl
theorem mark_calls (k i : Int) (w : World) : Calls Tryd.prog 19 #[.int .i64 k, .int .i64 i] w fun e w' => e = .returned (.int .i64 (mkI k i)) ∧ Below w.heap.size w w' := by
  go_enter Tryd.func19, Tryd.ntmps19
  go_wp2
  go_ret
  refine ⟨?_, by repeat (first | exact Below.refl _ _ | apply below_drew | apply pw_below_drewN)⟩
  unfold mkI
  first | rfl | (simp; done) | (simp [i64_w])
/-- Marked up to the place i of the row k. -/
def Ph1 (N : Nat) (v : Nat → Value) (n : Nat → Nat) (w : World) (gl : Nat) (curL : Array Value) (k i : Nat) (W : World) : Prop :=
  ∃ c, ApW 41 25 N v n w gl curL v n c c W ∧ ∀ a j, (a < k ∨ (a = k ∧ j < i)) → c a j = mkv a j
/-- The first k have grown. -/
def Ph2 (N : Nat) (v : Nat → Value) (n : Nat → Nat) (w : World) (gl : Nat) (curL : Array Value) (k : Nat) (v5 : Value) (W : World) : Prop :=
  ∃ gv m, ApW 41 25 N v n w gl curL gv m mkv mkv W ∧ (∀ a, a < k → m a = n a + 64) ∧ (∀ a, k ≤ a → a < N → gv a = v a ∧ m a = n a) ∧ RowF W 25 v5 k gv ∧ ∀ b, v5.ownBlock = some b → w.heap.size ≤ b
/-- The one of number k has grown by i. -/
def Ph2i (N : Nat) (v : Nat → Value) (n : Nat → Nat) (w : World) (gl : Nat) (curL : Array Value) (k : Nat) (v5 : Value) (i : Nat) (v7 : Value) (W : World) : Prop :=
  ∃ gv m, ApW 41 25 N v n w gl curL gv m mkv mkv W ∧ (∀ a, a < k → m a = n a + 64) ∧ (∀ a, k < a → a < N → gv a = v a ∧ m a = n a) ∧ gv k = v7 ∧ m k = n k + i ∧ RowF W 25 v5 k gv ∧ ∀ b, v5.ownBlock = some b → w.heap.size ≤ b
/-- Each that has grown begins as it was. -/
def Ph4 (N : Nat) (v : Nat → Value) (n : Nat → Nat) (w : World) (gl : Nat) (curL : Array Value) (v5 : Value) (W : World) : Prop :=
  ∃ gv m d, ApW 41 25 N v n w gl curL gv m mkv d W ∧ (∀ a, a < N → n a ≤ m a ∧ ∀ j, j < n a → d a j = mkv a j) ∧ RowF W 25 v5 N gv ∧ ∀ b, v5.ownBlock = some b → w.heap.size ≤ b
/-- Beside them a row of its own. -/
def Ph4i (N : Nat) (v : Nat → Value) (n : Nat → Nat) (w : World) (gl : Nat) (curL : Array Value) (v5 : Value) (p : Nat) (v12 : Value) (W : World) : Prop :=
  ∃ gv m d, ApW 41 25 N v n w gl curL gv m mkv d W ∧ (∀ a, a < N → n a ≤ m a ∧ ∀ j, j < n a → d a j = mkv a j) ∧ RowF W 25 v5 N gv ∧ (∀ b, v5.ownBlock = some b → w.heap.size ≤ b) ∧
    (∃ f, RowF W 41 v12 p f ∧ ∀ j, j < p → (f j).oneCell' = true) ∧ ∀ b, v12.ownBlock = some b → w.heap.size ≤ b ∧ ∀ a, a < N → (gv a).ownBlock ≠ some b
section
variable {N : Nat} {v : Nat → Value} {n : Nat → Nat} {w : World} {gl : Nat} {curL : Array Value} {W W' : World} {k i : Nat} {v5 v7 v12 : Value}
theorem hes : (41 : Nat) ≠ 25 := by decide
theorem Ph1.below (h : Ph1 N v n w gl curL k i W) (hb : Below W.heap.size W W') : Ph1 N v n w gl curL k i W' := by
  obtain ⟨c, h1, h2⟩ := h
  exact ⟨c, h1.below hb, h2⟩
theorem Ph1.next (h : Ph1 N v n w gl curL k (n k) W) : Ph1 N v n w gl curL (k + 1) 0 W := by
  obtain ⟨c, h1, h2⟩ := h
  refine ⟨fun a j => if a = k then (if j < n k then c a j else mkv a j) else c a j, ?_, fun a j ho => ?_⟩
  · have e : ∀ a, a < N → RowF W 41 (v a) (n a) (fun j => if a = k then (if j < n k then c a j else mkv a j) else c a j) := fun a ha => (h1.ap.ls a ha).congr fun j hj => by
      by_cases e1 : a = k
      · subst e1
        simp [hj]
      · simp [e1]
    exact ⟨⟨e, e, h1.ap.dis⟩, h1.fr, h1.vl, h1.lo, h1.gl_, h1.tv⟩
  · have ha : a < k + 1 := by omega
    by_cases e1 : a = k
    · subst e1
      by_cases hj : j < n a
      · simp only [if_true, hj]
        exact h2 a j (.inr ⟨rfl, hj⟩)
      · simp [hj]
    · simp only [e1, if_false]
      exact h2 a j (.inl (by omega))
theorem Ph1.put (h : Ph1 N v n w gl curL k i W) (hk : k < N) (hi : i < n k) : ∃ g cap cur, v k = .slice (some ⟨g, 0, none⟩) (n k) cap ∧ Blk W g cur 41 ∧ i < cur.size ∧
    ∀ W', Blk W' g (cur.setIfInBounds i (mkv k i)) 41 → W.grownBy W' (some g) → Ph1 N v n w gl curL k (i + 1) W' := by
  obtain ⟨c, h1, h2⟩ := h
  obtain ⟨g, cap, cur, e1, e2, e3, e4⟩ := h1.put hk hi
  refine ⟨g, cap, cur, e1, e2, e3, fun W' B' hg => ?_⟩
  obtain ⟨c', q1, q2⟩ := e4 W' (mkv k i) B' hg
  refine ⟨c', q1, fun a j ho => ?_⟩
  rw [q2]
  by_cases e : a = k ∧ j = i
  · rw [if_pos e, e.1, e.2]
  · rw [if_neg e]
    exact h2 a j (by omega)
theorem Ph1.to2 (h : Ph1 N v n w gl curL N 0 W) : Ph2 N v n w gl curL 0 (.slice none 0 0) W := by
  obtain ⟨c, h1, h2⟩ := h
  have e : ∀ a, a < N → RowF W 41 (v a) (n a) (mkv a) := fun a ha => (h1.ap.ls a ha).congr fun j _ => h2 a j (.inl ha)
  exact ⟨v, n, ⟨⟨e, e, h1.ap.dis⟩, h1.fr, h1.vl, h1.lo, h1.gl_, h1.tv⟩, fun a ha => absurd ha (Nat.not_lt_zero _), fun a _ _ => ⟨rfl, rfl⟩, World.ownsRow_nil W 0 25 1, fun b hb => by cases hb⟩
theorem Ph2.begin (h : Ph2 N v n w gl curL k v5 W) (hk : k < N) : Ph2i N v n w gl curL k v5 0 (v k) W := by
  obtain ⟨gv, m, h1, h2, h3, h4, h5⟩ := h
  exact ⟨gv, m, h1, h2, fun a ha hN => h3 a (by omega) hN, (h3 k (Nat.le_refl _) hk).1, (h3 k (Nat.le_refl _) hk).2, h4, h5⟩
theorem Ph2i.below (h : Ph2i N v n w gl curL k v5 i v7 W) (hb : Below W.heap.size W W') : Ph2i N v n w gl curL k v5 i v7 W' := by
  obtain ⟨gv, m, h1, h2, h3, h4, h5, h6, h7⟩ := h
  exact ⟨gv, m, h1.below hb, h2, h3, h4, h5, row_below h6 hb, h7⟩
theorem Ph2.below (h : Ph2 N v n w gl curL k v5 W) (hb : Below W.heap.size W W') : Ph2 N v n w gl curL k v5 W' := by
  obtain ⟨gv, m, h1, h2, h3, h6, h7⟩ := h
  exact ⟨gv, m, h1.below hb, h2, h3, row_below h6 hb, h7⟩
theorem Ph4.below (h : Ph4 N v n w gl curL v5 W) (hb : Below W.heap.size W W') : Ph4 N v n w gl curL v5 W' := by
  obtain ⟨gv, m, d, h1, h2, h6, h7⟩ := h
  exact ⟨gv, m, d, h1.below hb, h2, row_below h6 hb, h7⟩
theorem Ph4i.below (h : Ph4i N v n w gl curL v5 i v12 W) (hb : Below W.heap.size W W') : Ph4i N v n w gl curL v5 i v12 W' := by
  obtain ⟨gv, m, d, h1, h2, h6, h7, ⟨f, h8, h10⟩, h9⟩ := h
  exact ⟨gv, m, d, h1.below hb, h2, row_below h6 hb, h7, ⟨f, row_below h8 hb, h10⟩, h9⟩
theorem range_snoc (f : Nat → Value) (p : Nat) (x : Value) : (List.range p).map f ++ [x] = (List.range (p + 1)).map (fun j => if j = p then x else f j) := by
  rw [List.range_succ, List.map_append]
  congr 1
  · exact List.map_congr_left fun j hj => by rw [if_neg (by have := List.mem_range.1 hj; omega)]
  · simp
/-- A row of another type abides an append. -/
theorem rowSE {base q : Nat} {x x' : Value} {m m' : Nat} {xs ys : List Value} {v5 : Value} {f : Nat → Value} (h : RowF W 25 v5 q f) (hx : W.ownsRow base 41 1 x m xs) (hA : Appended W W' 41 x x' m m' ys) : RowF W' 25 v5 q f := by
  rcases hA with ⟨g, cap, rfl, rfl, _, hg⟩ | ⟨cap, rfl, _, hg⟩
  · refine h.kept hg ?_
    cases hv : v5.ownBlock with
    | none => exact .inl rfl
    | some b =>
      refine .inr fun e => ?_
      injection e with e
      subst e
      obtain ⟨cur, B⟩ := h.typed hv
      obtain ⟨cur2, B2⟩ := RowF.typed (f := fun j => xs.getD j undef) (n := m) (v := .slice (some ⟨b, 0, none⟩) m cap) (show W.ownsRow 0 41 1 _ m _ from by
        have hl : xs.length = m := by rw [hx.1, Nat.mul_one]
        have e1 : (List.range m).map (fun j => xs.getD j undef) = xs := by
          apply List.ext_getElem?
          intro j
          by_cases hj : j < m
          · rw [List.getElem?_map, List.getElem?_range hj, Option.map_some, List.getD_eq_getElem?_getD, List.getElem?_eq_getElem (by omega)]
            rfl
          · rw [List.getElem?_eq_none (by simp; omega), List.getElem?_eq_none (by omega)]
        rw [e1]
        exact ⟨hx.1, hx.2.imp id fun ⟨g, c, cu, r⟩ => ⟨g, c, cu, r.1, Nat.zero_le _, r.2.2⟩⟩) rfl
      have := B.out
      rw [B2.out] at this
      simp at this
  · exact h.kept hg (by cases v5.ownBlock <;> simp)
theorem Ph2i.row (h : Ph2i N v n w gl curL k v5 i v7 W) (hk : k < N) : RowF W 41 v7 (n k + i) (mkv k) := by
  obtain ⟨gv, m, h1, h2, h3, h4, h5, h6, h7⟩ := h
  have := h1.ap.gs k hk
  rwa [h4, h5] at this
theorem Ph2i.grow (h : Ph2i N v n w gl curL k v5 i v7 W) (hk : k < N) {x' : Value} (hA : Appended W W' 41 v7 x' (n k + i) (n k + i + 1) ((List.range (n k + i)).map (mkv k) ++ [mkv k (n k + i)])) : Ph2i N v n w gl curL k v5 (i + 1) x' W' := by
  have hr := h.row hk
  obtain ⟨gv, m, h1, h2, h3, h4, h5, h6, h7⟩ := h
  have q := h1.grow hk (.inl h4.symm) hr (Nat.le_add_right _ _) (Nat.le_succ _) hA (fy := mkv k) (by rw [range_snoc]; exact List.map_congr_left fun j hj => by by_cases e : j = n k + i <;> simp [e])
  have e : ∀ a, a < N → RowF W' 41 (upd gv k x' a) (upd m k (n k + i + 1) a) (mkv a) := fun a ha => by
    have := q.ap.gs a ha
    by_cases e1 : a = k
    · subst e1
      rw [upd_same mkv] at this
      exact this
    · rwa [upd_ne mkv _ e1] at this
  refine ⟨upd gv k x', upd m k (n k + i + 1), ⟨⟨q.ap.ls, e, q.ap.dis⟩, q.fr, q.vl, q.lo, q.gl_, q.tv⟩, fun a ha => ?_, fun a ha hN => ?_, upd_same _ _ _, by rw [upd_same]; rfl, ?_, h7⟩
  · rw [upd_ne _ _ (by omega)]
    exact h2 a ha
  · rw [upd_ne _ _ (by omega), upd_ne _ _ (by omega)]
    exact h3 a ha hN
  · exact (rowSE h6 hr hA).congr fun j hj => by rw [upd_ne _ _ (by omega)]
theorem Ph2i.fin (h : Ph2i N v n w gl curL k v5 64 v7 W) (hk : k < N) : ∃ xs, W.ownsRow 0 25 1 v5 k xs ∧ ∀ x' W', Appended W W' 25 v5 x' k (k + 1) (xs ++ [v7]) → Ph2 N v n w gl curL (k + 1) x' W' := by
  obtain ⟨gv, m, h1, h2, h3, h4, h5, h6, h7⟩ := h
  refine ⟨_, h6, fun x' W' hA => ?_⟩
  have hm : ∀ a, a < k + 1 → m a = n a + 64 := fun a ha => by
    by_cases e : a = k
    · subst e; exact h5
    · exact h2 a (by omega)
  have hg : ∀ a, k + 1 ≤ a → a < N → gv a = v a ∧ m a = n a := fun a ha hN => h3 a (by omega) hN
  have hl : (List.range k).map gv ++ [v7] = (List.range (k + 1)).map gv := by rw [List.range_succ, List.map_append, ← h4]; rfl
  rcases hA with ⟨g, cap, rfl, rfl, q1, q2⟩ | ⟨cap, rfl, q1, q2⟩
  · rw [hl] at q1
    exact ⟨gv, m, h1.farT hes h6 h7 (.inr rfl) q2, hm, hg, q1, h7⟩
  · rw [hl] at q1
    refine ⟨gv, m, h1.farT hes h6 h7 (.inl rfl) q2, hm, hg, q1, fun b hb => ?_⟩
    cases hb
    exact h1.tv.size
theorem Ph2.to4 (h : Ph2 N v n w gl curL N v5 W) : Ph4 N v n w gl curL v5 W := by
  obtain ⟨gv, m, h1, h2, h3, h4, h5⟩ := h
  exact ⟨gv, m, mkv, h1, fun a ha => ⟨by rw [h2 a ha]; omega, fun j _ => rfl⟩, h4, h5⟩
theorem Ph2.look (h : Ph2 N v n w gl curL N v5 W) (hk : k < N) : ∃ g5 c5 A cg, v5 = .slice (some ⟨g5, 0, none⟩) N c5 ∧ W.cell? ⟨g5, k, none⟩ = some (.slice A (n k + 64) cg) ∧ ∀ i, i < n k + 64 → ∃ gg, A = some ⟨gg, 0, none⟩ ∧ W.cell? ⟨gg, i, none⟩ = some (mkv k i) := by
  obtain ⟨gv, m, h1, h2, h3, h4, h5⟩ := h
  obtain ⟨g5, c5, cur, e1, e2, _, e4, _⟩ := h4.at_ hk
  have hr := h1.ap.gs k hk
  rw [h2 k hk] at hr
  obtain ⟨A, cg, e5⟩ := hr.shape
  refine ⟨g5, c5, A, cg, e1, by rw [← e5]; exact e2.cell e4, fun i hi => ?_⟩
  obtain ⟨gg, cap, cu, q1, q2, _, q4, _⟩ := hr.at_ hi
  rw [e5] at q1
  injection q1 with q1 _ _
  exact ⟨gg, q1, q2.cell q4⟩
theorem ApW.lsAt {gv : Nat → Value} {m : Nat → Nat} {d : Nat → Nat → Value} (h1 : ApW 41 25 N v n w gl curL gv m mkv d W) (hk : k < N) (hi : i < n k) : ∃ g cap, v k = .slice (some ⟨g, 0, none⟩) (n k) cap ∧ W.cell? ⟨g, i, none⟩ = some (mkv k i) := by
  obtain ⟨gg, cap, cu, q1, q2, _, q4, _⟩ := (h1.ap.ls k hk).at_ hi
  exact ⟨gg, cap, q1, q2.cell q4⟩
theorem Ph2.lsAt (h : Ph2 N v n w gl curL N v5 W) (hk : k < N) (hi : i < n k) : ∃ g cap, v k = .slice (some ⟨g, 0, none⟩) (n k) cap ∧ W.cell? ⟨g, i, none⟩ = some (mkv k i) := by
  obtain ⟨gv, m, h1, _⟩ := h
  exact ApW.lsAt h1 hk hi
theorem Ph4.lsAt (h : Ph4 N v n w gl curL v5 W) (hk : k < N) (hi : i < n k) : ∃ g cap, v k = .slice (some ⟨g, 0, none⟩) (n k) cap ∧ W.cell? ⟨g, i, none⟩ = some (mkv k i) := by
  obtain ⟨gv, m, d, h1, _⟩ := h
  exact ApW.lsAt h1 hk hi
theorem Ph2.shape5 (h : Ph2 N v n w gl curL k v5 W) : ∃ A c, v5 = .slice A k c := by
  obtain ⟨gv, m, _, _, _, h4, _⟩ := h
  exact h4.shape
theorem Ph4.shape5 (h : Ph4 N v n w gl curL v5 W) : ∃ A c, v5 = .slice A N c := by
  obtain ⟨gv, m, d, _, _, h4, _⟩ := h
  exact h4.shape
theorem Ph4i.shape12 (h : Ph4i N v n w gl curL v5 i v12 W) : ∃ A c, v12 = .slice A i c := by
  obtain ⟨gv, m, d, _, _, _, _, ⟨f, h6, _⟩, _⟩ := h
  exact RowF.shape h6
theorem Ph1.lo (h : Ph1 N v n w gl curL k i W) : Blk W gl curL 25 := by
  obtain ⟨c, h1, _⟩ := h
  exact h1.lo
theorem Ph2.lo (h : Ph2 N v n w gl curL k v5 W) : Blk W gl curL 25 := by
  obtain ⟨gv, m, h1, _⟩ := h
  exact h1.lo
theorem Ph2i.lo (h : Ph2i N v n w gl curL k v5 i v7 W) : Blk W gl curL 25 := by
  obtain ⟨gv, m, h1, _⟩ := h
  exact h1.lo
theorem Ph4.lo (h : Ph4 N v n w gl curL v5 W) : Blk W gl curL 25 := by
  obtain ⟨gv, m, d, h1, _⟩ := h
  exact h1.lo
theorem Ph4i.lo (h : Ph4i N v n w gl curL v5 i v12 W) : Blk W gl curL 25 := by
  obtain ⟨gv, m, d, h1, _⟩ := h
  exact h1.lo
theorem Ph4.tv (h : Ph4 N v n w gl curL v5 W) : Tv N v w W := by
  obtain ⟨gv, m, d, h1, _⟩ := h
  exact h1.tv
theorem Ph4.gsAt (h : Ph4 N v n w gl curL v5 W) (hk : k < N) (hi : i < n k) : ∃ g5 c5 gg l cg, v5 = .slice (some ⟨g5, 0, none⟩) N c5 ∧ W.cell? ⟨g5, k, none⟩ = some (.slice (some ⟨gg, 0, none⟩) l cg) ∧ n k ≤ l ∧ W.cell? ⟨gg, i, none⟩ = some (mkv k i) := by
  obtain ⟨gv, m, d, h1, h2, h4, h5⟩ := h
  obtain ⟨g5, c5, cur, e1, e2, _, e4, _⟩ := h4.at_ hk
  obtain ⟨hm, hd⟩ := h2 k hk
  obtain ⟨gg, cap, cu, q1, q2, _, q4, _⟩ := (h1.ap.gs k hk).at_ (Nat.lt_of_lt_of_le hi hm)
  rw [hd i hi] at q4
  exact ⟨g5, c5, gg, m k, cap, e1, by rw [← q1]; exact e2.cell e4, hm, q2.cell q4⟩
theorem Ph4.begin (h : Ph4 N v n w gl curL v5 W) : Ph4i N v n w gl curL v5 0 (.slice none 0 0) W := by
  obtain ⟨gv, m, d, h1, h2, h4, h5⟩ := h
  exact ⟨gv, m, d, h1, h2, h4, h5, ⟨fun _ => undef, World.ownsRow_nil W 0 41 1, fun j hj => absurd hj (Nat.not_lt_zero _)⟩, fun b hb => by cases hb⟩
theorem Ph4i.grow (h : Ph4i N v n w gl curL v5 i v12 W) : ∃ xs, W.ownsRow 0 41 1 v12 i xs ∧ ∀ u x' W', u.oneCell' = true → Appended W W' 41 v12 x' i (i + 1) (xs ++ [u]) → Ph4i N v n w gl curL v5 (i + 1) x' W' := by
  obtain ⟨gv, m, d, h1, h2, h4, h5, ⟨f, h6, h8⟩, h7⟩ := h
  refine ⟨_, h6, fun u x' W' hu hA => ?_⟩
  have hr := rowSE h4 h6 hA
  have hf : ∃ f', (List.range i).map f ++ [u] = (List.range (i + 1)).map f' ∧ ∀ j, j < i + 1 → (f' j).oneCell' = true := ⟨_, range_snoc f i u, fun j hj => by
    by_cases e : j = i
    · rw [if_pos e]; exact hu
    · rw [if_neg e]; exact h8 j (by omega)⟩
  obtain ⟨f', e1, e2⟩ := hf
  rcases hA with ⟨g, cap, rfl, rfl, q1, q2⟩ | ⟨cap, rfl, q1, q2⟩
  · rw [e1] at q1
    exact ⟨gv, m, d, h1.far q2 fun b hb => (by cases hb; exact h7 g rfl), h2, hr, h5, ⟨f', q1, e2⟩, h7⟩
  · rw [e1] at q1
    refine ⟨gv, m, d, h1.far q2 fun b hb => (by cases hb), h2, hr, h5, ⟨f', q1, e2⟩, fun b hb => ?_⟩
    cases hb
    exact ⟨h1.tv.size, fun a ha e => Nat.lt_irrefl _ ((h1.ap.gs a ha).lt e)⟩
theorem Ph4i.fin (h : Ph4i N v n w gl curL v5 64 v12 W) (hk : k < N) : ∃ g5 c5 gm cm xs news, v5 = .slice (some ⟨g5, 0, none⟩) N c5 ∧ v12 = .slice (some ⟨gm, 0, none⟩) 64 cm ∧ W.ownsRow 0 41 1 (v k) (n k) xs ∧ news.length = 64 ∧
    (∀ j u, news[j]? = some u → W.cell? ((⟨gm, 0, none⟩ : Addr).add j) = some u) ∧ (∀ u ∈ news, u.oneCell' = true) ∧
    ∀ x' W1, Appended W W1 41 (v k) x' (n k) (n k + 64) (xs ++ news) → ∃ cur5, Blk W1 g5 cur5 25 ∧ k < cur5.size ∧ x'.oneCell' = true ∧ ∀ W2, Blk W2 g5 (cur5.setIfInBounds k x') 25 → W1.grownBy W2 (some g5) → Ph4 N v n w gl curL v5 W2 := by
  obtain ⟨gv, m, d, h1, h2, h4, h5, ⟨f, h6, h8⟩, h7⟩ := h
  obtain ⟨gm, cm, _, e1, _⟩ := h6.at_ (i := 0) (by omega)
  obtain ⟨g5, c5, cur, e2, _⟩ := h4.at_ hk
  have hrow := h1.ap.ls k hk
  refine ⟨g5, c5, gm, cm, _, (List.range 64).map f, e2, e1, hrow, by simp, fun j u hj => ?_, fun u hu => ?_, fun x' W1 hA => ?_⟩
  · exact World.ownsRow.cells h6 (g := gm) (by rw [e1]; rfl) j u hj
  · obtain ⟨j, hj, rfl⟩ := List.mem_map.1 hu
    exact h8 j (List.mem_range.1 hj)
  · have hy : (List.range (n k)).map (mkv k) ++ (List.range 64).map f = (List.range (n k + 64)).map (fun j => if j < n k then mkv k j else f (j - n k)) := by
      rw [List.range_add, List.map_append, List.map_map]
      congr 1
      · exact List.map_congr_left fun j hj => by rw [if_pos (List.mem_range.1 hj)]
      · exact List.map_congr_left fun j hj => by
          show f j = if n k + j < n k then _ else f (n k + j - n k)
          rw [if_neg (by omega), Nat.add_sub_cancel_left]
    have q := h1.grow hk (.inr rfl) hrow (Nat.le_refl _) (Nat.le_add_right _ _) hA hy
    have r := rowSE h4 hrow hA
    obtain ⟨g5', c5', cur5, e3, e4, e5, _, e6⟩ := r.at_ hk
    rw [e2] at e3
    injection e3 with e3 _ _
    injection e3 with e3
    injection e3 with e3 _ _
    subst e3
    have hx : x'.oneCell' = true := by
      rcases hA with ⟨g, cap, _, rfl, _⟩ | ⟨cap, rfl, _⟩ <;> rfl
    refine ⟨cur5, e4, e5, hx, fun W2 B hg => ⟨_, _, _, q.farT hes r h5 (.inr (by rw [e2]; rfl)) hg, fun a ha => ?_, (e6 W2 x' B).congr fun j hj => rfl, h5⟩⟩
    by_cases e : a = k
    · subst e
      rw [upd_same, upd_same]
      exact ⟨Nat.le_add_right _ _, fun j hj => if_pos hj⟩
    · rw [upd_ne _ _ e, upd_ne _ _ e]
      exact h2 a ha
end
end ApWords
open ApWords
set_option maxHeartbeats 4000000 in
set_option maxRecDepth 100000 in
theorem quarrykit_ApartWords.walk (N : Nat) (v : Nat → Value) (n : Nat → Nat) (c0 : Nat → Nat → Value) (gl capL : Nat) (curL : Array Value) (w : World) (hN : N ≤ 1000000) (hn : ∀ i, i < N → n i ≤ 1099511627776) (hlo : Blk w gl curL 25) (hL : ∀ i, i < N → curL[i]? = some (v i))
    (hrow : ∀ i, i < N → RowF w 41 (v i) (n i) (c0 i)) (hdis : ∀ i j b, i < N → j < N → i ≠ j → (v i).ownBlock = some b → (v j).ownBlock ≠ some b) :
    Calls Tryd.prog 12 #[.slice (some ⟨gl, 0, none⟩) N capL] w fun e w' => e = .returned (.bool true) ∧ Tv N v w w' := by
  have MK : Aside0 (∀ (W : World) (k i : Int), Calls Tryd.prog 19 #[.int .i64 k, .int .i64 i] W fun e w' => e = .returned (.int .i64 (mkI k i)) ∧ Below W.heap.size W w') := ⟨fun W k i => mark_calls k i W⟩
  have HS : Aside0 (Ph1 N v n w gl curL 0 0 w) := ⟨c0, ⟨⟨hrow, hrow, fun i j b hi hj hij h h' => hdis i j b hi hj hij (h.elim id id) (h'.elim id id)⟩, fun i b hi h => .inl h, fun i b hi h => ⟨(hrow i hi).lt h, fun e => by
    obtain ⟨cur, B⟩ := (hrow i hi).typed h
    have := B.out
    rw [e, hlo.out] at this
    simp at this⟩, hlo, hlo.lt, Tv.refl _ _ _⟩, fun a j h => by omega⟩
  have SH : Aside0 (∀ k, k < N → ∃ A cp, v k = .slice A (n k) cp) := ⟨fun k hk => (hrow k hk).shape⟩
  have HNN := Aside0.mk (And.intro hN hn)
  have HL := Aside0.mk hL
  clear hN hn hlo hL hrow hdis
  go_enter Tryd.func12, Tryd.ntmps12
  go_wp2
  go_loopw [3] (fun v3 wr => ∃ k : Nat, v3 = .int .i64 k ∧ Aside0 (k ≤ N) ∧ Aside0 (Ph1 N v n w gl curL k 0 wr)) (fun v3 _ => N - (intOf v3).toNat)
  case atStart => exact ⟨0, rfl, ⟨Nat.zero_le _⟩, HS⟩
  case round =>
    obtain ⟨k, rfl, HK, HP⟩ := hrel
    obtain ⟨wo, rfl⟩ : ∃ wo : World, wo = wr := ⟨_, rfl⟩
    by_cases hk : k < N
    · have t1 : decide ((k : Int) < (N : Int)) = true := decide_eq_true (by omega)
      have t2 : decide (k < N) = true := decide_eq_true hk
      obtain ⟨A, cp, hv⟩ := SH.out k hk
      have HKK := Aside0.mk hk
      have HV := Aside0.mk hv
      have HWk : Aside0 (wrap64 ((k : Int) + 1) = ((k + 1 : Nat) : Int)) := ⟨by have := HNN.out.1; unfold wrap64; omega⟩
      clear hk hv
      go_wp2
      go_loopw [4] (fun v4 wr => ∃ i : Nat, v4 = .int .i64 i ∧ Aside0 (i ≤ n k) ∧ Aside0 (Ph1 N v n w gl curL k i wr)) (fun v4 _ => n k - (intOf v4).toNat)
      case atStart => exact ⟨0, rfl, ⟨Nat.zero_le _⟩, HP⟩
      case round =>
        obtain ⟨i, rfl, HI, HPi⟩ := hrel
        obtain ⟨wi, rfl⟩ : ∃ wi : World, wi = wr := ⟨_, rfl⟩
        have hk1 : (0 : Int) ≤ (k : Int) := by omega
        have hk2 : (k : Int) < (N : Int) := by have := HKK.out; omega
        by_cases hi : i < n k
        · have s1 : decide ((i : Int) < (n k : Int)) = true := decide_eq_true (by omega)
          have s2 : decide (i < n k) = true := decide_eq_true hi
          obtain ⟨g, cap, cur, hv1, B, hic, hput⟩ := HPi.out.put HKK.out hi
          have q0 := HPi.out.lo.cell (HL.out k HKK.out)
          have HLk : Aside0 (curL[k]? = some (.slice (some ⟨g, 0, none⟩) (n k) cap)) := ⟨by rw [HL.out k HKK.out, hv1]⟩
          rw [hv1] at q0
          have HV1 := Aside0.mk hv1
          have HI2 := Aside0.mk hi
          have HWi : Aside0 (wrap64 ((i : Int) + 1) = ((i + 1 : Nat) : Int)) := ⟨by have := HNN.out.2 k HKK.out; unfold wrap64; omega⟩
          have hi1 : (0 : Int) ≤ (i : Int) := by omega
          have hi2 : (i : Int) < (n k : Int) := by omega
          clear hv1 B hic hput hi
          go_upto_region 7 with (fail)
          have HPn := Aside0.mk (HPi.out.below (below_drew (Below.refl _ _)))
          clear HPi q0
          have HPi := HPn
          clear HPn
          refine wp_region_noPanic ?_
          refine wp_region_last_drew (S := fun W' => Blk W' gl curL 25) (ds := [10]) (by kernel_rfl) HPi.out.lo (fun hS => ?_)
          refine' wpAnyLast_take (i := 0) (oi := Oper.mk _ _ _ _ _ _) rfl (by kernel_rfl) (by kernel_rfl) (by kernel_rfl) (by kernel_rfl) (by kernel_rfl) (fun _ _ _ h => h) (Or.inl ⟨by rfl, ?hy73⟩) hS ?rest73
          case hy73 => (intro w hSw; (try dsimp only at hSw); first | (go_simp; done) | (go_simp; with_reducible rfl))
          try simp only [Act.put, List.setIfInBounds_toArray, List.set_cons_zero, List.set_cons_succ]
          refine' wpAnyLast_take (i := 1) (oi := Oper.mk _ _ _ _ _ _) rfl (by kernel_rfl) (by kernel_rfl) (by kernel_rfl) (by kernel_rfl) (by kernel_rfl) (fun _ _ _ h => h) (Or.inl ⟨by rfl, ?hy74⟩) hS ?rest74
          case hy74 => (intro w hSw; (try dsimp only at hSw); first | (go_simp; done) | (go_simp; with_reducible rfl))
          try simp only [Act.put, List.setIfInBounds_toArray, List.set_cons_zero, List.set_cons_succ]
          refine' wpAnyLast_take (i := 2) (oi := Oper.mk _ _ _ _ _ _) rfl (by kernel_rfl) (by kernel_rfl) (by kernel_rfl) (by kernel_rfl) (by kernel_rfl) (fun _ _ _ h => h) (Or.inl ⟨by rfl, ?hy75⟩) hS ?rest75
          case hy75 => (intro w hSw; (try dsimp only at hSw); first | (go_simp; done) | (go_simp; with_reducible rfl))
          try simp only [Act.put, List.setIfInBounds_toArray, List.set_cons_zero, List.set_cons_succ]
          refine wpAnyLast_take (i := 3) (oi := Oper.mk _ _ _ _ _ _) rfl (by kernel_rfl) (by kernel_rfl) (by kernel_rfl) (by kernel_rfl) (by kernel_rfl) (fun _ _ _ h => h) (rg_load1 (by rfl) (fun _ hS => hS.cell (i := k) HLk.out) 25 _ rfl rfl (fun _ => by simp [isAgg, run_underlying Tryd.underlying25])) hS ?_
          try simp only [Act.put, List.setIfInBounds_toArray, List.set_cons_zero, List.set_cons_succ]
          refine' wpAnyLast_take (i := 4) (oi := Oper.mk _ _ _ _ _ _) rfl (by kernel_rfl) (by kernel_rfl) (by kernel_rfl) (by kernel_rfl) (by kernel_rfl) (fun _ _ _ h => h) (Or.inl ⟨by rfl, ?hy76⟩) hS ?rest76
          case hy76 => (intro w hSw; (try dsimp only at hSw); first | (go_simp; done) | (go_simp; with_reducible rfl))
          try simp only [Act.put, List.setIfInBounds_toArray, List.set_cons_zero, List.set_cons_succ]
          refine' wpAnyLast_take (i := 5) (oi := Oper.mk _ _ _ _ _ _) rfl (by kernel_rfl) (by kernel_rfl) (by kernel_rfl) (by kernel_rfl) (by kernel_rfl) (fun _ _ _ h => h) (Or.inl ⟨by rfl, ?hy77⟩) hS ?rest77
          case hy77 => (intro w hSw; (try dsimp only at hSw); first | (go_simp; done) | (go_simp; with_reducible rfl))
          try simp only [Act.put, List.setIfInBounds_toArray, List.set_cons_zero, List.set_cons_succ]
          refine' wpAnyLast_take (i := 6) (oi := Oper.mk _ _ _ _ _ _) rfl (by kernel_rfl) (by kernel_rfl) (by kernel_rfl) (by kernel_rfl) (by kernel_rfl) (fun _ _ _ h => h) (Or.inl ⟨by rfl, ?hy78⟩) hS ?rest78
          case hy78 => (intro w hSw; (try dsimp only at hSw); first | (go_simp; done) | (go_simp; with_reducible rfl))
          try simp only [Act.put, List.setIfInBounds_toArray, List.set_cons_zero, List.set_cons_succ]
          refine wpAnyLast_ready (rs := [7]) (by kernel_rfl) (by simp) ?_
          refine AllReadyL.cons (o := Oper.mk _ _ _ _ _ _) rfl (by decide) (fun K hK => ?_) ?_
          · refine rg_call (by rfl) _ _ (.int .i64 (mkI (k : Int) (i : Int))) (by first | (go_simp; done) | (go_simp; rfl)) (MK.out _ _ _) ?_
            intro W' hb
            have HPn := Aside0.mk (HPi.out.below hb.out)
            clear HPi
            have HPi := HPn
            clear HPn
            refine hK.out _ _ HPi.out.lo (fun hS => ?_)
            clear hK K hb
            try simp only [Act.put, List.setIfInBounds_toArray, List.set_cons_zero, List.set_cons_succ]
            refine' wpAnyLast_take (i := 8) (oi := Oper.mk _ _ _ _ _ _) rfl (by kernel_rfl) (by kernel_rfl) (by kernel_rfl) (by kernel_rfl) (by kernel_rfl) (fun _ _ _ h => h) (Or.inl ⟨by rfl, ?hy79⟩) hS ?rest79
            case hy79 => (intro w hSw; (try dsimp only at hSw); first | (go_simp; done) | (go_simp; with_reducible rfl))
            try simp only [Act.put, List.setIfInBounds_toArray, List.set_cons_zero, List.set_cons_succ]
            refine' wpAnyLast_take (i := 9) (oi := Oper.mk _ _ _ _ _ _) rfl (by kernel_rfl) (by kernel_rfl) (by kernel_rfl) (by kernel_rfl) (by kernel_rfl) (fun _ _ _ h => h) (Or.inl ⟨by rfl, ?hy80⟩) hS ?rest80
            case hy80 => (intro w hSw; (try dsimp only at hSw); first | (go_simp; done) | (go_simp; with_reducible rfl))
            try simp only [Act.put, List.setIfInBounds_toArray, List.set_cons_zero, List.set_cons_succ]
            refine wpAnyLast_ready (rs := [10]) (by kernel_rfl) (by simp) ?_
            refine AllReadyL.cons_last (o := Oper.mk _ _ _ _ _ _) rfl (by decide) (fun K hK => ?_) ?_
            · obtain ⟨g2, cap2, cur2, hv2, B, hic, hput⟩ := HPi.out.put HKK.out HI2.out
              rw [HV1.out] at hv2
              injection hv2 with hv2 _ _
              injection hv2 with hv2
              injection hv2 with hv2 _ _
              subst hv2
              refine rg_put1 (by rfl) B 41 _ _ rfl rfl (.int .u64 (IntKind.u64.wrap (mkI ((k : Int)) ((i : Int))))) rfl hic (by kernel_rfl) rfl ?_
              intro w9 B9 hg9
              have HPn := Aside0.mk (hput w9 B9 hg9.out)
              clear HPi hput B B9 hg9 hic
              refine hK.out _ _ ?_
              clear hK K
              try simp only [Act.put, List.setIfInBounds_toArray, List.set_cons_zero, List.set_cons_succ]
              refine wpAnyLast_done (by kernel_rfl) ?_ _
              refine NoPanic.normal ?_
              go_wp2
              go_roundw
              case rel => exact ⟨i + 1, by rw [HWi.out], ⟨HI2.out⟩, HPn⟩
              case measure => have := HI2.out; rw [HWi.out]; simp [intOf]; omega
            exact AllReadyL.nil
          exact AllReadyL.nil
        · have s1 : decide ((i : Int) < (n k : Int)) = false := decide_eq_false (by omega)
          have s2 : decide (i < n k) = false := decide_eq_false hi
          have q0 := HPi.out.lo.cell (HL.out k HKK.out)
          rw [HV.out] at q0
          have HE : Aside0 (i = n k) := ⟨by have := HI.out; omega⟩
          clear hi
          go_wp2
          go_roundw
          case rel => exact ⟨k + 1, by rw [HWk.out], ⟨by have := HKK.out; omega⟩, ⟨by have h := HPi.out; rw [HE.out] at h; exact h.next⟩⟩
          case measure => have := HKK.out; rw [HWk.out]; simp [intOf]; omega
    · have t1 : decide ((k : Int) < (N : Int)) = false := decide_eq_false (by omega)
      have t2 : decide (k < N) = false := decide_eq_false hk
      have HP2 : Aside0 (Ph2 N v n w gl curL 0 (.slice none 0 0) wo) := ⟨by
        have e : k = N := by have := HK.out; omega
        have h := HP.out
        rw [e] at h
        exact h.to2⟩
      clear hk HP HK
      go_wp2
      go_loopw [5, 6, 7] (fun v5 v6 _ wr => ∃ k : Nat, v6 = .int .i64 k ∧ Aside0 (k ≤ N) ∧ Aside0 (Ph2 N v n w gl curL k v5 wr)) (fun _ v6 _ _ => N - (intOf v6).toNat)
      case atStart => exact ⟨0, rfl, ⟨Nat.zero_le _⟩, HP2⟩
      case round =>
        clear HP2 t1 t2
        obtain ⟨k, rfl, HK, HP⟩ := hrel
        obtain ⟨wo, rfl⟩ : ∃ wo : World, wo = wr := ⟨_, rfl⟩
        by_cases hk : k < N
        · have t1 : decide ((k : Int) < (N : Int)) = true := decide_eq_true (by omega)
          have t2 : decide (k < N) = true := decide_eq_true hk
          have hk1 : (0 : Int) ≤ (k : Int) := by omega
          have hk2 : (k : Int) < (N : Int) := by omega
          obtain ⟨A, cp, hv⟩ := SH.out k hk
          obtain ⟨A5, c5, rfl⟩ := HP.out.shape5
          have q0 := HP.out.lo.cell (HL.out k hk)
          rw [hv] at q0
          have HKK := Aside0.mk hk
          have HWk : Aside0 (wrap64 ((k : Int) + 1) = ((k + 1 : Nat) : Int)) := ⟨by have := HNN.out.1; unfold wrap64; omega⟩
          have HP0 : Aside0 (Ph2i N v n w gl curL k (.slice A5 k c5) 0 (.slice A (n k) cp) wo) := ⟨by rw [← hv]; exact HP.out.begin hk⟩
          have HV := Aside0.mk hv
          clear hk hv HP
          go_wp2
          go_loopw [7, 8] (fun v7 v8 wr => ∃ i : Nat, v8 = .int .i64 i ∧ Aside0 (i ≤ 64) ∧ Aside0 (Ph2i N v n w gl curL k (.slice A5 k c5) i v7 wr)) (fun _ v8 _ => 64 - (intOf v8).toNat)
          case atStart => exact ⟨0, rfl, ⟨Nat.zero_le _⟩, HP0⟩
          case round =>
            clear HP0 q0
            obtain ⟨i, rfl, HI, HPi⟩ := hrel
            obtain ⟨wi, rfl⟩ : ∃ wi : World, wi = wr := ⟨_, rfl⟩
            have q0 := HPi.out.lo.cell (HL.out k HKK.out)
            rw [HV.out] at q0
            obtain ⟨A7, c7, rfl⟩ := (HPi.out.row HKK.out).shape
            by_cases hi : i < 64
            · have s1 : decide ((i : Int) < 64) = true := decide_eq_true (by omega)
              have s2 : decide (i < 64) = true := decide_eq_true hi
              have HI2 := Aside0.mk hi
              have HWi : Aside0 (wrap64 ((i : Int) + 1) = ((i + 1 : Nat) : Int)) := ⟨by unfold wrap64; omega⟩
              have HWs : Aside0 (wrap64 ((n k : Int) + (i : Int)) = ((n k + i : Nat) : Int)) := ⟨by have := HNN.out.2 k HKK.out; unfold wrap64; omega⟩
              have HBd : Aside0 ((n k + i + 1) * 8 ≤ 140737488355328) := ⟨by have := HNN.out.2 k HKK.out; omega⟩
              clear hi
              go_wp2_with (first
                | (go_at_call 19; refine (MK.out _ _ _).mono ?_; rintro e w9 ⟨rfl, hb9⟩; have HPn := Aside0.mk (HPi.out.below hb9); clear HPi q0 hb9; have HPi := HPn; clear HPn)
                | ((with_reducible refine gate_dst (N := 66) rfl ?_); refine ev_lit1 rfl (.int .u64 (IntKind.u64.wrap (mkI ((k : Int)) (wrap64 ((n k : Int) + (i : Int)))))) 41 ?hr ?_; (case hr => first | (go_simp; done) | (go_simp; rfl)); intro g10 w10 G10 B10 K10; have HPn := Aside0.mk (HPi.out.below K10.out); clear HPi K10 G10; have HPi := HPn; clear HPn)
                | ((with_reducible refine gate_dst (N := 67) rfl ?_); refine ev_append2 rfl _ _ 25 41 (.int .u64 0) 8 rfl Tryd.underlying25 (by kernel_rfl) rfl (by decide) _ (n k + i) _ (HPi.out.row HKK.out) rfl ⟨g10, 0, none⟩ 1 1 [.int .u64 (IntKind.u64.wrap (mkI ((k : Int)) (wrap64 ((n k : Int) + (i : Int)))))] rfl rfl (by decide) (lit_news B10) (lit_one rfl) HBd.out ?_; intro v11 w11 hA; have HPn := Aside0.mk (HPi.out.grow HKK.out (by have h := hA.out; rw [HWs.out] at h; exact h)); clear HPi B10 hA; have HPi := HPn; clear HPn))
              go_roundw
              case rel => exact ⟨i + 1, by rw [HWi.out], ⟨HI2.out⟩, HPi⟩
              case measure => have := HI2.out; rw [HWi.out]; simp [intOf]; omega
            · have s1 : decide ((i : Int) < 64) = false := decide_eq_false (by omega)
              have s2 : decide (i < 64) = false := decide_eq_false hi
              obtain rfl : i = 64 := by have := HI.out; omega
              have HBd : Aside0 ((k + 1) * 24 ≤ 140737488355328) := ⟨by have := HNN.out.1; have := HKK.out; omega⟩
              clear hi
              go_wp2_with (first
                | ((with_reducible refine gate_dst (N := 70) rfl ?_); refine ev_lit1 rfl (.slice A7 (n k + 64) c7) 25 ?hr ?_; (case hr => first | (go_simp; done) | (go_simp; rfl)); intro g10 w10 G10 B10 K10; have HPn := Aside0.mk (HPi.out.below K10.out); clear HPi K10 G10; have HPi := HPn; clear HPn)
                | ((with_reducible refine gate_dst (N := 71) rfl ?_); obtain ⟨xs, hxs, hfin⟩ := HPi.out.fin HKK.out; refine ev_append2 rfl _ _ 36 25 (.slice none 0 0) 24 rfl Tryd.underlying36 (by kernel_rfl) rfl (by decide) _ k _ hxs rfl ⟨g10, 0, none⟩ 1 1 [.slice A7 (n k + 64) c7] rfl rfl (by decide) (lit_news B10) (lit_one rfl) HBd.out ?_; intro v11 w11 hA; have HPk := Aside0.mk (hfin _ _ hA.out); clear HPi B10 hA hfin hxs))
              go_roundw
              case rel => exact ⟨k + 1, by rw [HWk.out], ⟨HKK.out⟩, HPk⟩
              case measure => have := HKK.out; rw [HWk.out]; simp [intOf]; omega
        · have t1 : decide ((k : Int) < (N : Int)) = false := decide_eq_false (by omega)
          have t2 : decide (k < N) = false := decide_eq_false hk
          have HP3 : Aside0 (Ph2 N v n w gl curL N u5 wo) := ⟨by
            have e : k = N := by have := HK.out; omega
            have h := HP.out
            rw [e] at h
            exact h⟩
          clear hk HP HK
          obtain ⟨A5, c5, rfl⟩ := HP3.out.shape5
          go_wp2
          go_loopw [9] (fun v9 wr => ∃ k : Nat, v9 = .int .i64 k ∧ Aside0 (k ≤ N) ∧ Aside0 (Ph2 N v n w gl curL N (.slice A5 N c5) wr)) (fun v9 _ => N - (intOf v9).toNat)
          case atStart => exact ⟨0, rfl, ⟨Nat.zero_le _⟩, HP3⟩
          case round =>
            clear HP3 t1 t2
            obtain ⟨k, rfl, HK, HP⟩ := hrel
            obtain ⟨wo, rfl⟩ : ∃ wo : World, wo = wr := ⟨_, rfl⟩
            by_cases hk : k < N
            · have t1 : decide ((k : Int) < (N : Int)) = true := decide_eq_true (by omega)
              have t2 : decide (k < N) = true := decide_eq_true hk
              have hk1 : (0 : Int) ≤ (k : Int) := by omega
              have hk2 : (k : Int) < (N : Int) := by omega
              obtain ⟨A, cp, hv⟩ := SH.out k hk
              have q0 := HP.out.lo.cell (HL.out k hk)
              rw [hv] at q0
              clear q0
              have HKK := Aside0.mk hk
              have HWk : Aside0 (wrap64 ((k : Int) + 1) = ((k + 1 : Nat) : Int)) := ⟨by have := HNN.out.1; unfold wrap64; omega⟩
              have HV := Aside0.mk hv
              obtain ⟨M, hM⟩ : ∃ M, M = n k + 64 := ⟨_, rfl⟩
              have HM := Aside0.mk hM
              clear hk hv hM
              go_wp2
              go_loopw [10] (fun v10 wr => ∃ i : Nat, v10 = .int .i64 i ∧ Aside0 (i ≤ M) ∧ Aside0 (Ph2 N v n w gl curL N (.slice A5 N c5) wr)) (fun v10 _ => M - (intOf v10).toNat)
              case atStart => exact ⟨0, rfl, ⟨Nat.zero_le _⟩, HP⟩
              case round =>
                clear HP
                obtain ⟨i, rfl, HI, HPi⟩ := hrel
                obtain ⟨wi, rfl⟩ : ∃ wi : World, wi = wr := ⟨_, rfl⟩
                obtain ⟨g5, c5', AG, cg, e5, qg, hel⟩ := HPi.out.look HKK.out
                injection e5 with e5 _ e6
                subst e5 e6
                rw [← HM.out] at qg hel
                by_cases hi : i < M
                · have s1 : decide ((i : Int) < (M : Int)) = true := decide_eq_true (by omega); have s2 : decide (i < M) = true := decide_eq_true hi
                  have hi1 : (0 : Int) ≤ (i : Int) := by omega
                  have hi2 : (i : Int) < (M : Int) := by omega
                  have HWi : Aside0 (wrap64 ((i : Int) + 1) = ((i + 1 : Nat) : Int)) := ⟨by have := HNN.out.2 k HKK.out; have := HM.out; unfold wrap64; omega⟩
                  have HI2 := Aside0.mk hi
                  obtain ⟨gg, rfl, q2⟩ := hel i hi
                  unfold mkv at q2
                  clear hel hi
                  have q0 := HPi.out.lo.cell (HL.out k HKK.out)
                  by_cases hj : i < n k
                  · have r1 : decide ((i : Int) < (n k : Int)) = true := decide_eq_true (by omega)
                    have r2 : decide (i < n k) = true := decide_eq_true hj
                    have hj2 : (i : Int) < (n k : Int) := by omega
                    obtain ⟨g, cap, hv1, q3⟩ := HPi.out.lsAt HKK.out hj
                    rw [hv1] at q0
                    unfold mkv at q3
                    clear hv1 hj
                    go_upto_region 24 with (fail)
                    have HPn := Aside0.mk (HPi.out.below (below_drew (Below.refl _ _)))
                    have z0 := pw_cell_below (below_drew (Below.refl _ _)) q0
                    have z1 := pw_cell_below (below_drew (Below.refl _ _)) qg
                    have z2 := pw_cell_below (below_drew (Below.refl _ _)) q2
                    have z3 := pw_cell_below (below_drew (Below.refl _ _)) q3
                    clear HPi q0 qg q2 q3
                    have HPi := HPn
                    have q0 := z0
                    have qg := z1
                    have q2 := z2
                    have q3 := z3
                    clear HPn z0 z1 z2 z3
                    refine wp_region_noPanic ?_
                    refine wp_region_last_drew (S := fun W' => W'.cell? ⟨gl, k, none⟩ = some (.slice (some ⟨g, 0, none⟩) (n k) cap) ∧ W'.cell? ⟨g5, k, none⟩ = some (.slice (some ⟨gg, 0, none⟩) M cg) ∧ W'.cell? ⟨gg, i, none⟩ = some (.int .u64 (IntKind.u64.wrap (mkI ((k : Int)) ((i : Int))))) ∧ W'.cell? ⟨g, i, none⟩ = some (.int .u64 (IntKind.u64.wrap (mkI ((k : Int)) ((i : Int)))))) (ds := []) (by kernel_rfl) ⟨q0, qg, q2, q3⟩ (fun hS => ?_)
                    refine' wpAnyLast_take (i := 0) (oi := Oper.mk _ _ _ _ _ _) rfl (by kernel_rfl) (by kernel_rfl) (by kernel_rfl) (by kernel_rfl) (by kernel_rfl) (fun _ _ _ h => h) (Or.inl ⟨by rfl, ?hy1⟩) hS ?rest1
                    case hy1 => (intro w hSw; (try dsimp only at hSw); first | (go_simp; done) | (go_simp; with_reducible rfl))
                    try simp only [Act.put, List.setIfInBounds_toArray, List.set_cons_zero, List.set_cons_succ]
                    refine' wpAnyLast_take (i := 1) (oi := Oper.mk _ _ _ _ _ _) rfl (by kernel_rfl) (by kernel_rfl) (by kernel_rfl) (by kernel_rfl) (by kernel_rfl) (fun _ _ _ h => h) (Or.inl ⟨by rfl, ?hy2⟩) hS ?rest2
                    case hy2 => (intro w hSw; (try dsimp only at hSw); first | (go_simp; done) | (go_simp; with_reducible rfl))
                    try simp only [Act.put, List.setIfInBounds_toArray, List.set_cons_zero, List.set_cons_succ]
                    refine' wpAnyLast_take (i := 2) (oi := Oper.mk _ _ _ _ _ _) rfl (by kernel_rfl) (by kernel_rfl) (by kernel_rfl) (by kernel_rfl) (by kernel_rfl) (fun _ _ _ h => h) (Or.inl ⟨by rfl, ?hy3⟩) hS ?rest3
                    case hy3 => (intro w hSw; (try dsimp only at hSw); first | (go_simp; done) | (go_simp; with_reducible rfl))
                    try simp only [Act.put, List.setIfInBounds_toArray, List.set_cons_zero, List.set_cons_succ]
                    refine wpAnyLast_take (i := 3) (oi := Oper.mk _ _ _ _ _ _) rfl (by kernel_rfl) (by kernel_rfl) (by kernel_rfl) (by kernel_rfl) (by kernel_rfl) (fun _ _ _ h => h) (rg_load1 (by rfl) (fun _ hS => hS.2.1) 25 _ rfl rfl (fun _ => by simp [isAgg, run_underlying Tryd.underlying25])) hS ?_
                    try simp only [Act.put, List.setIfInBounds_toArray, List.set_cons_zero, List.set_cons_succ]
                    refine' wpAnyLast_take (i := 4) (oi := Oper.mk _ _ _ _ _ _) rfl (by kernel_rfl) (by kernel_rfl) (by kernel_rfl) (by kernel_rfl) (by kernel_rfl) (fun _ _ _ h => h) (Or.inl ⟨by rfl, ?hy4⟩) hS ?rest4
                    case hy4 => (intro w hSw; (try dsimp only at hSw); first | (go_simp; done) | (go_simp; with_reducible rfl))
                    try simp only [Act.put, List.setIfInBounds_toArray, List.set_cons_zero, List.set_cons_succ]
                    refine' wpAnyLast_take (i := 5) (oi := Oper.mk _ _ _ _ _ _) rfl (by kernel_rfl) (by kernel_rfl) (by kernel_rfl) (by kernel_rfl) (by kernel_rfl) (fun _ _ _ h => h) (Or.inl ⟨by rfl, ?hy5⟩) hS ?rest5
                    case hy5 => (intro w hSw; (try dsimp only at hSw); first | (go_simp; done) | (go_simp; with_reducible rfl))
                    try simp only [Act.put, List.setIfInBounds_toArray, List.set_cons_zero, List.set_cons_succ]
                    refine wpAnyLast_take (i := 6) (oi := Oper.mk _ _ _ _ _ _) rfl (by kernel_rfl) (by kernel_rfl) (by kernel_rfl) (by kernel_rfl) (by kernel_rfl) (fun _ _ _ h => h) (rg_load1 (by rfl) (fun _ hS => hS.2.2.1) 41 _ rfl rfl (fun _ => by simp [isAgg, run_underlying Tryd.underlying41])) hS ?_
                    try simp only [Act.put, List.setIfInBounds_toArray, List.set_cons_zero, List.set_cons_succ]
                    refine' wpAnyLast_take (i := 7) (oi := Oper.mk _ _ _ _ _ _) rfl (by kernel_rfl) (by kernel_rfl) (by kernel_rfl) (by kernel_rfl) (by kernel_rfl) (fun _ _ _ h => h) (Or.inl ⟨by rfl, ?hy6⟩) hS ?rest6
                    case hy6 => (intro w hSw; (try dsimp only at hSw); first | (go_simp; done) | (go_simp; with_reducible rfl))
                    try simp only [Act.put, List.setIfInBounds_toArray, List.set_cons_zero, List.set_cons_succ]
                    refine' wpAnyLast_take (i := 8) (oi := Oper.mk _ _ _ _ _ _) rfl (by kernel_rfl) (by kernel_rfl) (by kernel_rfl) (by kernel_rfl) (by kernel_rfl) (fun _ _ _ h => h) (Or.inl ⟨by rfl, ?hy7⟩) hS ?rest7
                    case hy7 => (intro w hSw; (try dsimp only at hSw); first | (go_simp; done) | (go_simp; with_reducible rfl))
                    try simp only [Act.put, List.setIfInBounds_toArray, List.set_cons_zero, List.set_cons_succ]
                    refine wpAnyLast_ready (rs := [9]) (by kernel_rfl) (by simp) ?_
                    refine AllReadyL.cons (o := Oper.mk _ _ _ _ _ _) rfl (by decide) (fun K hK => ?_) ?_
                    · refine rg_call (by rfl) _ _ (.int .i64 (mkI (k : Int) (i : Int))) (by first | (go_simp; done) | (go_simp; rfl)) (MK.out _ _ _) ?_
                      intro W' hb
                      have HPn := Aside0.mk (HPi.out.below hb.out)
                      have z0 := pw_cell_below hb.out q0
                      have z1 := pw_cell_below hb.out qg
                      have z2 := pw_cell_below hb.out q2
                      have z3 := pw_cell_below hb.out q3
                      clear HPi q0 qg q2 q3
                      have HPi := HPn
                      have q0 := z0
                      have qg := z1
                      have q2 := z2
                      have q3 := z3
                      clear HPn z0 z1 z2 z3
                      refine hK.out _ _ ⟨q0, qg, q2, q3⟩ (fun hS => ?_)
                      clear hK K hb
                      try simp only [Act.put, List.setIfInBounds_toArray, List.set_cons_zero, List.set_cons_succ]
                      refine' wpAnyLast_take (i := 10) (oi := Oper.mk _ _ _ _ _ _) rfl (by kernel_rfl) (by kernel_rfl) (by kernel_rfl) (by kernel_rfl) (by kernel_rfl) (fun _ _ _ h => h) (Or.inl ⟨by rfl, ?hy8⟩) hS ?rest8
                      case hy8 => (intro w hSw; (try dsimp only at hSw); first | (go_simp; done) | (go_simp; with_reducible rfl))
                      try simp only [Act.put, List.setIfInBounds_toArray, List.set_cons_zero, List.set_cons_succ]
                      refine' wpAnyLast_take (i := 11) (oi := Oper.mk _ _ _ _ _ _) rfl (by kernel_rfl) (by kernel_rfl) (by kernel_rfl) (by kernel_rfl) (by kernel_rfl) (fun _ _ _ h => h) (Or.inl ⟨by rfl, ?hy9⟩) hS ?rest9
                      case hy9 => (intro w hSw; (try dsimp only at hSw); first | (go_simp; done) | (go_simp; with_reducible rfl))
                      try simp only [Act.put, List.setIfInBounds_toArray, List.set_cons_zero, List.set_cons_succ]
                      refine' wpAnyLast_take (i := 12) (oi := Oper.mk _ _ _ _ _ _) rfl (by kernel_rfl) (by kernel_rfl) (by kernel_rfl) (by kernel_rfl) (by kernel_rfl) (fun _ _ _ h => h) (Or.inl ⟨by rfl, ?hy10⟩) hS ?rest10
                      case hy10 => (intro w hSw; (try dsimp only at hSw); first | (go_simp; done) | (go_simp; with_reducible rfl))
                      try simp only [Act.put, List.setIfInBounds_toArray, List.set_cons_zero, List.set_cons_succ]
                      refine' wpAnyLast_take (i := 13) (oi := Oper.mk _ _ _ _ _ _) rfl (by kernel_rfl) (by kernel_rfl) (by kernel_rfl) (by kernel_rfl) (by kernel_rfl) (fun _ _ _ h => h) (Or.inl ⟨by rfl, ?hy11⟩) hS ?rest11
                      case hy11 => (intro w hSw; (try dsimp only at hSw); first | (go_simp; done) | (go_simp; with_reducible rfl))
                      try simp only [Act.put, List.setIfInBounds_toArray, List.set_cons_zero, List.set_cons_succ]
                      refine' wpAnyLast_take (i := 14) (oi := Oper.mk _ _ _ _ _ _) rfl (by kernel_rfl) (by kernel_rfl) (by kernel_rfl) (by kernel_rfl) (by kernel_rfl) (fun _ _ _ h => h) (Or.inl ⟨by rfl, ?hy12⟩) hS ?rest12
                      case hy12 => (intro w hSw; (try dsimp only at hSw); first | (go_simp; done) | (go_simp; with_reducible rfl))
                      try simp only [Act.put, List.setIfInBounds_toArray, List.set_cons_zero, List.set_cons_succ]
                      refine' wpAnyLast_take (i := 15) (oi := Oper.mk _ _ _ _ _ _) rfl (by kernel_rfl) (by kernel_rfl) (by kernel_rfl) (by kernel_rfl) (by kernel_rfl) (fun _ _ _ h => h) (Or.inl ⟨by rfl, ?hy13⟩) hS ?rest13
                      case hy13 => (intro w hSw; (try dsimp only at hSw); first | (go_simp; done) | (go_simp; with_reducible rfl))
                      try simp only [Act.put, List.setIfInBounds_toArray, List.set_cons_zero, List.set_cons_succ]
                      refine' wpAnyLast_take (i := 16) (oi := Oper.mk _ _ _ _ _ _) rfl (by kernel_rfl) (by kernel_rfl) (by kernel_rfl) (by kernel_rfl) (by kernel_rfl) (fun _ _ _ h => h) (Or.inl ⟨by rfl, ?hy14⟩) hS ?rest14
                      case hy14 => (intro w hSw; (try dsimp only at hSw); first | (go_simp; done) | (go_simp; with_reducible rfl))
                      try simp only [Act.put, List.setIfInBounds_toArray, List.set_cons_zero, List.set_cons_succ]
                      refine' wpAnyLast_take (i := 17) (oi := Oper.mk _ _ _ _ _ _) rfl (by kernel_rfl) (by kernel_rfl) (by kernel_rfl) (by kernel_rfl) (by kernel_rfl) (fun _ _ _ h => h) (Or.inl ⟨by rfl, ?hy15⟩) hS ?rest15
                      case hy15 => (intro w hSw; (try dsimp only at hSw); first | (go_simp; done) | (go_simp; with_reducible rfl))
                      try simp only [Act.put, List.setIfInBounds_toArray, List.set_cons_zero, List.set_cons_succ]
                      refine wpAnyLast_take (i := 18) (oi := Oper.mk _ _ _ _ _ _) rfl (by kernel_rfl) (by kernel_rfl) (by kernel_rfl) (by kernel_rfl) (by kernel_rfl) (fun _ _ _ h => h) (rg_load1 (by rfl) (fun _ hS => hS.1) 25 _ rfl rfl (fun _ => by simp [isAgg, run_underlying Tryd.underlying25])) hS ?_
                      try simp only [Act.put, List.setIfInBounds_toArray, List.set_cons_zero, List.set_cons_succ]
                      refine' wpAnyLast_take (i := 19) (oi := Oper.mk _ _ _ _ _ _) rfl (by kernel_rfl) (by kernel_rfl) (by kernel_rfl) (by kernel_rfl) (by kernel_rfl) (fun _ _ _ h => h) (Or.inl ⟨by rfl, ?hy16⟩) hS ?rest16
                      case hy16 => (intro w hSw; (try dsimp only at hSw); first | (go_simp; done) | (go_simp; with_reducible rfl))
                      try simp only [Act.put, List.setIfInBounds_toArray, List.set_cons_zero, List.set_cons_succ]
                      refine' wpAnyLast_take (i := 20) (oi := Oper.mk _ _ _ _ _ _) rfl (by kernel_rfl) (by kernel_rfl) (by kernel_rfl) (by kernel_rfl) (by kernel_rfl) (fun _ _ _ h => h) (Or.inl ⟨by rfl, ?hy17⟩) hS ?rest17
                      case hy17 => (intro w hSw; (try dsimp only at hSw); first | (go_simp; done) | (go_simp; with_reducible rfl))
                      try simp only [Act.put, List.setIfInBounds_toArray, List.set_cons_zero, List.set_cons_succ]
                      refine' wpAnyLast_take (i := 21) (oi := Oper.mk _ _ _ _ _ _) rfl (by kernel_rfl) (by kernel_rfl) (by kernel_rfl) (by kernel_rfl) (by kernel_rfl) (fun _ _ _ h => h) (Or.inl ⟨by rfl, ?hy18⟩) hS ?rest18
                      case hy18 => (intro w hSw; (try dsimp only at hSw); first | (go_simp; done) | (go_simp; with_reducible rfl))
                      try simp only [Act.put, List.setIfInBounds_toArray, List.set_cons_zero, List.set_cons_succ]
                      refine' wpAnyLast_take (i := 22) (oi := Oper.mk _ _ _ _ _ _) rfl (by kernel_rfl) (by kernel_rfl) (by kernel_rfl) (by kernel_rfl) (by kernel_rfl) (fun _ _ _ h => h) (Or.inl ⟨by rfl, ?hy19⟩) hS ?rest19
                      case hy19 => (intro w hSw; (try dsimp only at hSw); first | (go_simp; done) | (go_simp; with_reducible rfl))
                      try simp only [Act.put, List.setIfInBounds_toArray, List.set_cons_zero, List.set_cons_succ]
                      refine' wpAnyLast_take (i := 23) (oi := Oper.mk _ _ _ _ _ _) rfl (by kernel_rfl) (by kernel_rfl) (by kernel_rfl) (by kernel_rfl) (by kernel_rfl) (fun _ _ _ h => h) (Or.inl ⟨by rfl, ?hy20⟩) hS ?rest20
                      case hy20 => (intro w hSw; (try dsimp only at hSw); first | (go_simp; done) | (go_simp; with_reducible rfl))
                      try simp only [Act.put, List.setIfInBounds_toArray, List.set_cons_zero, List.set_cons_succ]
                      refine' wpAnyLast_take (i := 24) (oi := Oper.mk _ _ _ _ _ _) rfl (by kernel_rfl) (by kernel_rfl) (by kernel_rfl) (by kernel_rfl) (by kernel_rfl) (fun _ _ _ h => h) (Or.inl ⟨by rfl, ?hy21⟩) hS ?rest21
                      case hy21 => (intro w hSw; (try dsimp only at hSw); first | (go_simp; done) | (go_simp; with_reducible rfl))
                      try simp only [Act.put, List.setIfInBounds_toArray, List.set_cons_zero, List.set_cons_succ]
                      refine wpAnyLast_take (i := 25) (oi := Oper.mk _ _ _ _ _ _) rfl (by kernel_rfl) (by kernel_rfl) (by kernel_rfl) (by kernel_rfl) (by kernel_rfl) (fun _ _ _ h => h) (rg_load1 (by rfl) (fun _ hS => hS.1) 25 _ rfl rfl (fun _ => by simp [isAgg, run_underlying Tryd.underlying25])) hS ?_
                      try simp only [Act.put, List.setIfInBounds_toArray, List.set_cons_zero, List.set_cons_succ]
                      refine' wpAnyLast_take (i := 26) (oi := Oper.mk _ _ _ _ _ _) rfl (by kernel_rfl) (by kernel_rfl) (by kernel_rfl) (by kernel_rfl) (by kernel_rfl) (fun _ _ _ h => h) (Or.inl ⟨by rfl, ?hy22⟩) hS ?rest22
                      case hy22 => (intro w hSw; (try dsimp only at hSw); first | (go_simp; done) | (go_simp; with_reducible rfl))
                      try simp only [Act.put, List.setIfInBounds_toArray, List.set_cons_zero, List.set_cons_succ]
                      refine' wpAnyLast_take (i := 27) (oi := Oper.mk _ _ _ _ _ _) rfl (by kernel_rfl) (by kernel_rfl) (by kernel_rfl) (by kernel_rfl) (by kernel_rfl) (fun _ _ _ h => h) (Or.inl ⟨by rfl, ?hy23⟩) hS ?rest23
                      case hy23 => (intro w hSw; (try dsimp only at hSw); first | (go_simp; done) | (go_simp; with_reducible rfl))
                      try simp only [Act.put, List.setIfInBounds_toArray, List.set_cons_zero, List.set_cons_succ]
                      refine wpAnyLast_take (i := 28) (oi := Oper.mk _ _ _ _ _ _) rfl (by kernel_rfl) (by kernel_rfl) (by kernel_rfl) (by kernel_rfl) (by kernel_rfl) (fun _ _ _ h => h) (rg_load1 (by rfl) (fun _ hS => hS.2.2.2) 41 _ rfl rfl (fun _ => by simp [isAgg, run_underlying Tryd.underlying41])) hS ?_
                      try simp only [Act.put, List.setIfInBounds_toArray, List.set_cons_zero, List.set_cons_succ]
                      refine' wpAnyLast_take (i := 29) (oi := Oper.mk _ _ _ _ _ _) rfl (by kernel_rfl) (by kernel_rfl) (by kernel_rfl) (by kernel_rfl) (by kernel_rfl) (fun _ _ _ h => h) (Or.inl ⟨by rfl, ?hy24⟩) hS ?rest24
                      case hy24 => (intro w hSw; (try dsimp only at hSw); first | (go_simp; done) | (go_simp; with_reducible rfl))
                      try simp only [Act.put, List.setIfInBounds_toArray, List.set_cons_zero, List.set_cons_succ]
                      refine' wpAnyLast_take (i := 30) (oi := Oper.mk _ _ _ _ _ _) rfl (by kernel_rfl) (by kernel_rfl) (by kernel_rfl) (by kernel_rfl) (by kernel_rfl) (fun _ _ _ h => h) (Or.inl ⟨by rfl, ?hy25⟩) hS ?rest25
                      case hy25 => (intro w hSw; (try dsimp only at hSw); first | (go_simp; done) | (go_simp; with_reducible rfl))
                      try simp only [Act.put, List.setIfInBounds_toArray, List.set_cons_zero, List.set_cons_succ]
                      refine wpAnyLast_ready (rs := [31]) (by kernel_rfl) (by simp) ?_
                      refine AllReadyL.cons (o := Oper.mk _ _ _ _ _ _) rfl (by decide) (fun K hK => ?_) ?_
                      · refine rg_call (by rfl) _ _ (.int .i64 (mkI (k : Int) (i : Int))) (by first | (go_simp; done) | (go_simp; rfl)) (MK.out _ _ _) ?_
                        intro W' hb
                        have HPn := Aside0.mk (HPi.out.below hb.out)
                        have z0 := pw_cell_below hb.out q0
                        have z1 := pw_cell_below hb.out qg
                        have z2 := pw_cell_below hb.out q2
                        have z3 := pw_cell_below hb.out q3
                        clear HPi q0 qg q2 q3
                        have HPi := HPn
                        have q0 := z0
                        have qg := z1
                        have q2 := z2
                        have q3 := z3
                        clear HPn z0 z1 z2 z3
                        refine hK.out _ _ ⟨q0, qg, q2, q3⟩ (fun hS => ?_)
                        clear hK K hb
                        try simp only [Act.put, List.setIfInBounds_toArray, List.set_cons_zero, List.set_cons_succ]
                        refine' wpAnyLast_take (i := 32) (oi := Oper.mk _ _ _ _ _ _) rfl (by kernel_rfl) (by kernel_rfl) (by kernel_rfl) (by kernel_rfl) (by kernel_rfl) (fun _ _ _ h => h) (Or.inl ⟨by rfl, ?hy26⟩) hS ?rest26
                        case hy26 => (intro w hSw; (try dsimp only at hSw); first | (go_simp; done) | (go_simp; with_reducible rfl))
                        try simp only [Act.put, List.setIfInBounds_toArray, List.set_cons_zero, List.set_cons_succ]
                        refine' wpAnyLast_take (i := 33) (oi := Oper.mk _ _ _ _ _ _) rfl (by kernel_rfl) (by kernel_rfl) (by kernel_rfl) (by kernel_rfl) (by kernel_rfl) (fun _ _ _ h => h) (Or.inl ⟨by rfl, ?hy27⟩) hS ?rest27
                        case hy27 => (intro w hSw; (try dsimp only at hSw); first | (go_simp; done) | (go_simp; with_reducible rfl))
                        try simp only [Act.put, List.setIfInBounds_toArray, List.set_cons_zero, List.set_cons_succ]
                        refine' wpAnyLast_take (i := 34) (oi := Oper.mk _ _ _ _ _ _) rfl (by kernel_rfl) (by kernel_rfl) (by kernel_rfl) (by kernel_rfl) (by kernel_rfl) (fun _ _ _ h => h) (Or.inl ⟨by rfl, ?hy28⟩) hS ?rest28
                        case hy28 => (intro w hSw; (try dsimp only at hSw); first | (go_simp; done) | (go_simp; with_reducible rfl))
                        try simp only [Act.put, List.setIfInBounds_toArray, List.set_cons_zero, List.set_cons_succ]
                        refine' wpAnyLast_take (i := 35) (oi := Oper.mk _ _ _ _ _ _) rfl (by kernel_rfl) (by kernel_rfl) (by kernel_rfl) (by kernel_rfl) (by kernel_rfl) (fun _ _ _ h => h) (Or.inl ⟨by rfl, ?hy29⟩) hS ?rest29
                        case hy29 => (intro w hSw; (try dsimp only at hSw); first | (go_simp; done) | (go_simp; with_reducible rfl))
                        try simp only [Act.put, List.setIfInBounds_toArray, List.set_cons_zero, List.set_cons_succ]
                        refine' wpAnyLast_take (i := 36) (oi := Oper.mk _ _ _ _ _ _) rfl (by kernel_rfl) (by kernel_rfl) (by kernel_rfl) (by kernel_rfl) (by kernel_rfl) (fun _ _ _ h => h) (Or.inl ⟨by rfl, ?hy30⟩) hS ?rest30
                        case hy30 => (intro w hSw; (try dsimp only at hSw); first | (go_simp; done) | (go_simp; with_reducible rfl))
                        try simp only [Act.put, List.setIfInBounds_toArray, List.set_cons_zero, List.set_cons_succ]
                        refine wpAnyLast_done (by kernel_rfl) ?_ _
                        refine NoPanic.normal ?_
                        go_wp2
                        go_roundw
                        case rel => exact ⟨i + 1, by rw [HWi.out], ⟨HI2.out⟩, HPi⟩
                        case measure => have := HI2.out; rw [HWi.out]; simp [intOf]; omega
                      exact AllReadyL.nil
                    exact AllReadyL.nil
                  · have r1 : decide ((i : Int) < (n k : Int)) = false := decide_eq_false (by omega)
                    have r2 : decide (i < n k) = false := decide_eq_false hj
                    rw [HV.out] at q0
                    clear hj
                    go_upto_region 24 with (fail)
                    have HPn := Aside0.mk (HPi.out.below (below_drew (Below.refl _ _)))
                    have z0 := pw_cell_below (below_drew (Below.refl _ _)) q0
                    have z1 := pw_cell_below (below_drew (Below.refl _ _)) qg
                    have z2 := pw_cell_below (below_drew (Below.refl _ _)) q2
                    clear HPi q0 qg q2
                    have HPi := HPn
                    have q0 := z0
                    have qg := z1
                    have q2 := z2
                    clear HPn z0 z1 z2
                    refine wp_region_noPanic ?_
                    refine wp_region_last_drew (S := fun W' => W'.cell? ⟨gl, k, none⟩ = some (.slice A (n k) cp) ∧ W'.cell? ⟨g5, k, none⟩ = some (.slice (some ⟨gg, 0, none⟩) M cg) ∧ W'.cell? ⟨gg, i, none⟩ = some (.int .u64 (IntKind.u64.wrap (mkI ((k : Int)) ((i : Int)))))) (ds := []) (by kernel_rfl) ⟨q0, qg, q2⟩ (fun hS => ?_)
                    refine' wpAnyLast_take (i := 0) (oi := Oper.mk _ _ _ _ _ _) rfl (by kernel_rfl) (by kernel_rfl) (by kernel_rfl) (by kernel_rfl) (by kernel_rfl) (fun _ _ _ h => h) (Or.inl ⟨by rfl, ?hy31⟩) hS ?rest31
                    case hy31 => (intro w hSw; (try dsimp only at hSw); first | (go_simp; done) | (go_simp; with_reducible rfl))
                    try simp only [Act.put, List.setIfInBounds_toArray, List.set_cons_zero, List.set_cons_succ]
                    refine' wpAnyLast_take (i := 1) (oi := Oper.mk _ _ _ _ _ _) rfl (by kernel_rfl) (by kernel_rfl) (by kernel_rfl) (by kernel_rfl) (by kernel_rfl) (fun _ _ _ h => h) (Or.inl ⟨by rfl, ?hy32⟩) hS ?rest32
                    case hy32 => (intro w hSw; (try dsimp only at hSw); first | (go_simp; done) | (go_simp; with_reducible rfl))
                    try simp only [Act.put, List.setIfInBounds_toArray, List.set_cons_zero, List.set_cons_succ]
                    refine' wpAnyLast_take (i := 2) (oi := Oper.mk _ _ _ _ _ _) rfl (by kernel_rfl) (by kernel_rfl) (by kernel_rfl) (by kernel_rfl) (by kernel_rfl) (fun _ _ _ h => h) (Or.inl ⟨by rfl, ?hy33⟩) hS ?rest33
                    case hy33 => (intro w hSw; (try dsimp only at hSw); first | (go_simp; done) | (go_simp; with_reducible rfl))
                    try simp only [Act.put, List.setIfInBounds_toArray, List.set_cons_zero, List.set_cons_succ]
                    refine wpAnyLast_take (i := 3) (oi := Oper.mk _ _ _ _ _ _) rfl (by kernel_rfl) (by kernel_rfl) (by kernel_rfl) (by kernel_rfl) (by kernel_rfl) (fun _ _ _ h => h) (rg_load1 (by rfl) (fun _ hS => hS.2.1) 25 _ rfl rfl (fun _ => by simp [isAgg, run_underlying Tryd.underlying25])) hS ?_
                    try simp only [Act.put, List.setIfInBounds_toArray, List.set_cons_zero, List.set_cons_succ]
                    refine' wpAnyLast_take (i := 4) (oi := Oper.mk _ _ _ _ _ _) rfl (by kernel_rfl) (by kernel_rfl) (by kernel_rfl) (by kernel_rfl) (by kernel_rfl) (fun _ _ _ h => h) (Or.inl ⟨by rfl, ?hy34⟩) hS ?rest34
                    case hy34 => (intro w hSw; (try dsimp only at hSw); first | (go_simp; done) | (go_simp; with_reducible rfl))
                    try simp only [Act.put, List.setIfInBounds_toArray, List.set_cons_zero, List.set_cons_succ]
                    refine' wpAnyLast_take (i := 5) (oi := Oper.mk _ _ _ _ _ _) rfl (by kernel_rfl) (by kernel_rfl) (by kernel_rfl) (by kernel_rfl) (by kernel_rfl) (fun _ _ _ h => h) (Or.inl ⟨by rfl, ?hy35⟩) hS ?rest35
                    case hy35 => (intro w hSw; (try dsimp only at hSw); first | (go_simp; done) | (go_simp; with_reducible rfl))
                    try simp only [Act.put, List.setIfInBounds_toArray, List.set_cons_zero, List.set_cons_succ]
                    refine wpAnyLast_take (i := 6) (oi := Oper.mk _ _ _ _ _ _) rfl (by kernel_rfl) (by kernel_rfl) (by kernel_rfl) (by kernel_rfl) (by kernel_rfl) (fun _ _ _ h => h) (rg_load1 (by rfl) (fun _ hS => hS.2.2) 41 _ rfl rfl (fun _ => by simp [isAgg, run_underlying Tryd.underlying41])) hS ?_
                    try simp only [Act.put, List.setIfInBounds_toArray, List.set_cons_zero, List.set_cons_succ]
                    refine' wpAnyLast_take (i := 7) (oi := Oper.mk _ _ _ _ _ _) rfl (by kernel_rfl) (by kernel_rfl) (by kernel_rfl) (by kernel_rfl) (by kernel_rfl) (fun _ _ _ h => h) (Or.inl ⟨by rfl, ?hy36⟩) hS ?rest36
                    case hy36 => (intro w hSw; (try dsimp only at hSw); first | (go_simp; done) | (go_simp; with_reducible rfl))
                    try simp only [Act.put, List.setIfInBounds_toArray, List.set_cons_zero, List.set_cons_succ]
                    refine' wpAnyLast_take (i := 8) (oi := Oper.mk _ _ _ _ _ _) rfl (by kernel_rfl) (by kernel_rfl) (by kernel_rfl) (by kernel_rfl) (by kernel_rfl) (fun _ _ _ h => h) (Or.inl ⟨by rfl, ?hy37⟩) hS ?rest37
                    case hy37 => (intro w hSw; (try dsimp only at hSw); first | (go_simp; done) | (go_simp; with_reducible rfl))
                    try simp only [Act.put, List.setIfInBounds_toArray, List.set_cons_zero, List.set_cons_succ]
                    refine wpAnyLast_ready (rs := [9]) (by kernel_rfl) (by simp) ?_
                    refine AllReadyL.cons (o := Oper.mk _ _ _ _ _ _) rfl (by decide) (fun K hK => ?_) ?_
                    · refine rg_call (by rfl) _ _ (.int .i64 (mkI (k : Int) (i : Int))) (by first | (go_simp; done) | (go_simp; rfl)) (MK.out _ _ _) ?_
                      intro W' hb
                      have HPn := Aside0.mk (HPi.out.below hb.out)
                      have z0 := pw_cell_below hb.out q0
                      have z1 := pw_cell_below hb.out qg
                      have z2 := pw_cell_below hb.out q2
                      clear HPi q0 qg q2
                      have HPi := HPn
                      have q0 := z0
                      have qg := z1
                      have q2 := z2
                      clear HPn z0 z1 z2
                      refine hK.out _ _ ⟨q0, qg, q2⟩ (fun hS => ?_)
                      clear hK K hb
                      try simp only [Act.put, List.setIfInBounds_toArray, List.set_cons_zero, List.set_cons_succ]
                      refine' wpAnyLast_take (i := 10) (oi := Oper.mk _ _ _ _ _ _) rfl (by kernel_rfl) (by kernel_rfl) (by kernel_rfl) (by kernel_rfl) (by kernel_rfl) (fun _ _ _ h => h) (Or.inl ⟨by rfl, ?hy38⟩) hS ?rest38
                      case hy38 => (intro w hSw; (try dsimp only at hSw); first | (go_simp; done) | (go_simp; with_reducible rfl))
                      try simp only [Act.put, List.setIfInBounds_toArray, List.set_cons_zero, List.set_cons_succ]
                      refine' wpAnyLast_take (i := 11) (oi := Oper.mk _ _ _ _ _ _) rfl (by kernel_rfl) (by kernel_rfl) (by kernel_rfl) (by kernel_rfl) (by kernel_rfl) (fun _ _ _ h => h) (Or.inl ⟨by rfl, ?hy39⟩) hS ?rest39
                      case hy39 => (intro w hSw; (try dsimp only at hSw); first | (go_simp; done) | (go_simp; with_reducible rfl))
                      try simp only [Act.put, List.setIfInBounds_toArray, List.set_cons_zero, List.set_cons_succ]
                      refine' wpAnyLast_take (i := 12) (oi := Oper.mk _ _ _ _ _ _) rfl (by kernel_rfl) (by kernel_rfl) (by kernel_rfl) (by kernel_rfl) (by kernel_rfl) (fun _ _ _ h => h) (Or.inl ⟨by rfl, ?hy40⟩) hS ?rest40
                      case hy40 => (intro w hSw; (try dsimp only at hSw); first | (go_simp; done) | (go_simp; with_reducible rfl))
                      try simp only [Act.put, List.setIfInBounds_toArray, List.set_cons_zero, List.set_cons_succ]
                      refine' wpAnyLast_take (i := 13) (oi := Oper.mk _ _ _ _ _ _) rfl (by kernel_rfl) (by kernel_rfl) (by kernel_rfl) (by kernel_rfl) (by kernel_rfl) (fun _ _ _ h => h) (Or.inl ⟨by rfl, ?hy41⟩) hS ?rest41
                      case hy41 => (intro w hSw; (try dsimp only at hSw); first | (go_simp; done) | (go_simp; with_reducible rfl))
                      try simp only [Act.put, List.setIfInBounds_toArray, List.set_cons_zero, List.set_cons_succ]
                      refine' wpAnyLast_take (i := 14) (oi := Oper.mk _ _ _ _ _ _) rfl (by kernel_rfl) (by kernel_rfl) (by kernel_rfl) (by kernel_rfl) (by kernel_rfl) (fun _ _ _ h => h) (Or.inl ⟨by rfl, ?hy42⟩) hS ?rest42
                      case hy42 => (intro w hSw; (try dsimp only at hSw); first | (go_simp; done) | (go_simp; with_reducible rfl))
                      try simp only [Act.put, List.setIfInBounds_toArray, List.set_cons_zero, List.set_cons_succ]
                      refine' wpAnyLast_take (i := 15) (oi := Oper.mk _ _ _ _ _ _) rfl (by kernel_rfl) (by kernel_rfl) (by kernel_rfl) (by kernel_rfl) (by kernel_rfl) (fun _ _ _ h => h) (Or.inl ⟨by rfl, ?hy43⟩) hS ?rest43
                      case hy43 => (intro w hSw; (try dsimp only at hSw); first | (go_simp; done) | (go_simp; with_reducible rfl))
                      try simp only [Act.put, List.setIfInBounds_toArray, List.set_cons_zero, List.set_cons_succ]
                      refine' wpAnyLast_take (i := 16) (oi := Oper.mk _ _ _ _ _ _) rfl (by kernel_rfl) (by kernel_rfl) (by kernel_rfl) (by kernel_rfl) (by kernel_rfl) (fun _ _ _ h => h) (Or.inl ⟨by rfl, ?hy44⟩) hS ?rest44
                      case hy44 => (intro w hSw; (try dsimp only at hSw); first | (go_simp; done) | (go_simp; with_reducible rfl))
                      try simp only [Act.put, List.setIfInBounds_toArray, List.set_cons_zero, List.set_cons_succ]
                      refine' wpAnyLast_take (i := 17) (oi := Oper.mk _ _ _ _ _ _) rfl (by kernel_rfl) (by kernel_rfl) (by kernel_rfl) (by kernel_rfl) (by kernel_rfl) (fun _ _ _ h => h) (Or.inl ⟨by rfl, ?hy45⟩) hS ?rest45
                      case hy45 => (intro w hSw; (try dsimp only at hSw); first | (go_simp; done) | (go_simp; with_reducible rfl))
                      try simp only [Act.put, List.setIfInBounds_toArray, List.set_cons_zero, List.set_cons_succ]
                      refine wpAnyLast_take (i := 18) (oi := Oper.mk _ _ _ _ _ _) rfl (by kernel_rfl) (by kernel_rfl) (by kernel_rfl) (by kernel_rfl) (by kernel_rfl) (fun _ _ _ h => h) (rg_load1 (by rfl) (fun _ hS => hS.1) 25 _ rfl rfl (fun _ => by simp [isAgg, run_underlying Tryd.underlying25])) hS ?_
                      try simp only [Act.put, List.setIfInBounds_toArray, List.set_cons_zero, List.set_cons_succ]
                      refine' wpAnyLast_take (i := 19) (oi := Oper.mk _ _ _ _ _ _) rfl (by kernel_rfl) (by kernel_rfl) (by kernel_rfl) (by kernel_rfl) (by kernel_rfl) (fun _ _ _ h => h) (Or.inl ⟨by rfl, ?hy46⟩) hS ?rest46
                      case hy46 => (intro w hSw; (try dsimp only at hSw); first | (go_simp; done) | (go_simp; with_reducible rfl))
                      try simp only [Act.put, List.setIfInBounds_toArray, List.set_cons_zero, List.set_cons_succ]
                      refine' wpAnyLast_take (i := 20) (oi := Oper.mk _ _ _ _ _ _) rfl (by kernel_rfl) (by kernel_rfl) (by kernel_rfl) (by kernel_rfl) (by kernel_rfl) (fun _ _ _ h => h) (Or.inl ⟨by rfl, ?hy47⟩) hS ?rest47
                      case hy47 => (intro w hSw; (try dsimp only at hSw); first | (go_simp; done) | (go_simp; with_reducible rfl))
                      try simp only [Act.put, List.setIfInBounds_toArray, List.set_cons_zero, List.set_cons_succ]
                      refine' wpAnyLast_take (i := 21) (oi := Oper.mk _ _ _ _ _ _) rfl (by kernel_rfl) (by kernel_rfl) (by kernel_rfl) (by kernel_rfl) (by kernel_rfl) (fun _ _ _ h => h) (Or.inl ⟨by rfl, ?hy48⟩) hS ?rest48
                      case hy48 => (intro w hSw; (try dsimp only at hSw); first | (go_simp; done) | (go_simp; with_reducible rfl))
                      try simp only [Act.put, List.setIfInBounds_toArray, List.set_cons_zero, List.set_cons_succ]
                      refine wpAnyLast_take (i := 22) (oi := Oper.mk _ _ _ _ _ _) (v := undef) rfl (by kernel_rfl) (by kernel_rfl) (by kernel_rfl) (by kernel_rfl) (by kernel_rfl) (fun _ _ _ h => h) (Or.inr ⟨by rfl, rfl⟩) hS ?_
                      try simp only [Act.put, List.setIfInBounds_toArray, List.set_cons_zero, List.set_cons_succ]
                      refine wpAnyLast_take (i := 23) (oi := Oper.mk _ _ _ _ _ _) (v := undef) rfl (by kernel_rfl) (by kernel_rfl) (by kernel_rfl) (by kernel_rfl) (by kernel_rfl) (fun _ _ _ h => h) (Or.inr ⟨by rfl, rfl⟩) hS ?_
                      try simp only [Act.put, List.setIfInBounds_toArray, List.set_cons_zero, List.set_cons_succ]
                      refine wpAnyLast_take (i := 24) (oi := Oper.mk _ _ _ _ _ _) (v := undef) rfl (by kernel_rfl) (by kernel_rfl) (by kernel_rfl) (by kernel_rfl) (by kernel_rfl) (fun _ _ _ h => h) (Or.inr ⟨by rfl, rfl⟩) hS ?_
                      try simp only [Act.put, List.setIfInBounds_toArray, List.set_cons_zero, List.set_cons_succ]
                      refine wpAnyLast_take (i := 25) (oi := Oper.mk _ _ _ _ _ _) (v := undef) rfl (by kernel_rfl) (by kernel_rfl) (by kernel_rfl) (by kernel_rfl) (by kernel_rfl) (fun _ _ _ h => h) (Or.inr ⟨by rfl, rfl⟩) hS ?_
                      try simp only [Act.put, List.setIfInBounds_toArray, List.set_cons_zero, List.set_cons_succ]
                      refine wpAnyLast_take (i := 26) (oi := Oper.mk _ _ _ _ _ _) (v := undef) rfl (by kernel_rfl) (by kernel_rfl) (by kernel_rfl) (by kernel_rfl) (by kernel_rfl) (fun _ _ _ h => h) (Or.inr ⟨by rfl, rfl⟩) hS ?_
                      try simp only [Act.put, List.setIfInBounds_toArray, List.set_cons_zero, List.set_cons_succ]
                      refine wpAnyLast_take (i := 27) (oi := Oper.mk _ _ _ _ _ _) (v := undef) rfl (by kernel_rfl) (by kernel_rfl) (by kernel_rfl) (by kernel_rfl) (by kernel_rfl) (fun _ _ _ h => h) (Or.inr ⟨by rfl, rfl⟩) hS ?_
                      try simp only [Act.put, List.setIfInBounds_toArray, List.set_cons_zero, List.set_cons_succ]
                      refine wpAnyLast_take (i := 28) (oi := Oper.mk _ _ _ _ _ _) (v := undef) rfl (by kernel_rfl) (by kernel_rfl) (by kernel_rfl) (by kernel_rfl) (by kernel_rfl) (fun _ _ _ h => h) (Or.inr ⟨by rfl, rfl⟩) hS ?_
                      try simp only [Act.put, List.setIfInBounds_toArray, List.set_cons_zero, List.set_cons_succ]
                      refine wpAnyLast_take (i := 29) (oi := Oper.mk _ _ _ _ _ _) (v := undef) rfl (by kernel_rfl) (by kernel_rfl) (by kernel_rfl) (by kernel_rfl) (by kernel_rfl) (fun _ _ _ h => h) (Or.inr ⟨by rfl, rfl⟩) hS ?_
                      try simp only [Act.put, List.setIfInBounds_toArray, List.set_cons_zero, List.set_cons_succ]
                      refine wpAnyLast_take (i := 30) (oi := Oper.mk _ _ _ _ _ _) (v := undef) rfl (by kernel_rfl) (by kernel_rfl) (by kernel_rfl) (by kernel_rfl) (by kernel_rfl) (fun _ _ _ h => h) (Or.inr ⟨by rfl, rfl⟩) hS ?_
                      try simp only [Act.put, List.setIfInBounds_toArray, List.set_cons_zero, List.set_cons_succ]
                      refine wpAnyLast_take (i := 31) (oi := Oper.mk _ _ _ _ _ _) (v := undef) rfl (by kernel_rfl) (by kernel_rfl) (by kernel_rfl) (by kernel_rfl) (by kernel_rfl) (fun _ _ _ h => h) (Or.inr ⟨by rfl, rfl⟩) hS ?_
                      try simp only [Act.put, List.setIfInBounds_toArray, List.set_cons_zero, List.set_cons_succ]
                      refine wpAnyLast_take (i := 32) (oi := Oper.mk _ _ _ _ _ _) (v := undef) rfl (by kernel_rfl) (by kernel_rfl) (by kernel_rfl) (by kernel_rfl) (by kernel_rfl) (fun _ _ _ h => h) (Or.inr ⟨by rfl, rfl⟩) hS ?_
                      try simp only [Act.put, List.setIfInBounds_toArray, List.set_cons_zero, List.set_cons_succ]
                      refine wpAnyLast_take (i := 33) (oi := Oper.mk _ _ _ _ _ _) (v := undef) rfl (by kernel_rfl) (by kernel_rfl) (by kernel_rfl) (by kernel_rfl) (by kernel_rfl) (fun _ _ _ h => h) (Or.inr ⟨by rfl, rfl⟩) hS ?_
                      try simp only [Act.put, List.setIfInBounds_toArray, List.set_cons_zero, List.set_cons_succ]
                      refine wpAnyLast_take (i := 34) (oi := Oper.mk _ _ _ _ _ _) (v := undef) rfl (by kernel_rfl) (by kernel_rfl) (by kernel_rfl) (by kernel_rfl) (by kernel_rfl) (fun _ _ _ h => h) (Or.inr ⟨by rfl, rfl⟩) hS ?_
                      try simp only [Act.put, List.setIfInBounds_toArray, List.set_cons_zero, List.set_cons_succ]
                      refine' wpAnyLast_take (i := 35) (oi := Oper.mk _ _ _ _ _ _) rfl (by kernel_rfl) (by kernel_rfl) (by kernel_rfl) (by kernel_rfl) (by kernel_rfl) (fun _ _ _ h => h) (Or.inl ⟨by rfl, ?hy49⟩) hS ?rest49
                      case hy49 => (intro w hSw; (try dsimp only at hSw); first | (go_simp; done) | (go_simp; with_reducible rfl))
                      try simp only [Act.put, List.setIfInBounds_toArray, List.set_cons_zero, List.set_cons_succ]
                      refine' wpAnyLast_take (i := 36) (oi := Oper.mk _ _ _ _ _ _) rfl (by kernel_rfl) (by kernel_rfl) (by kernel_rfl) (by kernel_rfl) (by kernel_rfl) (fun _ _ _ h => h) (Or.inl ⟨by rfl, ?hy50⟩) hS ?rest50
                      case hy50 => (intro w hSw; (try dsimp only at hSw); first | (go_simp; done) | (go_simp; with_reducible rfl))
                      try simp only [Act.put, List.setIfInBounds_toArray, List.set_cons_zero, List.set_cons_succ]
                      refine wpAnyLast_done (by kernel_rfl) ?_ _
                      refine NoPanic.normal ?_
                      go_wp2
                      go_roundw
                      case rel => exact ⟨i + 1, by rw [HWi.out], ⟨HI2.out⟩, HPi⟩
                      case measure => have := HI2.out; rw [HWi.out]; simp [intOf]; omega
                    exact AllReadyL.nil
                · have s1 : decide ((i : Int) < (M : Int)) = false := decide_eq_false (by omega); have s2 : decide (i < M) = false := decide_eq_false hi
                  clear hi hel
                  go_wp2
                  go_roundw
                  case rel => exact ⟨k + 1, by rw [HWk.out], ⟨HKK.out⟩, HPi⟩
                  case measure => have := HKK.out; rw [HWk.out]; simp [intOf]; omega
            · have t1 : decide ((k : Int) < (N : Int)) = false := decide_eq_false (by omega)
              have t2 : decide (k < N) = false := decide_eq_false hk
              have HP4 := Aside0.mk HP.out.to4
              clear hk HP HK
              go_wp2
              go_loopw [11, 12, 13] (fun v11 _ _ wr => ∃ k : Nat, v11 = .int .i64 k ∧ Aside0 (k ≤ N) ∧ Aside0 (Ph4 N v n w gl curL (.slice A5 N c5) wr)) (fun v11 _ _ _ => N - (intOf v11).toNat)
              case atStart => exact ⟨0, rfl, ⟨Nat.zero_le _⟩, HP4⟩
              case round =>
                clear HP4 t1 t2
                obtain ⟨k, rfl, HK, HP⟩ := hrel
                obtain ⟨wo, rfl⟩ : ∃ wo : World, wo = wr := ⟨_, rfl⟩
                by_cases hk : k < N
                · have t1 : decide ((k : Int) < (N : Int)) = true := decide_eq_true (by omega)
                  have t2 : decide (k < N) = true := decide_eq_true hk
                  have hk1 : (0 : Int) ≤ (k : Int) := by omega
                  have hk2 : (k : Int) < (N : Int) := by omega
                  obtain ⟨A, cp, hv⟩ := SH.out k hk
                  have q0 := HP.out.lo.cell (HL.out k hk)
                  rw [hv] at q0
                  clear q0
                  have HKK := Aside0.mk hk
                  have HWk : Aside0 (wrap64 ((k : Int) + 1) = ((k + 1 : Nat) : Int)) := ⟨by have := HNN.out.1; unfold wrap64; omega⟩
                  have HV := Aside0.mk hv
                  have HP0 := Aside0.mk HP.out.begin
                  clear hk hv HP
                  go_wp2
                  go_loopw [12, 13] (fun v12 v13 wr => ∃ i : Nat, v13 = .int .i64 i ∧ Aside0 (i ≤ 64) ∧ Aside0 (Ph4i N v n w gl curL (.slice A5 N c5) i v12 wr)) (fun _ v13 _ => 64 - (intOf v13).toNat)
                  case atStart => exact ⟨0, rfl, ⟨Nat.zero_le _⟩, HP0⟩
                  case round =>
                    clear HP0
                    obtain ⟨i, rfl, HI, HPi⟩ := hrel
                    obtain ⟨wi, rfl⟩ : ∃ wi : World, wi = wr := ⟨_, rfl⟩
                    obtain ⟨A12, c12, rfl⟩ := HPi.out.shape12
                    by_cases hi : i < 64
                    · have s1 : decide ((i : Int) < 64) = true := decide_eq_true (by omega)
                      have s2 : decide (i < 64) = true := decide_eq_true hi
                      have HI2 := Aside0.mk hi
                      have HWi : Aside0 (wrap64 ((i : Int) + 1) = ((i + 1 : Nat) : Int)) := ⟨by unfold wrap64; omega⟩
                      have HBd : Aside0 ((i + 1) * 8 ≤ 140737488355328) := ⟨by omega⟩
                      clear hi
                      go_wp2_with (first
                        | (go_at_call 19; refine (MK.out _ _ _).mono ?_; rintro e w9 ⟨rfl, hb9⟩; have HPn := Aside0.mk (HPi.out.below hb9); clear HPi hb9; have HPi := HPn; clear HPn)
                        | ((with_reducible refine gate_dst (N := 142) rfl ?_); refine ev_lit1 rfl (.int .u64 (IntKind.u64.wrap (mkI (wrap64 ((k : Int) + (N : Int))) ((i : Int))))) 41 ?hr ?_; (case hr => first | (go_simp; done) | (go_simp; rfl)); intro g10 w10 G10 B10 K10; have HPn := Aside0.mk (HPi.out.below K10.out); clear HPi K10 G10; have HPi := HPn; clear HPn)
                        | ((with_reducible refine gate_dst (N := 143) rfl ?_); obtain ⟨xs, hxs, hfin⟩ := HPi.out.grow; refine ev_append2 rfl _ _ 25 41 (.int .u64 0) 8 rfl Tryd.underlying25 (by kernel_rfl) rfl (by decide) _ i _ hxs rfl ⟨g10, 0, none⟩ 1 1 [.int .u64 (IntKind.u64.wrap (mkI (wrap64 ((k : Int) + (N : Int))) ((i : Int))))] rfl rfl (by decide) (lit_news B10) (lit_one rfl) HBd.out ?_; intro v11 w11 hA; have HPn := Aside0.mk (hfin _ _ _ rfl hA.out); clear HPi B10 hA hfin hxs; have HPi := HPn; clear HPn))
                      go_roundw
                      case rel => exact ⟨i + 1, by rw [HWi.out], ⟨HI2.out⟩, HPi⟩
                      case measure => have := HI2.out; rw [HWi.out]; simp [intOf]; omega
                    · have s1 : decide ((i : Int) < 64) = false := decide_eq_false (by omega)
                      have s2 : decide (i < 64) = false := decide_eq_false hi
                      obtain rfl : i = 64 := by have := HI.out; omega
                      obtain ⟨g5, c5', gm, cm, xs, news, e5, e12, hxs, hl, hnews, hone, hfin⟩ := HPi.out.fin HKK.out
                      injection e5 with e5 _ e6
                      subst e5 e6
                      injection e12 with e12 _ _
                      subst e12
                      rw [HV.out] at hxs hfin
                      have q0 := HPi.out.lo.cell (HL.out k HKK.out)
                      rw [HV.out] at q0
                      have HBd : Aside0 ((n k + 64) * 8 ≤ 140737488355328) := ⟨by have := HNN.out.2 k HKK.out; omega⟩
                      have HX := Aside0.mk (And.intro hxs (And.intro hl (And.intro hnews (And.intro hone hfin))))
                      clear hi hxs hl hnews hone hfin
                      go_wp2_with (first
                        | ((with_reducible refine gate_dst (N := 151) rfl ?_); refine ev_append2 rfl _ _ 25 41 (.int .u64 0) 8 rfl Tryd.underlying25 (by kernel_rfl) rfl (by decide) _ (n k) _ HX.out.1 rfl ⟨gm, 0, none⟩ 64 c12 news rfl HX.out.2.1 (by decide) HX.out.2.2.1 HX.out.2.2.2.1 HBd.out ?_; intro v11 w11 hA; obtain ⟨cur5, B5, hc5, ho5, hput⟩ := HX.out.2.2.2.2 _ _ hA.out; have HPUT := Aside0.mk hput; have HC5 := Aside0.mk (And.intro hc5 ho5); clear hput hA q0 hc5 ho5)
                        | ((with_reducible refine gate_ (Op.store 25 (.tmp 152) (.tmp 151)) rfl ?_); refine ev_put1 B5 rfl 25 _ _ rfl rfl _ rfl HC5.out.1 (by kernel_rfl) HC5.out.2 ?_; intro w12 B12 hg12; have HPk := Aside0.mk (HPUT.out _ B12 hg12.out); clear B5 B12 hg12 HPUT HC5))
                      go_roundw
                      case rel => exact ⟨k + 1, by rw [HWk.out], ⟨HKK.out⟩, HPk⟩
                      case measure => have := HKK.out; rw [HWk.out]; simp [intOf]; omega
                · have t1 : decide ((k : Int) < (N : Int)) = false := decide_eq_false (by omega)
                  have t2 : decide (k < N) = false := decide_eq_false hk
                  have HP5 := HP
                  clear hk HP HK
                  go_wp2
                  go_loopw [14] (fun v14 wr => ∃ k : Nat, v14 = .int .i64 k ∧ Aside0 (k ≤ N) ∧ Aside0 (Ph4 N v n w gl curL (.slice A5 N c5) wr)) (fun v14 _ => N - (intOf v14).toNat)
                  case atStart => exact ⟨0, rfl, ⟨Nat.zero_le _⟩, HP5⟩
                  case round =>
                    clear HP5 t1 t2
                    obtain ⟨k, rfl, HK, HP⟩ := hrel
                    obtain ⟨wo, rfl⟩ : ∃ wo : World, wo = wr := ⟨_, rfl⟩
                    by_cases hk : k < N
                    · have t1 : decide ((k : Int) < (N : Int)) = true := decide_eq_true (by omega)
                      have t2 : decide (k < N) = true := decide_eq_true hk
                      have hk1 : (0 : Int) ≤ (k : Int) := by omega
                      have hk2 : (k : Int) < (N : Int) := by omega
                      obtain ⟨A, cp, hv⟩ := SH.out k hk
                      have q0 := HP.out.lo.cell (HL.out k hk)
                      rw [hv] at q0
                      clear q0
                      have HKK := Aside0.mk hk
                      have HWk : Aside0 (wrap64 ((k : Int) + 1) = ((k + 1 : Nat) : Int)) := ⟨by have := HNN.out.1; unfold wrap64; omega⟩
                      have HV := Aside0.mk hv
                      clear hk hv
                      go_wp2
                      go_loopw [15] (fun v15 wr => ∃ i : Nat, v15 = .int .i64 i ∧ Aside0 (i ≤ n k) ∧ Aside0 (Ph4 N v n w gl curL (.slice A5 N c5) wr)) (fun v15 _ => n k - (intOf v15).toNat)
                      case atStart => exact ⟨0, rfl, ⟨Nat.zero_le _⟩, HP⟩
                      case round =>
                        clear HP
                        obtain ⟨i, rfl, HI, HPi⟩ := hrel
                        obtain ⟨wi, rfl⟩ : ∃ wi : World, wi = wr := ⟨_, rfl⟩
                        have q0 := HPi.out.lo.cell (HL.out k HKK.out)
                        by_cases hi : i < n k
                        · have s1 : decide ((i : Int) < (n k : Int)) = true := decide_eq_true (by omega); have s2 : decide (i < n k) = true := decide_eq_true hi
                          have hi1 : (0 : Int) ≤ (i : Int) := by omega
                          have hi2 : (i : Int) < (n k : Int) := by omega
                          have HWi : Aside0 (wrap64 ((i : Int) + 1) = ((i + 1 : Nat) : Int)) := ⟨by have := HNN.out.2 k HKK.out; unfold wrap64; omega⟩
                          have HI2 := Aside0.mk hi
                          obtain ⟨g, cap, hv1, q3⟩ := HPi.out.lsAt HKK.out hi
                          obtain ⟨g5, c5', gg, l, cg, e5, qg, hl, q2⟩ := HPi.out.gsAt HKK.out hi
                          injection e5 with e5 _ e6
                          subst e5 e6
                          have hi3 : (i : Int) < (l : Int) := by omega
                          rw [hv1] at q0
                          unfold mkv at q2 q3
                          clear hv1 hi hl
                          go_upto_region 41 with (fail)
                          have HPn := Aside0.mk (HPi.out.below (below_drew (Below.refl _ _)))
                          have z0 := pw_cell_below (below_drew (Below.refl _ _)) q0
                          have z1 := pw_cell_below (below_drew (Below.refl _ _)) qg
                          have z2 := pw_cell_below (below_drew (Below.refl _ _)) q2
                          have z3 := pw_cell_below (below_drew (Below.refl _ _)) q3
                          clear HPi q0 qg q2 q3
                          have HPi := HPn
                          have q0 := z0
                          have qg := z1
                          have q2 := z2
                          have q3 := z3
                          clear HPn z0 z1 z2 z3
                          refine wp_region_noPanic ?_
                          refine wp_region_last_drew (S := fun W' => W'.cell? ⟨gl, k, none⟩ = some (.slice (some ⟨g, 0, none⟩) (n k) cap) ∧ W'.cell? ⟨g5, k, none⟩ = some (.slice (some ⟨gg, 0, none⟩) l cg) ∧ W'.cell? ⟨gg, i, none⟩ = some (.int .u64 (IntKind.u64.wrap (mkI ((k : Int)) ((i : Int))))) ∧ W'.cell? ⟨g, i, none⟩ = some (.int .u64 (IntKind.u64.wrap (mkI ((k : Int)) ((i : Int)))))) (ds := []) (by kernel_rfl) ⟨q0, qg, q2, q3⟩ (fun hS => ?_)
                          refine' wpAnyLast_take (i := 0) (oi := Oper.mk _ _ _ _ _ _) rfl (by kernel_rfl) (by kernel_rfl) (by kernel_rfl) (by kernel_rfl) (by kernel_rfl) (fun _ _ _ h => h) (Or.inl ⟨by rfl, ?hy51⟩) hS ?rest51
                          case hy51 => (intro w hSw; (try dsimp only at hSw); first | (go_simp; done) | (go_simp; with_reducible rfl))
                          try simp only [Act.put, List.setIfInBounds_toArray, List.set_cons_zero, List.set_cons_succ]
                          refine' wpAnyLast_take (i := 1) (oi := Oper.mk _ _ _ _ _ _) rfl (by kernel_rfl) (by kernel_rfl) (by kernel_rfl) (by kernel_rfl) (by kernel_rfl) (fun _ _ _ h => h) (Or.inl ⟨by rfl, ?hy52⟩) hS ?rest52
                          case hy52 => (intro w hSw; (try dsimp only at hSw); first | (go_simp; done) | (go_simp; with_reducible rfl))
                          try simp only [Act.put, List.setIfInBounds_toArray, List.set_cons_zero, List.set_cons_succ]
                          refine' wpAnyLast_take (i := 2) (oi := Oper.mk _ _ _ _ _ _) rfl (by kernel_rfl) (by kernel_rfl) (by kernel_rfl) (by kernel_rfl) (by kernel_rfl) (fun _ _ _ h => h) (Or.inl ⟨by rfl, ?hy53⟩) hS ?rest53
                          case hy53 => (intro w hSw; (try dsimp only at hSw); first | (go_simp; done) | (go_simp; with_reducible rfl))
                          try simp only [Act.put, List.setIfInBounds_toArray, List.set_cons_zero, List.set_cons_succ]
                          refine wpAnyLast_take (i := 3) (oi := Oper.mk _ _ _ _ _ _) rfl (by kernel_rfl) (by kernel_rfl) (by kernel_rfl) (by kernel_rfl) (by kernel_rfl) (fun _ _ _ h => h) (rg_load1 (by rfl) (fun _ hS => hS.1) 25 _ rfl rfl (fun _ => by simp [isAgg, run_underlying Tryd.underlying25])) hS ?_
                          try simp only [Act.put, List.setIfInBounds_toArray, List.set_cons_zero, List.set_cons_succ]
                          refine' wpAnyLast_take (i := 4) (oi := Oper.mk _ _ _ _ _ _) rfl (by kernel_rfl) (by kernel_rfl) (by kernel_rfl) (by kernel_rfl) (by kernel_rfl) (fun _ _ _ h => h) (Or.inl ⟨by rfl, ?hy54⟩) hS ?rest54
                          case hy54 => (intro w hSw; (try dsimp only at hSw); first | (go_simp; done) | (go_simp; with_reducible rfl))
                          try simp only [Act.put, List.setIfInBounds_toArray, List.set_cons_zero, List.set_cons_succ]
                          refine' wpAnyLast_take (i := 5) (oi := Oper.mk _ _ _ _ _ _) rfl (by kernel_rfl) (by kernel_rfl) (by kernel_rfl) (by kernel_rfl) (by kernel_rfl) (fun _ _ _ h => h) (Or.inl ⟨by rfl, ?hy55⟩) hS ?rest55
                          case hy55 => (intro w hSw; (try dsimp only at hSw); first | (go_simp; done) | (go_simp; with_reducible rfl))
                          try simp only [Act.put, List.setIfInBounds_toArray, List.set_cons_zero, List.set_cons_succ]
                          refine wpAnyLast_take (i := 6) (oi := Oper.mk _ _ _ _ _ _) rfl (by kernel_rfl) (by kernel_rfl) (by kernel_rfl) (by kernel_rfl) (by kernel_rfl) (fun _ _ _ h => h) (rg_load1 (by rfl) (fun _ hS => hS.2.2.2) 41 _ rfl rfl (fun _ => by simp [isAgg, run_underlying Tryd.underlying41])) hS ?_
                          try simp only [Act.put, List.setIfInBounds_toArray, List.set_cons_zero, List.set_cons_succ]
                          refine' wpAnyLast_take (i := 7) (oi := Oper.mk _ _ _ _ _ _) rfl (by kernel_rfl) (by kernel_rfl) (by kernel_rfl) (by kernel_rfl) (by kernel_rfl) (fun _ _ _ h => h) (Or.inl ⟨by rfl, ?hy56⟩) hS ?rest56
                          case hy56 => (intro w hSw; (try dsimp only at hSw); first | (go_simp; done) | (go_simp; with_reducible rfl))
                          try simp only [Act.put, List.setIfInBounds_toArray, List.set_cons_zero, List.set_cons_succ]
                          refine' wpAnyLast_take (i := 8) (oi := Oper.mk _ _ _ _ _ _) rfl (by kernel_rfl) (by kernel_rfl) (by kernel_rfl) (by kernel_rfl) (by kernel_rfl) (fun _ _ _ h => h) (Or.inl ⟨by rfl, ?hy57⟩) hS ?rest57
                          case hy57 => (intro w hSw; (try dsimp only at hSw); first | (go_simp; done) | (go_simp; with_reducible rfl))
                          try simp only [Act.put, List.setIfInBounds_toArray, List.set_cons_zero, List.set_cons_succ]
                          refine wpAnyLast_ready (rs := [9]) (by kernel_rfl) (by simp) ?_
                          refine AllReadyL.cons (o := Oper.mk _ _ _ _ _ _) rfl (by decide) (fun K hK => ?_) ?_
                          · refine rg_call (by rfl) _ _ (.int .i64 (mkI (k : Int) (i : Int))) (by first | (go_simp; done) | (go_simp; rfl)) (MK.out _ _ _) ?_
                            intro W' hb
                            have HPn := Aside0.mk (HPi.out.below hb.out)
                            have z0 := pw_cell_below hb.out q0
                            have z1 := pw_cell_below hb.out qg
                            have z2 := pw_cell_below hb.out q2
                            have z3 := pw_cell_below hb.out q3
                            clear HPi q0 qg q2 q3
                            have HPi := HPn
                            have q0 := z0
                            have qg := z1
                            have q2 := z2
                            have q3 := z3
                            clear HPn z0 z1 z2 z3
                            refine hK.out _ _ ⟨q0, qg, q2, q3⟩ (fun hS => ?_)
                            clear hK K hb
                            try simp only [Act.put, List.setIfInBounds_toArray, List.set_cons_zero, List.set_cons_succ]
                            refine' wpAnyLast_take (i := 10) (oi := Oper.mk _ _ _ _ _ _) rfl (by kernel_rfl) (by kernel_rfl) (by kernel_rfl) (by kernel_rfl) (by kernel_rfl) (fun _ _ _ h => h) (Or.inl ⟨by rfl, ?hy58⟩) hS ?rest58
                            case hy58 => (intro w hSw; (try dsimp only at hSw); first | (go_simp; done) | (go_simp; with_reducible rfl))
                            try simp only [Act.put, List.setIfInBounds_toArray, List.set_cons_zero, List.set_cons_succ]
                            refine' wpAnyLast_take (i := 11) (oi := Oper.mk _ _ _ _ _ _) rfl (by kernel_rfl) (by kernel_rfl) (by kernel_rfl) (by kernel_rfl) (by kernel_rfl) (fun _ _ _ h => h) (Or.inl ⟨by rfl, ?hy59⟩) hS ?rest59
                            case hy59 => (intro w hSw; (try dsimp only at hSw); first | (go_simp; done) | (go_simp; with_reducible rfl))
                            try simp only [Act.put, List.setIfInBounds_toArray, List.set_cons_zero, List.set_cons_succ]
                            refine' wpAnyLast_take (i := 12) (oi := Oper.mk _ _ _ _ _ _) rfl (by kernel_rfl) (by kernel_rfl) (by kernel_rfl) (by kernel_rfl) (by kernel_rfl) (fun _ _ _ h => h) (Or.inl ⟨by rfl, ?hy60⟩) hS ?rest60
                            case hy60 => (intro w hSw; (try dsimp only at hSw); first | (go_simp; done) | (go_simp; with_reducible rfl))
                            try simp only [Act.put, List.setIfInBounds_toArray, List.set_cons_zero, List.set_cons_succ]
                            refine' wpAnyLast_take (i := 13) (oi := Oper.mk _ _ _ _ _ _) rfl (by kernel_rfl) (by kernel_rfl) (by kernel_rfl) (by kernel_rfl) (by kernel_rfl) (fun _ _ _ h => h) (Or.inl ⟨by rfl, ?hy61⟩) hS ?rest61
                            case hy61 => (intro w hSw; (try dsimp only at hSw); first | (go_simp; done) | (go_simp; with_reducible rfl))
                            try simp only [Act.put, List.setIfInBounds_toArray, List.set_cons_zero, List.set_cons_succ]
                            refine' wpAnyLast_take (i := 14) (oi := Oper.mk _ _ _ _ _ _) rfl (by kernel_rfl) (by kernel_rfl) (by kernel_rfl) (by kernel_rfl) (by kernel_rfl) (fun _ _ _ h => h) (Or.inl ⟨by rfl, ?hy62⟩) hS ?rest62
                            case hy62 => (intro w hSw; (try dsimp only at hSw); first | (go_simp; done) | (go_simp; with_reducible rfl))
                            try simp only [Act.put, List.setIfInBounds_toArray, List.set_cons_zero, List.set_cons_succ]
                            refine' wpAnyLast_take (i := 15) (oi := Oper.mk _ _ _ _ _ _) rfl (by kernel_rfl) (by kernel_rfl) (by kernel_rfl) (by kernel_rfl) (by kernel_rfl) (fun _ _ _ h => h) (Or.inl ⟨by rfl, ?hy63⟩) hS ?rest63
                            case hy63 => (intro w hSw; (try dsimp only at hSw); first | (go_simp; done) | (go_simp; with_reducible rfl))
                            try simp only [Act.put, List.setIfInBounds_toArray, List.set_cons_zero, List.set_cons_succ]
                            refine' wpAnyLast_take (i := 16) (oi := Oper.mk _ _ _ _ _ _) rfl (by kernel_rfl) (by kernel_rfl) (by kernel_rfl) (by kernel_rfl) (by kernel_rfl) (fun _ _ _ h => h) (Or.inl ⟨by rfl, ?hy64⟩) hS ?rest64
                            case hy64 => (intro w hSw; (try dsimp only at hSw); first | (go_simp; done) | (go_simp; with_reducible rfl))
                            try simp only [Act.put, List.setIfInBounds_toArray, List.set_cons_zero, List.set_cons_succ]
                            refine wpAnyLast_take (i := 17) (oi := Oper.mk _ _ _ _ _ _) rfl (by kernel_rfl) (by kernel_rfl) (by kernel_rfl) (by kernel_rfl) (by kernel_rfl) (fun _ _ _ h => h) (rg_load1 (by rfl) (fun _ hS => hS.2.1) 25 _ rfl rfl (fun _ => by simp [isAgg, run_underlying Tryd.underlying25])) hS ?_
                            try simp only [Act.put, List.setIfInBounds_toArray, List.set_cons_zero, List.set_cons_succ]
                            refine' wpAnyLast_take (i := 18) (oi := Oper.mk _ _ _ _ _ _) rfl (by kernel_rfl) (by kernel_rfl) (by kernel_rfl) (by kernel_rfl) (by kernel_rfl) (fun _ _ _ h => h) (Or.inl ⟨by rfl, ?hy65⟩) hS ?rest65
                            case hy65 => (intro w hSw; (try dsimp only at hSw); first | (go_simp; done) | (go_simp; with_reducible rfl))
                            try simp only [Act.put, List.setIfInBounds_toArray, List.set_cons_zero, List.set_cons_succ]
                            refine' wpAnyLast_take (i := 19) (oi := Oper.mk _ _ _ _ _ _) rfl (by kernel_rfl) (by kernel_rfl) (by kernel_rfl) (by kernel_rfl) (by kernel_rfl) (fun _ _ _ h => h) (Or.inl ⟨by rfl, ?hy66⟩) hS ?rest66
                            case hy66 => (intro w hSw; (try dsimp only at hSw); first | (go_simp; done) | (go_simp; with_reducible rfl))
                            try simp only [Act.put, List.setIfInBounds_toArray, List.set_cons_zero, List.set_cons_succ]
                            refine wpAnyLast_take (i := 20) (oi := Oper.mk _ _ _ _ _ _) rfl (by kernel_rfl) (by kernel_rfl) (by kernel_rfl) (by kernel_rfl) (by kernel_rfl) (fun _ _ _ h => h) (rg_load1 (by rfl) (fun _ hS => hS.2.2.1) 41 _ rfl rfl (fun _ => by simp [isAgg, run_underlying Tryd.underlying41])) hS ?_
                            try simp only [Act.put, List.setIfInBounds_toArray, List.set_cons_zero, List.set_cons_succ]
                            refine' wpAnyLast_take (i := 21) (oi := Oper.mk _ _ _ _ _ _) rfl (by kernel_rfl) (by kernel_rfl) (by kernel_rfl) (by kernel_rfl) (by kernel_rfl) (fun _ _ _ h => h) (Or.inl ⟨by rfl, ?hy67⟩) hS ?rest67
                            case hy67 => (intro w hSw; (try dsimp only at hSw); first | (go_simp; done) | (go_simp; with_reducible rfl))
                            try simp only [Act.put, List.setIfInBounds_toArray, List.set_cons_zero, List.set_cons_succ]
                            refine' wpAnyLast_take (i := 22) (oi := Oper.mk _ _ _ _ _ _) rfl (by kernel_rfl) (by kernel_rfl) (by kernel_rfl) (by kernel_rfl) (by kernel_rfl) (fun _ _ _ h => h) (Or.inl ⟨by rfl, ?hy68⟩) hS ?rest68
                            case hy68 => (intro w hSw; (try dsimp only at hSw); first | (go_simp; done) | (go_simp; with_reducible rfl))
                            try simp only [Act.put, List.setIfInBounds_toArray, List.set_cons_zero, List.set_cons_succ]
                            refine wpAnyLast_ready (rs := [23]) (by kernel_rfl) (by simp) ?_
                            refine AllReadyL.cons (o := Oper.mk _ _ _ _ _ _) rfl (by decide) (fun K hK => ?_) ?_
                            · refine rg_call (by rfl) _ _ (.int .i64 (mkI (k : Int) (i : Int))) (by first | (go_simp; done) | (go_simp; rfl)) (MK.out _ _ _) ?_
                              intro W' hb
                              have HPn := Aside0.mk (HPi.out.below hb.out)
                              have z0 := pw_cell_below hb.out q0
                              have z1 := pw_cell_below hb.out qg
                              have z2 := pw_cell_below hb.out q2
                              have z3 := pw_cell_below hb.out q3
                              clear HPi q0 qg q2 q3
                              have HPi := HPn
                              have q0 := z0
                              have qg := z1
                              have q2 := z2
                              have q3 := z3
                              clear HPn z0 z1 z2 z3
                              refine hK.out _ _ ⟨q0, qg, q2, q3⟩ (fun hS => ?_)
                              clear hK K hb
                              try simp only [Act.put, List.setIfInBounds_toArray, List.set_cons_zero, List.set_cons_succ]
                              refine' wpAnyLast_take (i := 24) (oi := Oper.mk _ _ _ _ _ _) rfl (by kernel_rfl) (by kernel_rfl) (by kernel_rfl) (by kernel_rfl) (by kernel_rfl) (fun _ _ _ h => h) (Or.inl ⟨by rfl, ?hy69⟩) hS ?rest69
                              case hy69 => (intro w hSw; (try dsimp only at hSw); first | (go_simp; done) | (go_simp; with_reducible rfl))
                              try simp only [Act.put, List.setIfInBounds_toArray, List.set_cons_zero, List.set_cons_succ]
                              refine' wpAnyLast_take (i := 25) (oi := Oper.mk _ _ _ _ _ _) rfl (by kernel_rfl) (by kernel_rfl) (by kernel_rfl) (by kernel_rfl) (by kernel_rfl) (fun _ _ _ h => h) (Or.inl ⟨by rfl, ?hy70⟩) hS ?rest70
                              case hy70 => (intro w hSw; (try dsimp only at hSw); first | (go_simp; done) | (go_simp; with_reducible rfl))
                              try simp only [Act.put, List.setIfInBounds_toArray, List.set_cons_zero, List.set_cons_succ]
                              refine' wpAnyLast_take (i := 26) (oi := Oper.mk _ _ _ _ _ _) rfl (by kernel_rfl) (by kernel_rfl) (by kernel_rfl) (by kernel_rfl) (by kernel_rfl) (fun _ _ _ h => h) (Or.inl ⟨by rfl, ?hy71⟩) hS ?rest71
                              case hy71 => (intro w hSw; (try dsimp only at hSw); first | (go_simp; done) | (go_simp; with_reducible rfl))
                              try simp only [Act.put, List.setIfInBounds_toArray, List.set_cons_zero, List.set_cons_succ]
                              refine' wpAnyLast_take (i := 27) (oi := Oper.mk _ _ _ _ _ _) rfl (by kernel_rfl) (by kernel_rfl) (by kernel_rfl) (by kernel_rfl) (by kernel_rfl) (fun _ _ _ h => h) (Or.inl ⟨by rfl, ?hy72⟩) hS ?rest72
                              case hy72 => (intro w hSw; (try dsimp only at hSw); first | (go_simp; done) | (go_simp; with_reducible rfl))
                              try simp only [Act.put, List.setIfInBounds_toArray, List.set_cons_zero, List.set_cons_succ]
                              refine wpAnyLast_done (by kernel_rfl) ?_ _
                              refine NoPanic.normal ?_
                              go_wp2
                              go_roundw
                              case rel => exact ⟨i + 1, by rw [HWi.out], ⟨HI2.out⟩, HPi⟩
                              case measure => have := HI2.out; rw [HWi.out]; simp [intOf]; omega
                            exact AllReadyL.nil
                          exact AllReadyL.nil
                        · have s1 : decide ((i : Int) < (n k : Int)) = false := decide_eq_false (by omega); have s2 : decide (i < n k) = false := decide_eq_false hi
                          rw [HV.out] at q0
                          clear hi
                          go_wp2
                          go_roundw
                          case rel => exact ⟨k + 1, by rw [HWk.out], ⟨HKK.out⟩, HPi⟩
                          case measure => have := HKK.out; rw [HWk.out]; simp [intOf]; omega
                    · have t1 : decide ((k : Int) < (N : Int)) = false := decide_eq_false (by omega)
                      have t2 : decide (k < N) = false := decide_eq_false hk
                      clear hk HK
                      go_wp2
                      go_ret
                      exact ⟨rfl, HP.out.tv⟩

end


end Go.Proofs.YtagcilcdgckbeaaDoor.PK
