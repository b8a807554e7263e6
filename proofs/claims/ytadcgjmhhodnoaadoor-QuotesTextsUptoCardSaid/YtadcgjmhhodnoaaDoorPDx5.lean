-- Written by a program (myprint.py, over the kit's print) for this claim. Not trusted: Lean checks it.
import Derived.Test.YtadcgjmhhodnoaaDoorMh
import Derived.Test.YtadcgjmhhodnoaaDoorPDx0
import Derived.Test.YtadcgjmhhodnoaaDoorPDx3
import Derived.Test.YtadcgjmhhodnoaaDoorPDx4
namespace Go.Proofs.YtadcgjmhhodnoaaDoor.PD
attribute [local go_sem] Go.Proofs.YtadcgjmhhodnoaaDoorM.fieldBits0 Go.Proofs.YtadcgjmhhodnoaaDoorM.fieldBits1
open Go.RowKit Go.Proofs.YtadcgjmhhodnoaaDoorW.PrintWords Go.Proofs.YtadcgjmhhodnoaaDoorW.PrintLast Go.Proofs.YtadcgjmhhodnoaaDoorW.PrintMore
attribute [local go_sem] max2_int min2_int max_two min_two max_three min_three max_four min_four   -- for this text's walks alone
set_option linter.unusedVariables false
set_option linter.unusedSimpArgs false

/-! ### quarrylaw07_QuotesTexts: function 7 -/
section
open Go.Proofs.YtadcgjmhhodnoaaDoorQ Go.Proofs.YtadcgjmhhodnoaaDoorM Go.Shelf
open Go.Proofs.YtadcgjmhhodnoaaDoorW.PrintWords
namespace QtF
theorem set_step {α : Type} (n : Nat) (f d : Nat → α) {i : Nat} (h : i < n) : ((List.range n).map fun j => if j < i then f j else d j).set i (f i) = (List.range n).map fun j => if j < i + 1 then f j else d j := by
  apply List.ext_getElem?
  intro j
  rw [List.getElem?_set, List.getElem?_map, List.getElem?_map, List.length_map, List.length_range]
  by_cases hj : j < n
  · rw [List.getElem?_range hj]
    by_cases e : i = j
    · subst e
      rw [if_pos rfl, if_pos hj]
      simp
    · rw [if_neg e]
      by_cases g : j < i
      · simp [g, show j < i + 1 by omega]
      · simp [g, show ¬ j < i + 1 by omega]
  · rw [List.getElem?_eq_none (by rw [List.length_range]; omega), if_neg (by omega)]
    simp
theorem set_done {α : Type} (n : Nat) (f d : Nat → α) : ((List.range n).map fun j => if j < n then f j else d j) = (List.range n).map f := List.map_congr_left fun j hj => if_pos (List.mem_range.1 hj)
theorem w64s (i n : Nat) (h : i < n) (hn : n ≤ 281474976702464) : wrap64 ((i : Int) + 1) = ((i + 1 : Nat) : Int) := by unfold wrap64; omega
theorem marks7_loop (s : ByteArray) (hn : s.size ≤ 140737488351232) :
    ∀ (d i k : Nat), i + d = s.size → d < k → quarryref07_marks.l0 k s ((List.range s.size).map fun j => if j < i then mkq s j else false) (esc s false i) (i : Int) = some ((List.range s.size).map (mkq s)) := by
  intro d
  induction d with
  | zero =>
    intro i k hi hk
    obtain ⟨k, rfl⟩ : ∃ m, k = m + 1 := ⟨k - 1, by omega⟩
    unfold quarryref07_marks.l0
    rw [if_neg (by omega), show i = s.size by omega, set_done]
  | succ d ih =>
    intro i k hi hk
    obtain ⟨k, rfl⟩ : ∃ m, k = m + 1 := ⟨k - 1, by omega⟩
    have h2 := ih (i + 1) k (by omega) (by omega)
    rw [← set_step s.size (mkq s) (fun _ => false) (show i < s.size by omega)] at h2
    have hl : ((List.range s.size).map fun j => if j < i then mkq s j else false).length = s.size := by simp
    unfold quarryref07_marks.l0
    rw [if_pos (by omega), if_pos (by omega), w64s i s.size (by omega) (by omega)]
    have he : ∀ b : Bool, decide (bt s (i : Int) = 34) = b → mkq s i = (b && !esc s false i) := fun b hb => by unfold mkq; rw [hb]
    have hx : esc s false (i + 1) = (decide (bt s (i : Int) = 92) && !esc s false i) := rfl
    by_cases h34 : bt s (i : Int) = 34
    · rw [he true (decide_eq_true h34), Bool.true_and, hx, decide_eq_false (by omega), Bool.false_and] at h2
      rw [if_pos h34, if_pos (by rw [hl]; omega), Option.bind_some, Int.toNat_natCast, if_neg (by omega)]
      exact h2
    · rw [he false (decide_eq_false h34), Bool.false_and, hx] at h2
      rw [if_neg h34, if_pos (by rw [hl]; omega), Option.bind_some, Int.toNat_natCast]
      by_cases h92 : bt s (i : Int) = 92
      · rw [decide_eq_true h92, Bool.true_and] at h2
        rw [if_pos h92]
        exact h2
      · rw [decide_eq_false h92, Bool.false_and] at h2
        rw [if_neg h92]
        exact h2
theorem marks7_eq (s : ByteArray) (hn : s.size ≤ 140737488351232) (k : Nat) (hk : s.size < k) : quarryref07_marks.f k s = some ((List.range s.size).map (mkq s)) := by
  have h := marks7_loop s hn s.size 0 k (by omega) hk
  unfold quarryref07_marks.f
  rw [if_pos (by omega), Int.toNat_natCast, if_pos (by omega)]
  have e : ((List.range s.size).map fun j => if j < 0 then mkq s j else false) = List.replicate s.size false := by
    apply List.ext_getElem? 
    intro j
    rw [List.getElem?_map, List.getElem?_replicate]
    by_cases hj : j < s.size
    · rw [List.getElem?_range hj, if_pos hj]
      simp
    · rw [List.getElem?_eq_none (by rw [List.length_range]; omega), if_neg hj]
      rfl
  rw [e] at h
  exact h
theorem inside7_loop (s : ByteArray) (hn : s.size ≤ 140737488351232) :
    ∀ (d i k : Nat), i + d = s.size → d < k → quarryref07_inside.l0 k ((List.range s.size).map fun j => if j < i then insS s j else mkq s j) (par (mkq s) i) (i : Int) = some ((List.range s.size).map (insS s)) := by
  intro d
  induction d with
  | zero =>
    intro i k hi hk
    obtain ⟨k, rfl⟩ : ∃ m, k = m + 1 := ⟨k - 1, by omega⟩
    unfold quarryref07_inside.l0
    rw [if_neg (by simp; omega), show i = s.size by omega, set_done]
  | succ d ih =>
    intro i k hi hk
    obtain ⟨k, rfl⟩ : ∃ m, k = m + 1 := ⟨k - 1, by omega⟩
    have h2 := ih (i + 1) k (by omega) (by omega)
    rw [← set_step s.size (insS s) (mkq s) (show i < s.size by omega)] at h2
    have hr : rdOf false ((List.range s.size).map fun j => if j < i then insS s j else mkq s j) (i : Int) = mkq s i := by
      unfold rdOf
      rw [Int.toNat_natCast, List.getD_eq_getElem?_getD, List.getElem?_map, List.getElem?_range (by omega)]
      simp
    have hi1 : insS s i = (par (mkq s) i ^^ mkq s i) := rfl
    have hp : par (mkq s) (i + 1) = (par (mkq s) i ^^ mkq s i) := rfl
    unfold quarryref07_inside.l0
    rw [if_pos (by simp; omega), if_pos (by omega), w64s i s.size (by omega) (by omega), hr, Int.toNat_natCast]
    rw [hi1, hp] at h2
    cases h : mkq s i
    · rw [h, Bool.xor_false] at h2
      rw [if_neg (by decide)]
      exact h2
    · rw [h, Bool.xor_true] at h2
      rw [if_pos rfl]
      exact h2
theorem inside7_eq (s : ByteArray) (hn : s.size ≤ 140737488351232) (k : Nat) (hk : s.size < k) : quarryref07_inside.f k s = some ((List.range s.size).map (insS s)) := by
  have h := inside7_loop s hn s.size 0 k (by omega) hk
  unfold quarryref07_inside.f
  rw [marks7_eq s hn k hk, Option.bind_some]
  exact h
theorem mk_list (s : ByteArray) (q : Nat → Bool) (i : Nat) (h : i < s.size) : rdOf false ((List.range s.size).map q) (i : Int) = q i := by
  unfold rdOf
  rw [Int.toNat_natCast, List.getD_eq_getElem?_getD, List.getElem?_map, List.getElem?_range h]
  rfl
/-- The marks below a place; what they tell so far. -/
def stB (s : ByteArray) (i : Nat) : List (Nat × Nat) × Option Nat := foldT ((List.range i).filter (mkq s))
theorem stB_succ (s : ByteArray) (i : Nat) : stB s (i + 1) = if mkq s i = true then stepQ (stB s i) i else stB s i := by
  unfold stB
  rw [List.range_succ, List.filter_append]
  cases h : mkq s i
  · simp [h]
  · simp only [List.filter_cons, h, if_true, List.filter_nil]
    exact foldT_snoc _ _
theorem stB_par (s : ByteArray) : ∀ i, (stB s i).2.isSome = par (mkq s) i
  | 0 => rfl
  | i + 1 => by
    have h := stB_par s i
    rw [stB_succ, par_succ]
    cases hm : mkq s i
    · rw [if_neg (by decide), h, Bool.xor_false]
    · rw [if_pos rfl, ← h]
      unfold stepQ
      cases (stB s i).2 <;> rfl
/-- The next mark, or the end. -/
def nextM (s : ByteArray) : Nat → Nat → Nat
  | 0, i => i
  | d + 1, i => if mkq s i = true then i else nextM s d (i + 1)
def spanS (x : Nat × Nat) : S30 := ⟨(x.1 : Int), (x.2 : Int)⟩
/-- What the document's list holds at a place: the open one stands there already, up to the next mark. -/
def accB (s : ByteArray) (i : Nat) : List (Nat × Nat) := match (stB s i).2 with
  | none => (stB s i).1
  | some f => (stB s i).1 ++ [(f, nextM s (s.size - i) i)]
theorem nextM_at (s : ByteArray) (d i : Nat) (h : mkq s i = true) : nextM s (d + 1) i = i := by
  unfold nextM
  rw [if_pos h]
theorem nextM_no (s : ByteArray) (d i : Nat) (h : mkq s i = false) : nextM s (d + 1) i = nextM s d (i + 1) := by
  rw [nextM, if_neg (by rw [h]; decide)]
/-- A place that is no opening mark leaves the list as it is. -/
theorem accB_skip (s : ByteArray) (i : Nat) (hi : i < s.size) (h : mkq s i = false ∨ par (mkq s) i = true) : accB s (i + 1) = accB s i := by
  have hp := stB_par s i
  obtain ⟨d, hd⟩ : ∃ d, s.size - i = d + 1 := ⟨s.size - i - 1, by omega⟩
  have hd1 : s.size - (i + 1) = d := by omega
  unfold accB
  rw [stB_succ, hd, hd1]
  cases hm : mkq s i
  · rw [if_neg (by decide), nextM_no s d i hm]
  · rw [hm] at h
    have h2 : par (mkq s) i = true := by simpa using h
    rw [h2] at hp
    obtain ⟨f, hf⟩ := Option.isSome_iff_exists.1 hp
    rw [if_pos rfl, nextM_at s d i hm]
    unfold stepQ
    rw [hf]
theorem accB_open (s : ByteArray) (i : Nat) (hi : i < s.size) (hm : mkq s i = true) (hp : par (mkq s) i = false) : accB s (i + 1) = accB s i ++ [(i + 1, nextM s (s.size - (i + 1)) (i + 1))] := by
  have h := stB_par s i
  rw [hp] at h
  have hn : (stB s i).2 = none := by
    cases g : (stB s i).2 with
    | none => rfl
    | some f => rw [g] at h; cases h
  unfold accB
  rw [stB_succ, if_pos hm]
  unfold stepQ
  rw [hn]
theorem accB_end (s : ByteArray) : accB s s.size = textsL s := by
  unfold accB textsL endT
  rw [Nat.sub_self]
  rfl
theorem stB_len (s : ByteArray) : ∀ i, (stB s i).1.length ≤ i
  | 0 => Nat.le_refl _
  | i + 1 => by
    have h := stB_len s i
    rw [stB_succ]
    cases hm : mkq s i
    · rw [if_neg (by decide)]; omega
    · rw [if_pos rfl]
      unfold stepQ
      split
      · show (stB s i).1.length ≤ i + 1
        omega
      · rw [List.length_append, List.length_singleton]; omega
theorem accB_len (s : ByteArray) (i : Nat) : (accB s i).length ≤ i + 1 := by
  have h := stB_len s i
  unfold accB
  split
  · omega
  · rw [List.length_append, List.length_singleton]; omega
theorem texts7_in (s : ByteArray) (hn : s.size ≤ 1048576) (acc : List S30) (f : Nat) (hf : f < s.size) (ha : acc.length < 8796093022208) (R : Option (List S30)) (K : Nat) :
    ∀ (d j : Nat), j + d = s.size → (∀ k', K ≤ k' → quarryref07_Texts.l0 k' s (acc ++ [(⟨((f + 1 : Nat) : Int), (nextM s d j : Int)⟩ : S30)]) ((List.range s.size).map (mkq s)) ((List.range s.size).map (insS s)) ((f + 1 : Nat) : Int) = R) → ∀ k, K + d + 1 ≤ k →
      quarryref07_Texts.l1 k s acc ((List.range s.size).map (mkq s)) ((List.range s.size).map (insS s)) (f : Int) (j : Int) = R := by
  have hw : wrap64 ((f : Int) + 1) = ((f + 1 : Nat) : Int) := by unfold wrap64; omega
  intro d
  induction d with
  | zero =>
    intro j hj h k hk
    obtain ⟨k, rfl⟩ : ∃ q, k = q + 1 := ⟨k - 1, by omega⟩
    unfold quarryref07_Texts.l1
    rw [if_neg (by omega), if_pos ha, hw]
    exact h k (by omega)
  | succ d ih =>
    intro j hj h k hk
    obtain ⟨k, rfl⟩ : ∃ q, k = q + 1 := ⟨k - 1, by omega⟩
    unfold quarryref07_Texts.l1
    rw [if_pos (by omega), if_pos (by omega), if_pos (by simp; omega), mk_list s (mkq s) j (by omega)]
    cases hq : mkq s j
    · rw [if_neg (by decide), show wrap64 ((j : Int) + 1) = ((j + 1 : Nat) : Int) by unfold wrap64; omega]
      rw [nextM_no s d j hq] at h
      exact ih (j + 1) (by omega) h k (by omega)
    · rw [if_pos rfl, if_pos ha, hw]
      rw [nextM_at s d j hq] at h
      exact h k (by omega)
/-- Rounds enough. -/
def kk7 (n : Nat) : Nat → Nat
  | 0 => 1
  | d + 1 => kk7 n d + n + 4
theorem texts7_loop (s : ByteArray) (hn : s.size ≤ 1048576) :
    ∀ (d i : Nat), i + d = s.size → ∀ k, kk7 s.size d ≤ k → quarryref07_Texts.l0 k s ((accB s i).map spanS) ((List.range s.size).map (mkq s)) ((List.range s.size).map (insS s)) (i : Int) = some ((textsL s).map spanS) := by
  intro d
  induction d with
  | zero =>
    intro i hi k hk
    obtain ⟨k, rfl⟩ : ∃ q, k = q + 1 := ⟨k - 1, by unfold kk7 at hk; omega⟩
    obtain rfl : i = s.size := by omega
    unfold quarryref07_Texts.l0
    rw [if_neg (by omega), accB_end]
  | succ d ih =>
    intro i hi k hk
    have hk2 : kk7 s.size d + s.size + 4 ≤ k := hk
    obtain ⟨k, rfl⟩ : ∃ q, k = q + 2 := ⟨k - 2, by omega⟩
    have hw : wrap64 ((i : Int) + 1) = ((i + 1 : Nat) : Int) := by unfold wrap64; omega
    have hins : insS s i = (par (mkq s) i ^^ mkq s i) := rfl
    have skip : mkq s i = false ∨ par (mkq s) i = true → quarryref07_Texts.j1 (k + 1) s ((accB s i).map spanS) ((List.range s.size).map (mkq s)) ((List.range s.size).map (insS s)) (i : Int) true = some ((textsL s).map spanS) := fun h => by
      unfold quarryref07_Texts.j1
      rw [if_pos rfl, hw, ← accB_skip s i (by omega) h]
      exact ih (i + 1) (by omega) k (by omega)
    unfold quarryref07_Texts.l0
    rw [if_pos (by omega), if_pos (by omega), if_pos (by simp; omega), mk_list s (mkq s) i (by omega)]
    cases hm : mkq s i
    · rw [if_neg (by decide)]
      exact skip (.inl hm)
    · rw [if_pos rfl, if_pos (by simp; omega), mk_list s (insS s) i (by omega), hins, hm]
      cases hp : par (mkq s) i
      · unfold quarryref07_Texts.j1
        rw [if_neg (by decide), hw]
        refine texts7_in s hn _ i (by omega) (by have := accB_len s i; rw [List.length_map]; omega) _ (kk7 s.size d) d (i + 1) (by omega) (fun k' hk' => ?_) k (by omega)
        have h := ih (i + 1) (by omega) k' hk'
        rw [accB_open s i (by omega) hm hp, show s.size - (i + 1) = d by omega, List.map_append] at h
        exact h
      · exact skip (.inr hp)
theorem Texts7_eq (s : ByteArray) (hn : s.size ≤ 1048576) : ∃ k, quarryref07_Texts.f k s = some ((textsL s).map spanS) := by
  refine ⟨kk7 s.size s.size + s.size + 1, ?_⟩
  unfold quarryref07_Texts.f
  rw [marks7_eq s (by omega) _ (by omega), Option.bind_some, inside7_eq s (by omega) _ (by omega), Option.bind_some]
  exact texts7_loop s hn s.size 0 (by omega) _ (by omega)

end QtF
attribute [local go_sem] Oper.semAt_some
theorem cell_blk {w : World} {g j : Nat} {cur : Array Value} {t : Nat} {v : Value} (B : Blk w g cur t) (h : w.cell? ⟨g, j, none⟩ = some v) : cur[j]? = some v := by
  cases hc : cur[j]? with
  | none =>
    unfold World.cell? at h
    simp [B.out, hc] at h
  | some u =>
    have := B.cell hc
    rw [h] at this
    exact this.symm
theorem want_row {w : World} {base : Nat} {ok : Nat → Prop} {v : Value} {L : List (Nat × Nat)} (h : Kd.R k30 30 w base ok v (L.map QtF.spanS)) :
    ∃ A2 cap2, v = .slice A2 L.length cap2 ∧ (L = [] ∨ ∃ (gw : Nat) (cs : Array Value) (tw : Nat), A2 = some ⟨gw, 0, none⟩ ∧ Blk w gw cs tw ∧ SpanRow cs L) := by
  obtain ⟨A, c, rfl⟩ := Kd.R_slice h
  obtain ⟨inner, ho⟩ := Kd.R_own h
  have hC := (Kd.R_reads' h).2.2
  rw [List.length_map] at ho hC ⊢
  refine ⟨A, c, rfl, ?_⟩
  rcases ho.2 with ⟨he, h0⟩ | ⟨g, cap, cur, he, hb, hgb, r⟩
  · injection he with h1 h2 h3
    exact .inl (List.eq_nil_of_length_eq_zero h2)
  · injection he with h1 h2 h3
    refine .inr ⟨g, cur, _, h1, ⟨hgb⟩, fun i x hx => ?_⟩
    have hi : i < L.length := (List.getElem?_eq_some_iff.1 hx).1
    obtain ⟨ad, ha, c1, c2⟩ := at_T30 hC (i : Int) (by omega) (by omega)
    rw [h1] at ha
    cases ha
    rw [add_plain, Int.toNat_natCast] at c1 c2
    have hr : rd_T30 (L.map QtF.spanS) (i : Int) = QtF.spanS x := by
      unfold rd_T30
      rw [Int.toNat_natCast, List.getD_eq_getElem?_getD, List.getElem?_map, hx]
      rfl
    rw [hr] at c1 c2
    exact ⟨cell_blk ⟨hgb⟩ c1, cell_blk ⟨hgb⟩ c2⟩
/-- Between two spans. -/
structure QtI (wA : World) (g7 m : Nat) (n : Int) (W : World) : Prop where mk ::
  b7 : Blk W g7 #[.int .i64 n] 3
  hb : BelowH wA W
  sz : m ≤ W.heap.size
theorem QtI.kept {wA W W' : World} {g7 m : Nat} {n : Int} (h : QtI wA g7 m n W) {B : Nat} (hB : wA.heap.size ≤ B) {row : Option Nat} (hg : W.grownBy W' row) (hr : ∀ r, row = some r → B ≤ r ∧ ∃ o : Obj, W.heap[r]? = some o ∧ o.isCells = false) : QtI wA g7 m n W' := by
  have hr' : ∀ r, row = some r → ∃ o : Obj, W.heap[r]? = some o ∧ o.isCells = false := fun r e => (hr r e).2
  exact ⟨h.b7.kept hg hr', h.hb.kept hg hB (fun r e => (hr r e).1), Nat.le_trans h.sz hg.size⟩
theorem QtI.below {wA W W' : World} {g7 m : Nat} {n : Int} (h : QtI wA g7 m n W) (hb : Below W.heap.size W W') : QtI wA g7 m n W' :=
  ⟨h.b7.below hb, h.hb.step hb, Nat.le_trans h.sz hb.size⟩
theorem QtI.turned {wA W W' : World} {g7 m : Nat} {n : Int} (h : QtI wA g7 m n W) {X : List Nat} (hX : ∀ k ∈ X, m ≤ k) (ht : Turned X W W') (h7 : g7 < m) (hA : wA.heap.size ≤ m) : QtI wA g7 m n W' :=
  ⟨h.b7.turned ht (not_mem_above hX h7), ⟨ht.below (fun k hk => Nat.le_trans hA (hX k hk)) h.hb.le h.hb.out⟩, Nat.le_trans h.sz ht.size⟩
/-- What stands before the loops, and stays. -/
structure QtA (s : ByteArray) (N : Nat) (kk : Int) (w wA : World) (g3 g4 g5 g6 h3 h1 : Nat) (A A2 : Option Addr) (cap cap2 : Nat) : Prop where mk ::
  b3 : Blk wA g3 #[.int .i64 kk] 3
  b4 : Blk wA g4 #[.bool false] 4
  b5 : Blk wA g5 #[.slice A2 N cap2] 31
  hN : N = (textsL s).length
  b6 : Blk wA g6 #[.func (.func 67) #[] #[.pointer (some ⟨h3, 0, none⟩), .pointer (some ⟨h1, 0, none⟩)]] 27
  B3 : Blk wA h3 #[.int .i64 s.size, .slice A (wordsOf s.size (mkq s)).length cap] 38
  hC : Kd.C (Kd.int .u64) wA A (wordsOf s.size (mkq s)).length (wordsOf s.size (mkq s))
  hcap : (wordsOf s.size (mkq s)).length ≤ cap
  B1 : Blk wA h1 #[.string s] 9
  ht : TabOk wA
  row : textsL s = [] ∨ ∃ (gw : Nat) (cs : Array Value) (tw : Nat), A2 = some ⟨gw, 0, none⟩ ∧ Blk wA gw cs tw ∧ SpanRow cs (textsL s)
  hb : BelowH w wA
  ge4 : w.heap.size ≤ g4
theorem qt_told {s : ByteArray} (hs : s.size ≤ 1099511627776) (hN : (textsL s).length ≤ 1125899906842624) {N : Nat} {kk : Int} {w wA : World} {g3 g4 g5 g6 h3 h1 : Nat} {A A2 : Option Addr} {cap cap2 : Nat} (h : QtA s N kk w wA g3 g4 g5 g6 h3 h1 A A2 cap cap2) (W : World) (hb : BelowH wA W) :
    Calls Tryd.prog 33 #[.func (.func 67) #[] #[.pointer (some ⟨h3, 0, none⟩), .pointer (some ⟨h1, 0, none⟩)], .slice A2 N cap2] W fun e w' => e = .returned (.bool true) ∧ Below W.heap.size W w' := by
  rw [h.hN]
  refine quarrylaw07_told.walk s hs h3 h1 A cap W (h.B3.below hb.out) (Kd.C_below h.hC hb.out) h.hcap (h.B1.below hb.out) (h.ht.step hb.out) A2 ?_ hN cap2
  rcases h.row with h0 | ⟨gw, cs, tw, h1, h2, h3⟩
  · exact .inl h0
  · exact .inr ⟨gw, cs, tw, h1, h2.below hb.out, h3⟩
set_option maxHeartbeats 4000000 in
set_option maxRecDepth 100000 in
theorem quarrylaw07_QuotesTexts.true_ (s : ByteArray) (kk : Int) (hs : s.size ≤ 1048576) (w : World) (hT : TabOk w) :
    Calls Tryd.prog 7 #[.string s, .int .i64 kk] w fun e w' => e = .returned (.bool true) ∧ Below w.heap.size w w' := by
  have hN0 : (textsL s).length ≤ 1048577 := by rw [← QtF.accB_end]; have := QtF.accB_len s s.size; omega
  obtain ⟨kf, hkf⟩ := QtF.Texts7_eq s hs
  obtain ⟨F, hF⟩ : ∃ F, F = Fence.wide := ⟨_, rfl⟩
  have HF := Aside0.mk hF
  refine (callsIn_wide (n := 9)).1 ?_
  rw [← hF]
  clear hF
  have hro := wide_round HF
  have HB := BelowH.refl w
  have f1 := wide_fn HF 31
  have f2 := wide_fn HF 67
  have f3 := wide_fn HF 32
  have f4 := wide_fn HF 28
  have f5 := wide_fn HF 33
  obtain ⟨N, hN⟩ : ∃ N, N = (textsL s).length := ⟨_, rfl⟩
  have RT : Aside0 (∀ W, Calls Tryd.prog 31 #[.string s] W fun e w' => ∃ A2 cap2, e = .returned (.slice A2 N cap2) ∧ (textsL s = [] ∨ ∃ (gw : Nat) (cs : Array Value) (tw : Nat), A2 = some ⟨gw, 0, none⟩ ∧ Blk w' gw cs tw ∧ SpanRow cs (textsL s)) ∧ Below W.heap.size W w') := ⟨fun W => by
    refine (quarryref07_Texts.calls kf s _ W hkf).mono ?_
    rintro e w' ⟨v, rfl, hR, hb⟩
    obtain ⟨A2, cap2, rfl, hrow⟩ := want_row hR
    exact ⟨A2, cap2, by rw [hN], hrow, hb⟩⟩
  have AW : Aside0 (∀ W, TabOk W → Calls Tryd.prog 28 #[] W fun e w' => e = .returned (.bool true) ∧ Below W.heap.size W w') := ⟨fun W h => quarrylaw07_awake.walk W h⟩
  have QF : ∀ (w : World) (f : Fn) (a c : Array Value), (binOp .eql 27 (.func f a c) .nilFunc).run Tryd.prog w = .ok (.bool false) w := fun w f a c => run_eql_func_nil (ps := #[72]) (rs := #[]) (vd := false) _ (by kernel_rfl) _ _ _ _
  have HT := Aside0.mk hT
  have HN := Aside0.mk (And.intro hN (And.intro hN0 hs))
  have HNB : Aside0 (N ≤ 1048577) := ⟨by rw [hN]; exact hN0⟩
  clear hT hN hN0 hs hkf
  refine callsIn_of_wp_marks Tryd.func7 rfl (wide_fn HF _) ?_ hro
  simp only [Tryd.ntmps7, List.size_toArray, List.length_cons, List.length_nil, Nat.reduceAdd, Nat.reduceSub, Array.replicate_succ, Array.replicate_zero, List.push_toArray, List.append_toArray, List.nil_append, List.cons_append]
  gi_upto_region 5 with (first
    | ((with_reducible refine gate_dstIn (N := 3) rfl ?_); refine ev_allocIn HB rfl rfl (#[.int .i64 kk]) 3 ?hr ?_; (case hr => first | (go_simp; done) | (go_simp; rfl)); intro g3 w3 G_g3 GE_g3 B_g3 HBn K_g3 KO_w3; clear HB; have HB := HBn; clear HBn)
    | ((with_reducible refine gate_dstIn (N := 4) rfl ?_); refine ev_allocIn HB rfl rfl (#[.bool false]) 4 ?hr ?_; (case hr => first | (go_simp; done) | (go_simp; rfl)); intro g4 w4 G_g4 GE_g4 B_g4 HBn K_g4 KO_w4; clear HB; have HB := HBn; clear HBn)
    | (gi_at_call 31; refine (callsIn_of HF (RT.out _)).mono ?_; rintro e w5 ⟨A2, cap2, rfl, hrow, hb5⟩; have HROW := Aside0.mk hrow; have HK5 := Aside0.mk hb5; have HB5 := Aside0.mk (HB.step hb5); have HQ := BelowH.refl w5; clear HB hb5 hrow; have HB := HQ; clear HQ)
    | ((with_reducible refine gate_dstIn (N := 5) rfl ?_); refine ev_allocIn HB rfl rfl (#[.slice none 0 0]) 31 ?hr ?_; (case hr => first | (go_simp; done) | (go_simp; rfl)); intro g5 w6 G_g5 GE_g5 B_g5 HBn K_g5 KO_w6; clear HB; have HB := HBn; clear HBn)
    | ((with_reducible refine gate_In (Op.store 31 (.tmp 5) (.tmp 11)) rfl ?_); refine ev_store1In (i := 0) HB B_g5 GE_g5 rfl 31 _ _ rfl rfl (.slice A2 N cap2) rfl (by simp) (by kernel_rfl) rfl ?_; intro w7 B7 HBn K_w7 KO_w7; clear HB; have HB := HBn; clear HBn)
    | (gi_at_call 32; refine (callsIn_of HF (quotes_Texts.calls s _ (by have := HN.out.2.2; omega))).mono ?_; rintro e w8 ⟨h3, h1, rfl, hO⟩; have HO := Aside0.mk hO; have HK8 := Aside0.mk hO.hb.out; have HB8 := Aside0.mk (HB.step hO.hb.out); have HQ := BelowH.refl w8; clear HB hO; have HB := HQ; clear HQ)
    | ((with_reducible refine gate_dstIn (N := 6) rfl ?_); refine ev_allocIn HB rfl rfl (#[.nilFunc]) 27 ?hr ?_; (case hr => first | (go_simp; done) | (go_simp; rfl)); intro g6 w9 G_g6 GE_g6 B_g6 HBn K_g6 KO_w9; clear HB; have HB := HBn; clear HBn)
    | (((with_reducible refine gate_In (Op.store 27 (.tmp 6) (.tmp 13)) rfl ?_); refine ev_store1In (i := 0) HB B_g6 GE_g6 rfl 27 _ _ rfl rfl (.func (.func 67) #[] #[.pointer (some ⟨h3, 0, none⟩), .pointer (some ⟨h1, 0, none⟩)]) rfl (by simp) (by kernel_rfl) rfl ?_; intro w10 B10 HBn K_w10 KO_w10; clear HB; have HB := HBn; clear HBn); have c6 := B10.cell (i := 0) (v := .func (.func 67) #[] #[.pointer (some ⟨h3, 0, none⟩), .pointer (some ⟨h1, 0, none⟩)]) rfl)
    | (gi_at_call 28; go_must (refine (callsIn_of HF (AW.out _ (((HT.out.step HB5.out.out).step HB8.out.out).step HB.out))).mono ?_); rintro e w11 ⟨rfl, hb11⟩; have HK11 := Aside0.mk hb11; have HBn := HB.step hb11; clear HB hb11; have HB := HBn; clear HBn))
  obtain ⟨A, cap, hB3, hC, hcap⟩ := HO.out.out
  have NE : Aside0 (g3 ≠ g5 ∧ g4 ≠ g5 ∧ g3 ≠ g6 ∧ g4 ≠ g6 ∧ g5 ≠ g6 ∧ h3 ≠ g6 ∧ h1 ≠ g6) := ⟨by
    have z1 := B_g3.lt
    have z2 := B_g4.lt
    have z3 := G_g4.out
    have z4 := G_g5.out
    have z5 := HK5.out.size
    have z6 := B7.lt
    have z7 := HK8.out.size
    have z8 := G_g6.out
    have z9 := hB3.lt
    have za := HO.out.b1.lt
    have zb := K_w7.out.1
    omega⟩
  have Q := Aside0.mk (show QtA s N kk w w11 g3 g4 g5 g6 h3 h1 A A2 cap cap2 from {
    b3 := ((((((((B_g3.below K_g4.out).below HK5.out).below K_g5.out).other K_w7 NE.out.1).below HK8.out).below K_g6.out).other K_w10 NE.out.2.2.1).below HK11.out)
    b4 := (((((((B_g4.below HK5.out).below K_g5.out).other K_w7 NE.out.2.1).below HK8.out).below K_g6.out).other K_w10 NE.out.2.2.2.1).below HK11.out)
    b5 := ((((B7.below HK8.out).below K_g6.out).other K_w10 NE.out.2.2.2.2.1).below HK11.out)
    hN := HN.out.1
    b6 := B10.below HK11.out
    B3 := hB3.below HB.out
    hC := Kd.C_below hC HB.out
    hcap := hcap
    B1 := HO.out.b1.below HB.out
    ht := ((HT.out.step HB5.out.out).step HB8.out.out).step HB.out
    row := HROW.out.imp id fun ⟨gw, cs, tw, h1, h2, h3⟩ => ⟨gw, cs, tw, h1, (h2.below HB8.out.out).below HB.out, h3⟩
    hb := (HB5.out.step HB8.out.out).step HB.out
    ge4 := GE_g4.out })
  clear B_g3 B_g4 B_g5 B_g6 B7 B10 c6 hB3 hC hcap HB HO HK5 HK8 HK11 HB5 HB8 HROW NE K_g3 K_g4 K_g5 K_g6 K_w7 K_w10 G_g3 G_g4 G_g5 G_g6 GE_g3 GE_g4 GE_g5 GE_g6 KO_w3 KO_w4 KO_w6 KO_w7 KO_w9 KO_w10
  have TD : Aside0 (∀ W, BelowH w11 W → Calls Tryd.prog 33 #[.func (.func 67) #[] #[.pointer (some ⟨h3, 0, none⟩), .pointer (some ⟨h1, 0, none⟩)], .slice A2 N cap2] W fun e w' => e = .returned (.bool true) ∧ Below W.heap.size W w') := ⟨fun W h => qt_told (by have := HN.out.2.2; omega) (by have := HN.out.2.1; omega) Q.out W h⟩
  have HB := BelowH.refl w11
  gi_wp2_with (first
    | ((with_reducible refine gate_dstIn (N := 7) rfl ?_); refine ev_allocIn HB rfl rfl (#[.int .i64 0]) 3 ?hr ?_; (case hr => first | (go_simp; done) | (go_simp; rfl)); intro g7 w12 G_g7 GE_g7 B_g7 HBn K_g7 KO_w12; clear HB; have HB := HBn; clear HBn)
    | (((with_reducible refine gate_In (Op.store 3 (.tmp 7) (.const (.int .i64 0))) rfl ?_); refine ev_store1In (i := 0) HB B_g7 GE_g7 rfl 3 _ _ rfl rfl (.int .i64 0) rfl (by simp) (by kernel_rfl) rfl ?_; intro w13 B13 HBn K_w13 KO_w13; clear HB; have HB := HBn; clear HBn); have c6 := (Q.out.b6.below HB.out).cell (i := 0) rfl))
  have LH1 := (Q.out.B1.below HB.out).lt
  have P0 := (Q.out.ht.step HB.out).pos
  have PG : Aside0 (0 < w11.heap.size ∧ h1 < w11.heap.size ∧ w11.heap.size ≤ g7 ∧ w11.heap.size ≤ w13.heap.size ∧ g7 < w13.heap.size) := ⟨⟨Q.out.ht.pos, Q.out.B1.lt, GE_g7.out, HB.le, B13.lt⟩⟩
  have HBW := HB
  clear HB B_g7 K_g7 K_w13 KO_w12 KO_w13 G_g7 c6
  refine wpIn_rangeFunc_O hro (by decide) (gf := 67) (lb := #[.pointer (some ⟨h3, 0, none⟩), .pointer (some ⟨h1, 0, none⟩)]) rfl f2 (enters_of Tryd.func67 (by kernel_rfl) rfl)
    (quotes_Texts_1.stops F HF (9 - 1) (by decide) h3 h1 s (by have := HN.out.2.2; omega) A cap w13 (Q.out.B3.below HBW.out) (Kd.C_below Q.out.hC HBW.out) Q.out.hcap (Q.out.B1.below HBW.out) (Q.out.ht.step HBW.out)) Keep2.trans (fun W l o o' hl ho hc hw => Keep2.putObj P0 LH1 W l o o' hl ho hc hw) (Below.refl _ _) (fun _ => rfl)
    (fun _ pre => QtI w11 g7 w13.heap.size ((pre.length : Nat) : Int)) (fun c _ W => c = .exit 0 ∧ QtI w11 g7 w13.heap.size kk W)
    (fun _ pre A B row hs hg hr => hs.kept HBW.le hg hr)
    (fun c pre A B row hs hg hr => ⟨hs.1, hs.2.kept HBW.le hg hr⟩)
    (fun X pre A k h hk => h)
    (fun X pre A C hX h ht => h.turned hX ht PG.out.2.2.2.2 HBW.le)
    ⟨B13, HBW, Nat.le_refl _⟩
    (fun x a' W => ∃ gb, w13.heap.size ≤ gb ∧ Blk W gb #[.int .i64 ((x.1 : Nat) : Int), .int .i64 ((x.2 : Nat) : Int)] 30 ∧ a' = { tmps := #[.string s, .int .i64 kk, undef, .pointer (some ⟨g3, 0, none⟩), .pointer (some ⟨g4, 0, none⟩), .pointer (some ⟨g5, 0, none⟩), .pointer (some ⟨g6, 0, none⟩), .pointer (some ⟨g7, 0, none⟩), .pointer (some ⟨gb, 0, none⟩), undef, .string s, .slice A2 N cap2, .string s, .func (.func 67) #[] #[.pointer (some ⟨h3, 0, none⟩), .pointer (some ⟨h1, 0, none⟩)], .func (.func 67) #[] #[.pointer (some ⟨h3, 0, none⟩), .pointer (some ⟨h1, 0, none⟩)], .bool false, .bool false, .bool true, .bool false, .bool false, .func (.func 67) #[] #[.pointer (some ⟨h3, 0, none⟩), .pointer (some ⟨h1, 0, none⟩)], .agg #[.int .i64 ((x.1 : Nat) : Int), .int .i64 ((x.2 : Nat) : Int)], undef, undef, undef, undef, undef, undef, undef, undef, undef, undef, undef, undef, undef, undef, undef, undef, undef, undef, undef, undef, undef, undef, undef, undef, undef, undef, undef, undef, undef, undef, undef, undef, undef, undef, undef, undef, undef, undef, undef, undef, undef, undef, undef, undef, undef, undef, undef, undef, undef, undef, undef, undef, undef, undef, undef, undef, undef, undef, undef, undef, undef, undef], defers := [] })
    (fun x a' pre A B row hs hg hr => by
      obtain ⟨gb, h1, h2, h3⟩ := hs
      exact ⟨gb, h1, h2.kept hg (fun r e => (hr r e).2), h3⟩)
    ?assign ?body ?done ?stop
  case assign =>
    intro X l pre x W K hX hI hsp hK
    have HB := hI.hb
    have SZ := Aside0.mk hI.sz
    have HXA := Aside0.mk hX
    clear hX hsp
    have hz : ∀ t : Array Value, (((#[21] : Array Tmp).zip (spanEnc x)).foldl (fun t (p, v) => t.setIfInBounds p v) t) = t.setIfInBounds 21 (.agg #[.int .i64 ((x.1 : Nat) : Int), .int .i64 ((x.2 : Nat) : Int)]) := fun t => by simp [spanEnc]
    rw [hz]
    simp only [List.setIfInBounds_toArray, List.set_cons_succ, List.set_cons_zero]
    clear hz
    gi_wp2_with (first
      | ((with_reducible refine gate_dstIn (N := 8) rfl ?_); refine ev_allocIn HB rfl rfl (#[.int .i64 0, .int .i64 0]) 30 ?hr ?_; (case hr => first | (go_simp; done) | (go_simp; rfl)); intro gb w14 G_gb GE_gb B_gb HBn K_gb KO_w14; clear HB; have HB := HBn; clear HBn)
      | ((with_reducible refine gate_In (Op.store 30 (.tmp 8) (.tmp 21)) rfl ?_); refine ev_storeIn HB B_gb GE_gb rfl 30 _ _ rfl rfl rfl (by kernel_rfl) rfl (by simp [Value.oneCell']) ?_; intro w15 B15 HBn K_w15 KO_w15; clear HB; have HB := HBn; clear HBn))
    have hKO := KO_w14.out.trans KO_w15.out
    have same : ∀ g, g < W.heap.size → w15.heap[g]? = W.heap[g]? := fun g h => (K_w15.out.2 g (by have := G_gb.out; omega)).trans (K_gb.out.block g h)
    have Z := SZ.out
    have q := PG.out
    refine hK _ _ (hKO.from _) (fun k hk => same k (HXA.out k hk).2) ⟨same 0 (by omega), same h1 (by omega), Nat.le_trans K_gb.out.size K_w15.out.1⟩ ?_ ⟨gb, Nat.le_trans SZ.out G_gb.out, B15, rfl⟩
    exact ⟨⟨(same g7 (by omega)).trans hI.b7.out⟩, HB, Nat.le_trans Z (Nat.le_trans K_gb.out.size K_w15.out.1)⟩
  case body =>
    rintro X l pre x a' W hX hl ⟨r, hr⟩ hI ⟨gb, hgb, BX, rfl⟩ hsp
    obtain ⟨hx, hlt⟩ := prefix_get hsp
    obtain (h0 | ⟨gw, cs, tw, rfl, BW, hrow⟩) := Q.out.row
    · rw [h0] at hlt
      exact absurd hlt (Nat.not_lt_zero _)
    have BWI := BW.below hI.hb.out
    obtain ⟨hc1, hc2⟩ := hrow _ _ hx
    rw [← HN.out.1] at hlt
    have HG1 := Aside0.mk hc1
    have HG2 := Aside0.mk hc2
    have HXA := Aside0.mk hX
    have HNB1 := HNB.out
    have hge : decide ((N : Int) ≤ ((pre.length : Nat) : Int)) = false ∧ decide (N ≤ pre.length) = false := ⟨decide_eq_false (by omega), decide_eq_false (by omega)⟩
    obtain ⟨hge1, hge2⟩ := hge
    have hq3 : (0 : Int) ≤ ((pre.length : Nat) : Int) := by omega
    have hq4 : ((pre.length : Nat) : Int) < ((N : Nat) : Int) := by omega
    have hq6 : IntKind.i64.wrap ((pre.length : Nat) : Int) = ((pre.length : Nat) : Int) := by rw [i64_w]; unfold wrap64; omega
    have hq7 : wrap64 (((pre.length : Nat) : Int) + 1) = ((pre.length : Nat) : Int) + 1 := by unfold wrap64; omega
    have EQ : ∀ w, (Op.equalIn 10000 30 (.agg #[.int .i64 ((x.1 : Nat) : Int), .int .i64 ((x.2 : Nat) : Int)]) (.agg #[.int .i64 ((x.1 : Nat) : Int), .int .i64 ((x.2 : Nat) : Int)])).run Tryd.prog w = .ok true w := fun w => by
      have := eqSpan ((x.1 : Nat) : Int) ((x.2 : Nat) : Int) ((x.1 : Nat) : Int) ((x.2 : Nat) : Int) w
      rw [beq_self_eq_true, beq_self_eq_true] at this
      exact this
    have hbd : Aside0 (Below W.heap.size W W.drew) := ⟨below_drew (Below.refl _ _)⟩
    have HI := Aside0.mk hI
    have I' := hI.below hbd.out
    have BX' := BX.below hbd.out
    have BW' := BWI.below hbd.out
    have LW := BW.lt
    have KO' := Aside0.mk (keepsOthers_below hbd.out)
    have HZ' := Aside0.mk hbd.out.size
    have b5' := Q.out.b5.below I'.hb.out
    have b3' := Q.out.b3.below I'.hb.out
    clear hr hl hX hsp hx hc1 hc2 hI BX HNB1 BW BWI hrow
    gi_upto_region 8 with (fail)
    refine wpIn_region_last_drew HF (S := fun W' => Blk W' g7 #[.int .i64 ((pre.length : Nat) : Int)] 3 ∧ Blk W' g5 #[.slice (some ⟨gw, 0, none⟩) N cap2] 31 ∧ Blk W' gb #[.int .i64 ((x.1 : Nat) : Int), .int .i64 ((x.2 : Nat) : Int)] 30 ∧ Blk W' gw cs tw) (ds := []) (by kernel_rfl) (by kernel_rfl) ⟨I'.b7, b5', BX', BW'⟩ (fun hS => ?_)
    refine wpAnyLast_take (i := 0) (oi := Oper.mk _ _ _ _ _ _) rfl (by kernel_rfl) (by kernel_rfl) (by kernel_rfl) (by kernel_rfl) (by kernel_rfl) (fun _ _ _ h => h) (rg_load1 (by rfl) (fun _ hS => hS.1.cell (i := 0) rfl) 3 _ rfl rfl (fun _ => by simp [isAgg, run_underlying Tryd.underlying3])) hS ?_
    try simp only [Act.put, List.setIfInBounds_toArray, List.set_cons_zero, List.set_cons_succ]
    refine wpAnyLast_take (i := 1) (oi := Oper.mk _ _ _ _ _ _) rfl (by kernel_rfl) (by kernel_rfl) (by kernel_rfl) (by kernel_rfl) (by kernel_rfl) (fun _ _ _ h => h) (rg_load1 (by rfl) (fun _ hS => hS.2.1.cell (i := 0) rfl) 31 _ rfl rfl (fun _ => by simp [isAgg, run_underlying Tryd.underlying31])) hS ?_
    try simp only [Act.put, List.setIfInBounds_toArray, List.set_cons_zero, List.set_cons_succ]
    refine' wpAnyLast_take (i := 2) (oi := Oper.mk _ _ _ _ _ _) rfl (by kernel_rfl) (by kernel_rfl) (by kernel_rfl) (by kernel_rfl) (by kernel_rfl) (fun _ _ _ h => h) (Or.inl ⟨by rfl, ?hy1⟩) hS ?rest1
    case hy1 => (intro w hSw; (try dsimp only at hSw); first | (go_simp; done) | (go_simp; with_reducible rfl))
    try simp only [Act.put, List.setIfInBounds_toArray, List.set_cons_zero, List.set_cons_succ]
    refine' wpAnyLast_take (i := 3) (oi := Oper.mk _ _ _ _ _ _) rfl (by kernel_rfl) (by kernel_rfl) (by kernel_rfl) (by kernel_rfl) (by kernel_rfl) (fun _ _ _ h => h) (Or.inl ⟨by rfl, ?hy2⟩) hS ?rest2
    case hy2 => (intro w hSw; (try dsimp only at hSw); first | (go_simp; done) | (go_simp; with_reducible rfl))
    try simp only [Act.put, List.setIfInBounds_toArray, List.set_cons_zero, List.set_cons_succ]
    refine' wpAnyLast_take (i := 4) (oi := Oper.mk _ _ _ _ _ _) rfl (by kernel_rfl) (by kernel_rfl) (by kernel_rfl) (by kernel_rfl) (by kernel_rfl) (fun _ _ _ h => h) (Or.inl ⟨by rfl, ?hy3⟩) hS ?rest3
    case hy3 => (intro w hSw; (try dsimp only at hSw); first | (go_simp; done) | (go_simp; with_reducible rfl))
    try simp only [Act.put, List.setIfInBounds_toArray, List.set_cons_zero, List.set_cons_succ]
    refine wpAnyLast_take (i := 5) (oi := Oper.mk _ _ _ _ _ _) rfl (by kernel_rfl) (by kernel_rfl) (by kernel_rfl) (by kernel_rfl) (by kernel_rfl) (fun _ _ _ h => h) (rg_load (by rfl) (fun _ hS => hS.2.2.1) 30 _ rfl rfl Tryd.underlying30 rfl (by kernel_rfl)) hS ?_
    try simp only [Act.put, List.setIfInBounds_toArray, List.set_cons_zero, List.set_cons_succ]
    refine wpAnyLast_take (i := 6) (oi := Oper.mk _ _ _ _ _ _) rfl (by kernel_rfl) (by kernel_rfl) (by kernel_rfl) (by kernel_rfl) (by kernel_rfl) (fun _ _ _ h => h) (rg_load1 (by rfl) (fun _ hS => hS.2.1.cell (i := 0) rfl) 31 _ rfl rfl (fun _ => by simp [isAgg, run_underlying Tryd.underlying31])) hS ?_
    try simp only [Act.put, List.setIfInBounds_toArray, List.set_cons_zero, List.set_cons_succ]
    refine wpAnyLast_take (i := 7) (oi := Oper.mk _ _ _ _ _ _) rfl (by kernel_rfl) (by kernel_rfl) (by kernel_rfl) (by kernel_rfl) (by kernel_rfl) (fun _ _ _ h => h) (rg_load1 (by rfl) (fun _ hS => hS.1.cell (i := 0) rfl) 3 _ rfl rfl (fun _ => by simp [isAgg, run_underlying Tryd.underlying3])) hS ?_
    try simp only [Act.put, List.setIfInBounds_toArray, List.set_cons_zero, List.set_cons_succ]
    refine' wpAnyLast_take (i := 8) (oi := Oper.mk _ _ _ _ _ _) rfl (by kernel_rfl) (by kernel_rfl) (by kernel_rfl) (by kernel_rfl) (by kernel_rfl) (fun _ _ _ h => h) (Or.inl ⟨by rfl, ?hy4⟩) hS ?rest4
    case hy4 => (intro w hSw; (try dsimp only at hSw); first | (go_simp; done) | (go_simp; with_reducible rfl))
    try simp only [Act.put, List.setIfInBounds_toArray, List.set_cons_zero, List.set_cons_succ]
    refine wpAnyLast_take (i := 9) (oi := Oper.mk _ _ _ _ _ _) rfl (by kernel_rfl) (by kernel_rfl) (by kernel_rfl) (by kernel_rfl) (by kernel_rfl) (fun _ _ _ h => h) (Or.inl ⟨by rfl, fun w hSw => by obtain ⟨_, _, _, hbw⟩ := hSw; have c1 := hbw.cell HG1.out; have c2 := hbw.cell HG2.out; first | (go_simp; done) | (go_simp; rfl)⟩) hS ?_
    try simp only [Act.put, List.setIfInBounds_toArray, List.set_cons_zero, List.set_cons_succ]
    refine' wpAnyLast_take (i := 10) (oi := Oper.mk _ _ _ _ _ _) rfl (by kernel_rfl) (by kernel_rfl) (by kernel_rfl) (by kernel_rfl) (by kernel_rfl) (fun _ _ _ h => h) (Or.inl ⟨by rfl, ?hy5⟩) hS ?rest5
    case hy5 => (intro w hSw; (try dsimp only at hSw); first | (go_simp; done) | (go_simp; with_reducible rfl))
    try simp only [Act.put, List.setIfInBounds_toArray, List.set_cons_zero, List.set_cons_succ]
    refine' wpAnyLast_take (i := 11) (oi := Oper.mk _ _ _ _ _ _) rfl (by kernel_rfl) (by kernel_rfl) (by kernel_rfl) (by kernel_rfl) (by kernel_rfl) (fun _ _ _ h => h) (Or.inl ⟨by rfl, ?hy6⟩) hS ?rest6
    case hy6 => (intro w hSw; (try dsimp only at hSw); first | (go_simp; done) | (go_simp; with_reducible rfl))
    try simp only [Act.put, List.setIfInBounds_toArray, List.set_cons_zero, List.set_cons_succ]
    refine wpAnyLast_done (by kernel_rfl) ?_ _
    refine Straight.normal ?_
    have HB := I'.hb
    have b7 := I'.b7
    have c7 := b7.cell (i := 0) rfl
    have c3 := b3'.cell (i := 0) rfl
    by_cases hk : ((pre.length : Nat) : Int) = kk
    · have t0 : (((pre.length : Nat) : Int) == kk) = true := beq_iff_eq.mpr hk
      have HKK := Aside0.mk hk
      clear hk
      gi_wp2
      refine ⟨KO'.out.from _, fun k hk => hbd.out.block k (HXA.out k hk).2, rfl, ?_⟩
      rw [← HKK.out]
      exact I'
    · have t0 : (((pre.length : Nat) : Int) == kk) = false := beq_eq_false_iff_ne.mpr hk
      clear hk
      gi_wp2_with (first
        | ((with_reducible refine gate_In (Op.store 3 (.tmp 7) (.tmp 38)) rfl ?_); refine ev_store1In (i := 0) HB b7 GE_g7 rfl 3 _ _ rfl rfl _ rfl (by simp) (by kernel_rfl) rfl ?_; intro w16 B16 HB16 K_w16 KO_w16))
      have q := PG.out
      have Z := HI.out.sz
      refine ⟨(KO'.out.trans KO_w16.out).from _, fun k hk => (K_w16.out.2 k (fun c => by have := HXA.out k hk; omega)).trans (hbd.out.block k (HXA.out k hk).2), ⟨(K_w16.out.2 0 (by omega)).trans (hbd.out.block 0 (by omega)), (K_w16.out.2 h1 (by omega)).trans (hbd.out.block h1 (by omega)), Nat.le_trans HZ'.out K_w16.out.1⟩, ?_, HB16, Nat.le_trans I'.sz K_w16.out.1⟩
      rw [List.length_append, List.length_singleton]
      rw [hq7] at B16
      exact B16
  case done =>
    rintro D X ys W hD hX rfl hI hK
    rw [← HN.out.1] at hI
    clear hX
    by_cases hk : (N : Int) = kk
    · subst hk
      have t0 : ((N : Int) == (N : Int)) = true := beq_self_eq_true _
      have HD := Aside0.mk hD
      have HKD := Aside0.mk hK
      have c7 := hI.b7.cell (i := 0) rfl
      have c3 := (Q.out.b3.below hI.hb.out).cell (i := 0) rfl
      have c5 := (Q.out.b5.below hI.hb.out).cell (i := 0) rfl
      have c6 := (Q.out.b6.below hI.hb.out).cell (i := 0) rfl
      clear hD hK
      gi_wp2_with (first
        | (gi_at_call 33; refine (callsIn_of HF (TD.out _ hI.hb)).mono ?_; rintro e w20 ⟨rfl, hb20⟩; have J := hI.below hb20; have HB := J.hb; have b7 := J.b7; have HK20 := Aside0.mk hb20; clear hb20 c7 c3 c5 c6)
        | ((with_reducible refine gate_In (Op.store 3 (.tmp 7) (.const (.int .i64 0))) rfl ?_); refine ev_store1In (i := 0) HB b7 GE_g7 rfl 3 _ _ rfl rfl (.int .i64 0) rfl (by simp) (by kernel_rfl) rfl ?_; intro w21 B21 HB21 K_w21 KO_w21; have c6 := (Q.out.b6.below HB21.out).cell (i := 0) rfl))
      have LD : D < W.heap.size := (Array.getElem?_eq_some_iff.1 HKD.out).1
      have HKD2 : Aside0 (w21.heap[D]? = some (.deferred (some []))) := ⟨KO_w21.out.same D _ ((HK20.out.block D LD).trans HKD.out) rfl⟩
      have LH2 := (Q.out.B1.below HB21.out).lt
      have P2 := (Q.out.ht.step HB21.out).pos
      have PG2 : Aside0 (w11.heap.size ≤ w21.heap.size ∧ g7 < w21.heap.size ∧ D < w21.heap.size ∧ w11.heap.size ≤ D) := ⟨⟨HB21.le, B21.lt, (Array.getElem?_eq_some_iff.1 HKD2.out).1, Nat.le_trans HBW.le HD.out⟩⟩
      clear HB K_w21 KO_w21 c6 hI J b7 LD
      refine wpIn_rangeFunc_O hro (by decide) (gf := 67) (lb := #[.pointer (some ⟨h3, 0, none⟩), .pointer (some ⟨h1, 0, none⟩)]) rfl f2 (enters_of Tryd.func67 (by kernel_rfl) rfl)
        (quotes_Texts_1.stops F HF (9 - 1) (by decide) h3 h1 s (by have := HN.out.2.2; omega) A cap w21 (Q.out.B3.below HB21.out) (Kd.C_below Q.out.hC HB21.out) Q.out.hcap (Q.out.B1.below HB21.out) (Q.out.ht.step HB21.out)) Keep2.trans (fun W l o o' hl ho hc hw => Keep2.putObj P2 LH2 W l o o' hl ho hc hw) (Below.refl _ _) (fun _ => rfl)
        (fun _ pre W' => QtI w11 g7 w21.heap.size ((pre.length : Nat) : Int) W' ∧ W'.heap[D]? = some (.deferred (some []))) (fun _ _ _ => False)
        (fun _ pre A B row hs hg hr => ⟨hs.1.kept HB21.le hg hr, (hg.block D (Array.getElem?_eq_some_iff.1 hs.2).1 (fun e => by have h := (hr D e.symm).1; have q := PG2.out; omega)).trans hs.2⟩)
        (fun _ _ _ _ _ hs _ _ => hs)
        (fun X pre A k h hk => h)
        (fun X pre A C hX h ht => ⟨h.1.turned hX ht PG2.out.2.1 HB21.le, (ht.block D (Array.getElem?_eq_some_iff.1 h.2).1 (not_mem_above hX PG2.out.2.2.1)).trans h.2⟩)
        ⟨⟨B21, HB21, Nat.le_refl _⟩, HKD2.out⟩
        (fun x a' W => ∃ gb, w21.heap.size ≤ gb ∧ Blk W gb #[.int .i64 ((x.1 : Nat) : Int), .int .i64 ((x.2 : Nat) : Int)] 30 ∧ a' = { tmps := #[.string s, .int .i64 (N : Int), undef, .pointer (some ⟨g3, 0, none⟩), .pointer (some ⟨g4, 0, none⟩), .pointer (some ⟨g5, 0, none⟩), .pointer (some ⟨g6, 0, none⟩), .pointer (some ⟨g7, 0, none⟩), undef, .pointer (some ⟨gb, 0, none⟩), .string s, .slice A2 N cap2, .string s, .func (.func 67) #[] #[.pointer (some ⟨h3, 0, none⟩), .pointer (some ⟨h1, 0, none⟩)], .func (.func 67) #[] #[.pointer (some ⟨h3, 0, none⟩), .pointer (some ⟨h1, 0, none⟩)], .bool false, .bool false, .bool true, .bool false, .bool false, .func (.func 67) #[] #[.pointer (some ⟨h3, 0, none⟩), .pointer (some ⟨h1, 0, none⟩)], undef, undef, undef, undef, undef, undef, undef, undef, undef, undef, undef, undef, undef, undef, undef, undef, undef, undef, .int .i64 ((N : Int)), .int .i64 (N : Int), .bool false, .bool false, undef, undef, undef, undef, .bool false, .bool false, .func (.func 67) #[] #[.pointer (some ⟨h3, 0, none⟩), .pointer (some ⟨h1, 0, none⟩)], .slice A2 N cap2, .bool true, .bool false, .bool false, .func (.func 67) #[] #[.pointer (some ⟨h3, 0, none⟩), .pointer (some ⟨h1, 0, none⟩)], .agg #[.int .i64 ((x.1 : Nat) : Int), .int .i64 ((x.2 : Nat) : Int)], undef, undef, undef, undef, undef, undef, undef, undef, undef, undef, undef, undef, undef, undef, undef, undef, undef, undef, undef, undef, undef, undef, undef, undef, undef, undef, undef, undef], defers := [] })
        (fun x a' pre A B row hs hg hr => by
          obtain ⟨gb, h1, h2, h3⟩ := hs
          exact ⟨gb, h1, h2.kept hg (fun r e => (hr r e).2), h3⟩)
        ?asg1 ?bod1 ?don1 ?sto1
      case asg1 =>
        rintro X l pre x W K hX ⟨hI, hDD⟩ hsp hK
        have HB := hI.hb
        have LDD := (Array.getElem?_eq_some_iff.1 hDD).1
        have SZ := Aside0.mk hI.sz
        have HXA := Aside0.mk hX
        clear hX hsp
        have hz : ∀ t : Array Value, (((#[55] : Array Tmp).zip (spanEnc x)).foldl (fun t (p, v) => t.setIfInBounds p v) t) = t.setIfInBounds 55 (.agg #[.int .i64 ((x.1 : Nat) : Int), .int .i64 ((x.2 : Nat) : Int)]) := fun t => by simp [spanEnc]
        rw [hz]
        simp only [List.setIfInBounds_toArray, List.set_cons_succ, List.set_cons_zero]
        clear hz
        gi_wp2_with (first
          | ((with_reducible refine gate_dstIn (N := 9) rfl ?_); refine ev_allocIn HB rfl rfl (#[.int .i64 0, .int .i64 0]) 30 ?hr ?_; (case hr => first | (go_simp; done) | (go_simp; rfl)); intro gb w14 G_gb GE_gb B_gb HBn K_gb KO_w14; clear HB; have HB := HBn; clear HBn)
          | ((with_reducible refine gate_In (Op.store 30 (.tmp 9) (.tmp 55)) rfl ?_); refine ev_storeIn HB B_gb GE_gb rfl 30 _ _ rfl rfl rfl (by kernel_rfl) rfl (by simp [Value.oneCell']) ?_; intro w15 B15 HBn K_w15 KO_w15; clear HB; have HB := HBn; clear HBn))
        have hKO := KO_w14.out.trans KO_w15.out
        have same : ∀ g, g < W.heap.size → w15.heap[g]? = W.heap[g]? := fun g h => (K_w15.out.2 g (by have := G_gb.out; omega)).trans (K_gb.out.block g h)
        have Z := SZ.out
        have q := PG.out
        have q2 := PG2.out
        refine hK _ _ (hKO.from _) (fun k hk => same k (HXA.out k hk).2) ⟨same 0 (by omega), same h1 (by omega), Nat.le_trans K_gb.out.size K_w15.out.1⟩ ?_ ⟨gb, Nat.le_trans SZ.out G_gb.out, B15, rfl⟩
        exact ⟨⟨⟨(same g7 (by omega)).trans hI.b7.out⟩, HB, Nat.le_trans Z (Nat.le_trans K_gb.out.size K_w15.out.1)⟩, (same D LDD).trans hDD⟩
      case bod1 =>
        rintro X l pre x a' W hX hl ⟨r, hr⟩ ⟨hI, hDD⟩ ⟨gb, hgb, BX, rfl⟩ hsp
        obtain ⟨hx, hlt⟩ := prefix_get hsp
        obtain (h0 | ⟨gw, cs, tw, rfl, BW, hrow⟩) := Q.out.row
        · rw [h0] at hlt
          exact absurd hlt (Nat.not_lt_zero _)
        have BWI := BW.below hI.hb.out
        obtain ⟨hc1, hc2⟩ := hrow _ _ hx
        rw [← HN.out.1] at hlt
        have HG1 := Aside0.mk hc1
        have HG2 := Aside0.mk hc2
        have HXA := Aside0.mk hX
        have HNB1 := HNB.out
        have hge : decide ((N : Int) ≤ ((pre.length : Nat) : Int)) = false ∧ decide (N ≤ pre.length) = false := ⟨decide_eq_false (by omega), decide_eq_false (by omega)⟩
        obtain ⟨hge1, hge2⟩ := hge
        have hq3 : (0 : Int) ≤ ((pre.length : Nat) : Int) := by omega
        have hq4 : ((pre.length : Nat) : Int) < ((N : Nat) : Int) := by omega
        have hq6 : IntKind.i64.wrap ((pre.length : Nat) : Int) = ((pre.length : Nat) : Int) := by rw [i64_w]; unfold wrap64; omega
        have hq7 : wrap64 (((pre.length : Nat) : Int) + 1) = ((pre.length : Nat) : Int) + 1 := by unfold wrap64; omega
        have EQ : ∀ w, (Op.equalIn 10000 30 (.agg #[.int .i64 ((x.1 : Nat) : Int), .int .i64 ((x.2 : Nat) : Int)]) (.agg #[.int .i64 ((x.1 : Nat) : Int), .int .i64 ((x.2 : Nat) : Int)])).run Tryd.prog w = .ok true w := fun w => by
          have := eqSpan ((x.1 : Nat) : Int) ((x.2 : Nat) : Int) ((x.1 : Nat) : Int) ((x.2 : Nat) : Int) w
          rw [beq_self_eq_true, beq_self_eq_true] at this
          exact this
        have hbd : Aside0 (Below W.heap.size W W.drew) := ⟨below_drew (Below.refl _ _)⟩
        have HI := Aside0.mk hI
        have HDD := Aside0.mk hDD
        clear hDD
        have I' := hI.below hbd.out
        have BX' := BX.below hbd.out
        have BW' := BWI.below hbd.out
        have LW := BW.lt
        have KO' := Aside0.mk (keepsOthers_below hbd.out)
        have HZ' := Aside0.mk hbd.out.size
        have b5' := Q.out.b5.below I'.hb.out
        have b6' := Q.out.b6.below I'.hb.out
        clear hr hl hX hsp hx hc1 hc2 hI BX HNB1 BW BWI hrow
        by_cases h3 : pre.length < 3
        · have g1 : decide (((pre.length : Nat) : Int) < 3) = true ∧ decide (pre.length < 3) = true := ⟨decide_eq_true (by omega), decide_eq_true h3⟩
          obtain ⟨g11, g12⟩ := g1
          clear h3
          gi_upto_region 17 with (fail)
          refine wpIn_region_last_drew HF (S := fun W' => Blk W' g7 #[.int .i64 ((pre.length : Nat) : Int)] 3 ∧ Blk W' g5 #[.slice (some ⟨gw, 0, none⟩) N cap2] 31 ∧ Blk W' gb #[.int .i64 ((x.1 : Nat) : Int), .int .i64 ((x.2 : Nat) : Int)] 30 ∧ Blk W' gw cs tw ∧ Blk W' g6 #[.func (.func 67) #[] #[.pointer (some ⟨h3, 0, none⟩), .pointer (some ⟨h1, 0, none⟩)]] 27) (ds := []) (by kernel_rfl) (by kernel_rfl) ⟨I'.b7, b5', BX', BW', b6'⟩ (fun hS => ?_)
          refine wpAnyLast_take (i := 0) (oi := Oper.mk _ _ _ _ _ _) rfl (by kernel_rfl) (by kernel_rfl) (by kernel_rfl) (by kernel_rfl) (by kernel_rfl) (fun _ _ _ h => h) (rg_load1 (by rfl) (fun _ hS => hS.1.cell (i := 0) rfl) 3 _ rfl rfl (fun _ => by simp [isAgg, run_underlying Tryd.underlying3])) hS ?_
          try simp only [Act.put, List.setIfInBounds_toArray, List.set_cons_zero, List.set_cons_succ]
          refine' wpAnyLast_take (i := 1) (oi := Oper.mk _ _ _ _ _ _) rfl (by kernel_rfl) (by kernel_rfl) (by kernel_rfl) (by kernel_rfl) (by kernel_rfl) (fun _ _ _ h => h) (Or.inl ⟨by rfl, ?hy7⟩) hS ?rest7
          case hy7 => (intro w hSw; (try dsimp only at hSw); first | (go_simp; done) | (go_simp; with_reducible rfl))
          try simp only [Act.put, List.setIfInBounds_toArray, List.set_cons_zero, List.set_cons_succ]
          refine' wpAnyLast_take (i := 2) (oi := Oper.mk _ _ _ _ _ _) rfl (by kernel_rfl) (by kernel_rfl) (by kernel_rfl) (by kernel_rfl) (by kernel_rfl) (fun _ _ _ h => h) (Or.inl ⟨by rfl, ?hy8⟩) hS ?rest8
          case hy8 => (intro w hSw; (try dsimp only at hSw); first | (go_simp; done) | (go_simp; with_reducible rfl))
          try simp only [Act.put, List.setIfInBounds_toArray, List.set_cons_zero, List.set_cons_succ]
          refine wpAnyLast_take (i := 3) (oi := Oper.mk _ _ _ _ _ _) rfl (by kernel_rfl) (by kernel_rfl) (by kernel_rfl) (by kernel_rfl) (by kernel_rfl) (fun _ _ _ h => h) (rg_load1 (by rfl) (fun _ hS => hS.2.2.2.2.cell (i := 0) rfl) 27 _ rfl rfl (fun _ => by simp [isAgg, run_underlying Tryd.underlying27])) hS ?_
          try simp only [Act.put, List.setIfInBounds_toArray, List.set_cons_zero, List.set_cons_succ]
          refine wpAnyLast_take (i := 4) (oi := Oper.mk _ _ _ _ _ _) rfl (by kernel_rfl) (by kernel_rfl) (by kernel_rfl) (by kernel_rfl) (by kernel_rfl) (fun _ _ _ h => h) (rg_load1 (by rfl) (fun _ hS => hS.2.1.cell (i := 0) rfl) 31 _ rfl rfl (fun _ => by simp [isAgg, run_underlying Tryd.underlying31])) hS ?_
          try simp only [Act.put, List.setIfInBounds_toArray, List.set_cons_zero, List.set_cons_succ]
          refine wpAnyLast_ready (rs := [5]) (by kernel_rfl) (by simp) ?_
          refine AllReadyL.cons (o := Oper.mk _ _ _ _ _ _) rfl (by decide) (fun K hK => ?_) ?_
          · refine rg_call (by rfl) _ _ (.bool true) (by first | (go_simp; done) | (go_simp; rfl)) (TD.out _ I'.hb) ?_
            intro W' hb
            have I2 := I'.below hb.out
            have BX2 := BX'.below hb.out
            have BW2 := BW'.below hb.out
            have b52 := b5'.below hb.out
            have b62 := b6'.below hb.out
            have KO2 := Aside0.mk (KO'.out.trans (keepsOthers_below hb.out))
            have HBD2 := Aside0.mk (hbd.out.trans (hb.out.mono hbd.out.size))
            refine hK.out _ _ ⟨I2.b7, b52, BX2, BW2, b62⟩ (fun hS => ?_)
            clear hK K hb
            try simp only [Act.put, List.setIfInBounds_toArray, List.set_cons_zero, List.set_cons_succ]
            refine' wpAnyLast_take (i := 6) (oi := Oper.mk _ _ _ _ _ _) rfl (by kernel_rfl) (by kernel_rfl) (by kernel_rfl) (by kernel_rfl) (by kernel_rfl) (fun _ _ _ h => h) (Or.inl ⟨by rfl, ?hy9⟩) hS ?rest9
            case hy9 => (intro w hSw; (try dsimp only at hSw); first | (go_simp; done) | (go_simp; with_reducible rfl))
            try simp only [Act.put, List.setIfInBounds_toArray, List.set_cons_zero, List.set_cons_succ]
            refine' wpAnyLast_take (i := 7) (oi := Oper.mk _ _ _ _ _ _) rfl (by kernel_rfl) (by kernel_rfl) (by kernel_rfl) (by kernel_rfl) (by kernel_rfl) (fun _ _ _ h => h) (Or.inl ⟨by rfl, ?hy10⟩) hS ?rest10
            case hy10 => (intro w hSw; (try dsimp only at hSw); first | (go_simp; done) | (go_simp; with_reducible rfl))
            try simp only [Act.put, List.setIfInBounds_toArray, List.set_cons_zero, List.set_cons_succ]
            refine' wpAnyLast_take (i := 8) (oi := Oper.mk _ _ _ _ _ _) rfl (by kernel_rfl) (by kernel_rfl) (by kernel_rfl) (by kernel_rfl) (by kernel_rfl) (fun _ _ _ h => h) (Or.inl ⟨by rfl, ?hy11⟩) hS ?rest11
            case hy11 => (intro w hSw; (try dsimp only at hSw); first | (go_simp; done) | (go_simp; with_reducible rfl))
            try simp only [Act.put, List.setIfInBounds_toArray, List.set_cons_zero, List.set_cons_succ]
            refine wpAnyLast_take (i := 9) (oi := Oper.mk _ _ _ _ _ _) rfl (by kernel_rfl) (by kernel_rfl) (by kernel_rfl) (by kernel_rfl) (by kernel_rfl) (fun _ _ _ h => h) (rg_load1 (by rfl) (fun _ hS => hS.1.cell (i := 0) rfl) 3 _ rfl rfl (fun _ => by simp [isAgg, run_underlying Tryd.underlying3])) hS ?_
            try simp only [Act.put, List.setIfInBounds_toArray, List.set_cons_zero, List.set_cons_succ]
            refine wpAnyLast_take (i := 10) (oi := Oper.mk _ _ _ _ _ _) rfl (by kernel_rfl) (by kernel_rfl) (by kernel_rfl) (by kernel_rfl) (by kernel_rfl) (fun _ _ _ h => h) (rg_load1 (by rfl) (fun _ hS => hS.2.1.cell (i := 0) rfl) 31 _ rfl rfl (fun _ => by simp [isAgg, run_underlying Tryd.underlying31])) hS ?_
            try simp only [Act.put, List.setIfInBounds_toArray, List.set_cons_zero, List.set_cons_succ]
            refine' wpAnyLast_take (i := 11) (oi := Oper.mk _ _ _ _ _ _) rfl (by kernel_rfl) (by kernel_rfl) (by kernel_rfl) (by kernel_rfl) (by kernel_rfl) (fun _ _ _ h => h) (Or.inl ⟨by rfl, ?hy12⟩) hS ?rest12
            case hy12 => (intro w hSw; (try dsimp only at hSw); first | (go_simp; done) | (go_simp; with_reducible rfl))
            try simp only [Act.put, List.setIfInBounds_toArray, List.set_cons_zero, List.set_cons_succ]
            refine' wpAnyLast_take (i := 12) (oi := Oper.mk _ _ _ _ _ _) rfl (by kernel_rfl) (by kernel_rfl) (by kernel_rfl) (by kernel_rfl) (by kernel_rfl) (fun _ _ _ h => h) (Or.inl ⟨by rfl, ?hy13⟩) hS ?rest13
            case hy13 => (intro w hSw; (try dsimp only at hSw); first | (go_simp; done) | (go_simp; with_reducible rfl))
            try simp only [Act.put, List.setIfInBounds_toArray, List.set_cons_zero, List.set_cons_succ]
            refine' wpAnyLast_take (i := 13) (oi := Oper.mk _ _ _ _ _ _) rfl (by kernel_rfl) (by kernel_rfl) (by kernel_rfl) (by kernel_rfl) (by kernel_rfl) (fun _ _ _ h => h) (Or.inl ⟨by rfl, ?hy14⟩) hS ?rest14
            case hy14 => (intro w hSw; (try dsimp only at hSw); first | (go_simp; done) | (go_simp; with_reducible rfl))
            try simp only [Act.put, List.setIfInBounds_toArray, List.set_cons_zero, List.set_cons_succ]
            refine' wpAnyLast_take (i := 14) (oi := Oper.mk _ _ _ _ _ _) rfl (by kernel_rfl) (by kernel_rfl) (by kernel_rfl) (by kernel_rfl) (by kernel_rfl) (fun _ _ _ h => h) (Or.inl ⟨by rfl, ?hy15⟩) hS ?rest15
            case hy15 => (intro w hSw; (try dsimp only at hSw); first | (go_simp; done) | (go_simp; with_reducible rfl))
            try simp only [Act.put, List.setIfInBounds_toArray, List.set_cons_zero, List.set_cons_succ]
            refine wpAnyLast_take (i := 15) (oi := Oper.mk _ _ _ _ _ _) rfl (by kernel_rfl) (by kernel_rfl) (by kernel_rfl) (by kernel_rfl) (by kernel_rfl) (fun _ _ _ h => h) (rg_load (by rfl) (fun _ hS => hS.2.2.1) 30 _ rfl rfl Tryd.underlying30 rfl (by kernel_rfl)) hS ?_
            try simp only [Act.put, List.setIfInBounds_toArray, List.set_cons_zero, List.set_cons_succ]
            refine wpAnyLast_take (i := 16) (oi := Oper.mk _ _ _ _ _ _) rfl (by kernel_rfl) (by kernel_rfl) (by kernel_rfl) (by kernel_rfl) (by kernel_rfl) (fun _ _ _ h => h) (rg_load1 (by rfl) (fun _ hS => hS.2.1.cell (i := 0) rfl) 31 _ rfl rfl (fun _ => by simp [isAgg, run_underlying Tryd.underlying31])) hS ?_
            try simp only [Act.put, List.setIfInBounds_toArray, List.set_cons_zero, List.set_cons_succ]
            refine wpAnyLast_take (i := 17) (oi := Oper.mk _ _ _ _ _ _) rfl (by kernel_rfl) (by kernel_rfl) (by kernel_rfl) (by kernel_rfl) (by kernel_rfl) (fun _ _ _ h => h) (rg_load1 (by rfl) (fun _ hS => hS.1.cell (i := 0) rfl) 3 _ rfl rfl (fun _ => by simp [isAgg, run_underlying Tryd.underlying3])) hS ?_
            try simp only [Act.put, List.setIfInBounds_toArray, List.set_cons_zero, List.set_cons_succ]
            refine' wpAnyLast_take (i := 18) (oi := Oper.mk _ _ _ _ _ _) rfl (by kernel_rfl) (by kernel_rfl) (by kernel_rfl) (by kernel_rfl) (by kernel_rfl) (fun _ _ _ h => h) (Or.inl ⟨by rfl, ?hy16⟩) hS ?rest16
            case hy16 => (intro w hSw; (try dsimp only at hSw); first | (go_simp; done) | (go_simp; with_reducible rfl))
            try simp only [Act.put, List.setIfInBounds_toArray, List.set_cons_zero, List.set_cons_succ]
            refine wpAnyLast_take (i := 19) (oi := Oper.mk _ _ _ _ _ _) rfl (by kernel_rfl) (by kernel_rfl) (by kernel_rfl) (by kernel_rfl) (by kernel_rfl) (fun _ _ _ h => h) (Or.inl ⟨by rfl, fun w hSw => by obtain ⟨_, _, _, hbw, _⟩ := hSw; have c1 := hbw.cell HG1.out; have c2 := hbw.cell HG2.out; first | (go_simp; done) | (go_simp; rfl)⟩) hS ?_
            try simp only [Act.put, List.setIfInBounds_toArray, List.set_cons_zero, List.set_cons_succ]
            refine' wpAnyLast_take (i := 20) (oi := Oper.mk _ _ _ _ _ _) rfl (by kernel_rfl) (by kernel_rfl) (by kernel_rfl) (by kernel_rfl) (by kernel_rfl) (fun _ _ _ h => h) (Or.inl ⟨by rfl, ?hy17⟩) hS ?rest17
            case hy17 => (intro w hSw; (try dsimp only at hSw); first | (go_simp; done) | (go_simp; with_reducible rfl))
            try simp only [Act.put, List.setIfInBounds_toArray, List.set_cons_zero, List.set_cons_succ]
            refine' wpAnyLast_take (i := 21) (oi := Oper.mk _ _ _ _ _ _) rfl (by kernel_rfl) (by kernel_rfl) (by kernel_rfl) (by kernel_rfl) (by kernel_rfl) (fun _ _ _ h => h) (Or.inl ⟨by rfl, ?hy18⟩) hS ?rest18
            case hy18 => (intro w hSw; (try dsimp only at hSw); first | (go_simp; done) | (go_simp; with_reducible rfl))
            try simp only [Act.put, List.setIfInBounds_toArray, List.set_cons_zero, List.set_cons_succ]
            refine wpAnyLast_done (by kernel_rfl) ?_ _
            refine Straight.normal ?_
            have HB := I2.hb
            have b7 := I2.b7
            have c7 := b7.cell (i := 0) rfl
            gi_wp2_with (first
              | ((with_reducible refine gate_In (Op.store 3 (.tmp 7) (.tmp 79)) rfl ?_); refine ev_store1In (i := 0) HB b7 GE_g7 rfl 3 _ _ rfl rfl _ rfl (by simp) (by kernel_rfl) rfl ?_; intro w26 B26 HB26 K_w26 KO_w26))
            have q := PG.out
            have q2 := PG2.out
            have Z := HI.out.sz
            refine ⟨(KO2.out.trans KO_w26.out).from _, fun k hk => (K_w26.out.2 k (fun c => by have := HXA.out k hk; omega)).trans (HBD2.out.block k (HXA.out k hk).2), ⟨(K_w26.out.2 0 (by omega)).trans (HBD2.out.block 0 (by omega)), (K_w26.out.2 h1 (by omega)).trans (HBD2.out.block h1 (by omega)), Nat.le_trans HBD2.out.size K_w26.out.1⟩, ⟨?_, HB26, Nat.le_trans I2.sz K_w26.out.1⟩, (K_w26.out.2 D (fun c => by have := HD.out; omega)).trans ((HBD2.out.block D (Array.getElem?_eq_some_iff.1 HDD.out).1).trans HDD.out)⟩
            rw [List.length_append, List.length_singleton]
            rw [hq7] at B26
            exact B26
          exact AllReadyL.nil
        · have g1 : decide (((pre.length : Nat) : Int) < 3) = false ∧ decide (pre.length < 3) = false := ⟨decide_eq_false (by omega), decide_eq_false h3⟩
          obtain ⟨g11, g12⟩ := g1
          clear h3
          gi_upto_region 17 with (fail)
          refine wpIn_region_last_drew HF (S := fun W' => Blk W' g7 #[.int .i64 ((pre.length : Nat) : Int)] 3 ∧ Blk W' g5 #[.slice (some ⟨gw, 0, none⟩) N cap2] 31 ∧ Blk W' gb #[.int .i64 ((x.1 : Nat) : Int), .int .i64 ((x.2 : Nat) : Int)] 30 ∧ Blk W' gw cs tw ∧ Blk W' g6 #[.func (.func 67) #[] #[.pointer (some ⟨h3, 0, none⟩), .pointer (some ⟨h1, 0, none⟩)]] 27) (ds := []) (by kernel_rfl) (by kernel_rfl) ⟨I'.b7, b5', BX', BW', b6'⟩ (fun hS => ?_)
          refine wpAnyLast_take (i := 0) (oi := Oper.mk _ _ _ _ _ _) rfl (by kernel_rfl) (by kernel_rfl) (by kernel_rfl) (by kernel_rfl) (by kernel_rfl) (fun _ _ _ h => h) (rg_load1 (by rfl) (fun _ hS => hS.1.cell (i := 0) rfl) 3 _ rfl rfl (fun _ => by simp [isAgg, run_underlying Tryd.underlying3])) hS ?_
          try simp only [Act.put, List.setIfInBounds_toArray, List.set_cons_zero, List.set_cons_succ]
          refine' wpAnyLast_take (i := 1) (oi := Oper.mk _ _ _ _ _ _) rfl (by kernel_rfl) (by kernel_rfl) (by kernel_rfl) (by kernel_rfl) (by kernel_rfl) (fun _ _ _ h => h) (Or.inl ⟨by rfl, ?hy19⟩) hS ?rest19
          case hy19 => (intro w hSw; (try dsimp only at hSw); first | (go_simp; done) | (go_simp; with_reducible rfl))
          try simp only [Act.put, List.setIfInBounds_toArray, List.set_cons_zero, List.set_cons_succ]
          refine' wpAnyLast_take (i := 2) (oi := Oper.mk _ _ _ _ _ _) rfl (by kernel_rfl) (by kernel_rfl) (by kernel_rfl) (by kernel_rfl) (by kernel_rfl) (fun _ _ _ h => h) (Or.inl ⟨by rfl, ?hy20⟩) hS ?rest20
          case hy20 => (intro w hSw; (try dsimp only at hSw); first | (go_simp; done) | (go_simp; with_reducible rfl))
          try simp only [Act.put, List.setIfInBounds_toArray, List.set_cons_zero, List.set_cons_succ]
          refine wpAnyLast_take (i := 3) (oi := Oper.mk _ _ _ _ _ _) (v := undef) rfl (by kernel_rfl) (by kernel_rfl) (by kernel_rfl) (by kernel_rfl) (by kernel_rfl) (fun _ _ _ h => h) (Or.inr ⟨by rfl, rfl⟩) hS ?_
          try simp only [Act.put, List.setIfInBounds_toArray, List.set_cons_zero, List.set_cons_succ]
          refine wpAnyLast_take (i := 4) (oi := Oper.mk _ _ _ _ _ _) (v := undef) rfl (by kernel_rfl) (by kernel_rfl) (by kernel_rfl) (by kernel_rfl) (by kernel_rfl) (fun _ _ _ h => h) (Or.inr ⟨by rfl, rfl⟩) hS ?_
          try simp only [Act.put, List.setIfInBounds_toArray, List.set_cons_zero, List.set_cons_succ]
          refine wpAnyLast_take (i := 5) (oi := Oper.mk _ _ _ _ _ _) (v := undef) rfl (by kernel_rfl) (by kernel_rfl) (by kernel_rfl) (by kernel_rfl) (by kernel_rfl) (fun _ _ _ h => h) (Or.inr ⟨by rfl, rfl⟩) hS ?_
          try simp only [Act.put, List.setIfInBounds_toArray, List.set_cons_zero, List.set_cons_succ]
          refine wpAnyLast_take (i := 6) (oi := Oper.mk _ _ _ _ _ _) (v := undef) rfl (by kernel_rfl) (by kernel_rfl) (by kernel_rfl) (by kernel_rfl) (by kernel_rfl) (fun _ _ _ h => h) (Or.inr ⟨by rfl, rfl⟩) hS ?_
          try simp only [Act.put, List.setIfInBounds_toArray, List.set_cons_zero, List.set_cons_succ]
          refine' wpAnyLast_take (i := 7) (oi := Oper.mk _ _ _ _ _ _) rfl (by kernel_rfl) (by kernel_rfl) (by kernel_rfl) (by kernel_rfl) (by kernel_rfl) (fun _ _ _ h => h) (Or.inl ⟨by rfl, ?hy21⟩) hS ?rest21
          case hy21 => (intro w hSw; (try dsimp only at hSw); first | (go_simp; done) | (go_simp; with_reducible rfl))
          try simp only [Act.put, List.setIfInBounds_toArray, List.set_cons_zero, List.set_cons_succ]
          refine' wpAnyLast_take (i := 8) (oi := Oper.mk _ _ _ _ _ _) rfl (by kernel_rfl) (by kernel_rfl) (by kernel_rfl) (by kernel_rfl) (by kernel_rfl) (fun _ _ _ h => h) (Or.inl ⟨by rfl, ?hy22⟩) hS ?rest22
          case hy22 => (intro w hSw; (try dsimp only at hSw); first | (go_simp; done) | (go_simp; with_reducible rfl))
          try simp only [Act.put, List.setIfInBounds_toArray, List.set_cons_zero, List.set_cons_succ]
          refine wpAnyLast_take (i := 9) (oi := Oper.mk _ _ _ _ _ _) rfl (by kernel_rfl) (by kernel_rfl) (by kernel_rfl) (by kernel_rfl) (by kernel_rfl) (fun _ _ _ h => h) (rg_load1 (by rfl) (fun _ hS => hS.1.cell (i := 0) rfl) 3 _ rfl rfl (fun _ => by simp [isAgg, run_underlying Tryd.underlying3])) hS ?_
          try simp only [Act.put, List.setIfInBounds_toArray, List.set_cons_zero, List.set_cons_succ]
          refine wpAnyLast_take (i := 10) (oi := Oper.mk _ _ _ _ _ _) rfl (by kernel_rfl) (by kernel_rfl) (by kernel_rfl) (by kernel_rfl) (by kernel_rfl) (fun _ _ _ h => h) (rg_load1 (by rfl) (fun _ hS => hS.2.1.cell (i := 0) rfl) 31 _ rfl rfl (fun _ => by simp [isAgg, run_underlying Tryd.underlying31])) hS ?_
          try simp only [Act.put, List.setIfInBounds_toArray, List.set_cons_zero, List.set_cons_succ]
          refine' wpAnyLast_take (i := 11) (oi := Oper.mk _ _ _ _ _ _) rfl (by kernel_rfl) (by kernel_rfl) (by kernel_rfl) (by kernel_rfl) (by kernel_rfl) (fun _ _ _ h => h) (Or.inl ⟨by rfl, ?hy23⟩) hS ?rest23
          case hy23 => (intro w hSw; (try dsimp only at hSw); first | (go_simp; done) | (go_simp; with_reducible rfl))
          try simp only [Act.put, List.setIfInBounds_toArray, List.set_cons_zero, List.set_cons_succ]
          refine' wpAnyLast_take (i := 12) (oi := Oper.mk _ _ _ _ _ _) rfl (by kernel_rfl) (by kernel_rfl) (by kernel_rfl) (by kernel_rfl) (by kernel_rfl) (fun _ _ _ h => h) (Or.inl ⟨by rfl, ?hy24⟩) hS ?rest24
          case hy24 => (intro w hSw; (try dsimp only at hSw); first | (go_simp; done) | (go_simp; with_reducible rfl))
          try simp only [Act.put, List.setIfInBounds_toArray, List.set_cons_zero, List.set_cons_succ]
          refine' wpAnyLast_take (i := 13) (oi := Oper.mk _ _ _ _ _ _) rfl (by kernel_rfl) (by kernel_rfl) (by kernel_rfl) (by kernel_rfl) (by kernel_rfl) (fun _ _ _ h => h) (Or.inl ⟨by rfl, ?hy25⟩) hS ?rest25
          case hy25 => (intro w hSw; (try dsimp only at hSw); first | (go_simp; done) | (go_simp; with_reducible rfl))
          try simp only [Act.put, List.setIfInBounds_toArray, List.set_cons_zero, List.set_cons_succ]
          refine' wpAnyLast_take (i := 14) (oi := Oper.mk _ _ _ _ _ _) rfl (by kernel_rfl) (by kernel_rfl) (by kernel_rfl) (by kernel_rfl) (by kernel_rfl) (fun _ _ _ h => h) (Or.inl ⟨by rfl, ?hy26⟩) hS ?rest26
          case hy26 => (intro w hSw; (try dsimp only at hSw); first | (go_simp; done) | (go_simp; with_reducible rfl))
          try simp only [Act.put, List.setIfInBounds_toArray, List.set_cons_zero, List.set_cons_succ]
          refine wpAnyLast_take (i := 15) (oi := Oper.mk _ _ _ _ _ _) rfl (by kernel_rfl) (by kernel_rfl) (by kernel_rfl) (by kernel_rfl) (by kernel_rfl) (fun _ _ _ h => h) (rg_load (by rfl) (fun _ hS => hS.2.2.1) 30 _ rfl rfl Tryd.underlying30 rfl (by kernel_rfl)) hS ?_
          try simp only [Act.put, List.setIfInBounds_toArray, List.set_cons_zero, List.set_cons_succ]
          refine wpAnyLast_take (i := 16) (oi := Oper.mk _ _ _ _ _ _) rfl (by kernel_rfl) (by kernel_rfl) (by kernel_rfl) (by kernel_rfl) (by kernel_rfl) (fun _ _ _ h => h) (rg_load1 (by rfl) (fun _ hS => hS.2.1.cell (i := 0) rfl) 31 _ rfl rfl (fun _ => by simp [isAgg, run_underlying Tryd.underlying31])) hS ?_
          try simp only [Act.put, List.setIfInBounds_toArray, List.set_cons_zero, List.set_cons_succ]
          refine wpAnyLast_take (i := 17) (oi := Oper.mk _ _ _ _ _ _) rfl (by kernel_rfl) (by kernel_rfl) (by kernel_rfl) (by kernel_rfl) (by kernel_rfl) (fun _ _ _ h => h) (rg_load1 (by rfl) (fun _ hS => hS.1.cell (i := 0) rfl) 3 _ rfl rfl (fun _ => by simp [isAgg, run_underlying Tryd.underlying3])) hS ?_
          try simp only [Act.put, List.setIfInBounds_toArray, List.set_cons_zero, List.set_cons_succ]
          refine' wpAnyLast_take (i := 18) (oi := Oper.mk _ _ _ _ _ _) rfl (by kernel_rfl) (by kernel_rfl) (by kernel_rfl) (by kernel_rfl) (by kernel_rfl) (fun _ _ _ h => h) (Or.inl ⟨by rfl, ?hy27⟩) hS ?rest27
          case hy27 => (intro w hSw; (try dsimp only at hSw); first | (go_simp; done) | (go_simp; with_reducible rfl))
          try simp only [Act.put, List.setIfInBounds_toArray, List.set_cons_zero, List.set_cons_succ]
          refine wpAnyLast_take (i := 19) (oi := Oper.mk _ _ _ _ _ _) rfl (by kernel_rfl) (by kernel_rfl) (by kernel_rfl) (by kernel_rfl) (by kernel_rfl) (fun _ _ _ h => h) (Or.inl ⟨by rfl, fun w hSw => by obtain ⟨_, _, _, hbw, _⟩ := hSw; have c1 := hbw.cell HG1.out; have c2 := hbw.cell HG2.out; first | (go_simp; done) | (go_simp; rfl)⟩) hS ?_
          try simp only [Act.put, List.setIfInBounds_toArray, List.set_cons_zero, List.set_cons_succ]
          refine' wpAnyLast_take (i := 20) (oi := Oper.mk _ _ _ _ _ _) rfl (by kernel_rfl) (by kernel_rfl) (by kernel_rfl) (by kernel_rfl) (by kernel_rfl) (fun _ _ _ h => h) (Or.inl ⟨by rfl, ?hy28⟩) hS ?rest28
          case hy28 => (intro w hSw; (try dsimp only at hSw); first | (go_simp; done) | (go_simp; with_reducible rfl))
          try simp only [Act.put, List.setIfInBounds_toArray, List.set_cons_zero, List.set_cons_succ]
          refine' wpAnyLast_take (i := 21) (oi := Oper.mk _ _ _ _ _ _) rfl (by kernel_rfl) (by kernel_rfl) (by kernel_rfl) (by kernel_rfl) (by kernel_rfl) (fun _ _ _ h => h) (Or.inl ⟨by rfl, ?hy29⟩) hS ?rest29
          case hy29 => (intro w hSw; (try dsimp only at hSw); first | (go_simp; done) | (go_simp; with_reducible rfl))
          try simp only [Act.put, List.setIfInBounds_toArray, List.set_cons_zero, List.set_cons_succ]
          refine wpAnyLast_done (by kernel_rfl) ?_ _
          refine Straight.normal ?_
          have HB := I'.hb
          have b7 := I'.b7
          have c7 := b7.cell (i := 0) rfl
          gi_wp2_with (first
            | ((with_reducible refine gate_In (Op.store 3 (.tmp 7) (.tmp 79)) rfl ?_); refine ev_store1In (i := 0) HB b7 GE_g7 rfl 3 _ _ rfl rfl _ rfl (by simp) (by kernel_rfl) rfl ?_; intro w26 B26 HB26 K_w26 KO_w26))
          have q := PG.out
          have q2 := PG2.out
          have Z := HI.out.sz
          refine ⟨(KO'.out.trans KO_w26.out).from _, fun k hk => (K_w26.out.2 k (fun c => by have := HXA.out k hk; omega)).trans (hbd.out.block k (HXA.out k hk).2), ⟨(K_w26.out.2 0 (by omega)).trans (hbd.out.block 0 (by omega)), (K_w26.out.2 h1 (by omega)).trans (hbd.out.block h1 (by omega)), Nat.le_trans hbd.out.size K_w26.out.1⟩, ⟨?_, HB26, Nat.le_trans I'.sz K_w26.out.1⟩, (K_w26.out.2 D (fun c => by have := HD.out; omega)).trans ((hbd.out.block D (Array.getElem?_eq_some_iff.1 HDD.out).1).trans HDD.out)⟩
          rw [List.length_append, List.length_singleton]
          rw [hq7] at B26
          exact B26
      case don1 =>
        rintro D2 X ys W2 hD2 hX rfl ⟨hI, hDD⟩ hK2
        rw [← HN.out.1] at hI
        clear hX
        have HB := Q.out.hb.step hI.hb.out
        have b4 := Q.out.b4.below hI.hb.out
        have c7 := hI.b7.cell (i := 0) rfl
        have c5 := (Q.out.b5.below hI.hb.out).cell (i := 0) rfl
        have hee : ((N : Int) == (N : Int)) = true := beq_self_eq_true _
        have GE4 : Aside0 (w.heap.size ≤ g4) := ⟨Q.out.ge4⟩
        have HM := Aside0.mk (Marks.cons (Marks.cons (Marks.nil (m := w11.heap.size) (W := W2)) PG2.out.2.2.2 hDD (List.not_mem_nil)) (Nat.le_trans HB21.le hD2) hK2 (by rw [List.mem_singleton]; have := PG2.out.2.2.1; omega))
        clear hDD hK2 hD2 hI
        gi_wp2_with (first
          | ((with_reducible refine gate_In (Op.store 4 (.tmp 4) (.tmp 83)) rfl ?_); refine ev_store1In (i := 0) HB b4 GE4 rfl 4 _ _ rfl rfl _ rfl (by simp) (by kernel_rfl) rfl ?_; intro w30 B30 HB30 K_w30 KO_w30))
        refine leaves_marksS (S := fun A => Blk A g4 #[.bool true] 4 ∧ BelowH w A) (fun A D' hs h1 h2 => ?_) [D2, D] w30 ⟨B30, HB30⟩ (HM.out.others KO_w30.out) fun A hA => ⟨_, results_cell1 rfl _ _ g4 4 _ _ rfl hA.1 Tryd.underlying4 rfl, rfl, hA.2.out⟩
        have hg := grownBy_putObj' A D' (.deferred none)
        have hr2 : ∀ r, some D' = some r → ∃ o : Obj, A.heap[r]? = some o ∧ o.isCells = false := fun r e => by
          cases e
          exact ⟨_, h2, rfl⟩
        exact ⟨hs.1.kept hg hr2, hs.2.kept hg (Nat.le_trans Q.out.hb.le h1) (fun r e => by cases e; exact Nat.le_refl _)⟩
      case sto1 =>
        intro D2 c pre W hD2 hp hf
        exact hf.elim
    · have t0 : ((N : Int) == kk) = false := beq_eq_false_iff_ne.mpr hk
      have t1 : ((N : Int) == (N : Int)) = true := beq_self_eq_true _
      have t2 : ((N : Int) != kk) = true := bne_iff_ne.mpr hk
      have t3 : decide ((N : Int) = kk) = false := decide_eq_false hk
      have HD := Aside0.mk hD
      have HKD := Aside0.mk hK
      have c7 := hI.b7.cell (i := 0) rfl
      have c3 := (Q.out.b3.below hI.hb.out).cell (i := 0) rfl
      have c5 := (Q.out.b5.below hI.hb.out).cell (i := 0) rfl
      have c6 := (Q.out.b6.below hI.hb.out).cell (i := 0) rfl
      clear hD hK
      gi_wp2_with (first
        | (gi_at_call 33; refine (callsIn_of HF (TD.out _ hI.hb)).mono ?_; rintro e w20 ⟨rfl, hb20⟩; have J := hI.below hb20; have HB := J.hb; have b7 := J.b7; have HK20 := Aside0.mk hb20; clear hb20 c7 c3 c5 c6)
        | ((with_reducible refine gate_In (Op.store 3 (.tmp 7) (.const (.int .i64 0))) rfl ?_); refine ev_store1In (i := 0) HB b7 GE_g7 rfl 3 _ _ rfl rfl (.int .i64 0) rfl (by simp) (by kernel_rfl) rfl ?_; intro w21 B21 HB21 K_w21 KO_w21; have c6 := (Q.out.b6.below HB21.out).cell (i := 0) rfl))
      have LD : D < W.heap.size := (Array.getElem?_eq_some_iff.1 HKD.out).1
      have HKD2 : Aside0 (w21.heap[D]? = some (.deferred (some []))) := ⟨KO_w21.out.same D _ ((HK20.out.block D LD).trans HKD.out) rfl⟩
      have LH2 := (Q.out.B1.below HB21.out).lt
      have P2 := (Q.out.ht.step HB21.out).pos
      have PG2 : Aside0 (w11.heap.size ≤ w21.heap.size ∧ g7 < w21.heap.size ∧ D < w21.heap.size ∧ w11.heap.size ≤ D) := ⟨⟨HB21.le, B21.lt, (Array.getElem?_eq_some_iff.1 HKD2.out).1, Nat.le_trans HBW.le HD.out⟩⟩
      clear HB K_w21 KO_w21 c6 hI J b7 LD
      refine wpIn_rangeFunc_O hro (by decide) (gf := 67) (lb := #[.pointer (some ⟨h3, 0, none⟩), .pointer (some ⟨h1, 0, none⟩)]) rfl f2 (enters_of Tryd.func67 (by kernel_rfl) rfl)
        (quotes_Texts_1.stops F HF (9 - 1) (by decide) h3 h1 s (by have := HN.out.2.2; omega) A cap w21 (Q.out.B3.below HB21.out) (Kd.C_below Q.out.hC HB21.out) Q.out.hcap (Q.out.B1.below HB21.out) (Q.out.ht.step HB21.out)) Keep2.trans (fun W l o o' hl ho hc hw => Keep2.putObj P2 LH2 W l o o' hl ho hc hw) (Below.refl _ _) (fun _ => rfl)
        (fun _ pre W' => QtI w11 g7 w21.heap.size ((pre.length : Nat) : Int) W' ∧ W'.heap[D]? = some (.deferred (some []))) (fun _ _ _ => False)
        (fun _ pre A B row hs hg hr => ⟨hs.1.kept HB21.le hg hr, (hg.block D (Array.getElem?_eq_some_iff.1 hs.2).1 (fun e => by have h := (hr D e.symm).1; have q := PG2.out; omega)).trans hs.2⟩)
        (fun _ _ _ _ _ hs _ _ => hs)
        (fun X pre A k h hk => h)
        (fun X pre A C hX h ht => ⟨h.1.turned hX ht PG2.out.2.1 HB21.le, (ht.block D (Array.getElem?_eq_some_iff.1 h.2).1 (not_mem_above hX PG2.out.2.2.1)).trans h.2⟩)
        ⟨⟨B21, HB21, Nat.le_refl _⟩, HKD2.out⟩
        (fun x a' W => ∃ gb, w21.heap.size ≤ gb ∧ Blk W gb #[.int .i64 ((x.1 : Nat) : Int), .int .i64 ((x.2 : Nat) : Int)] 30 ∧ a' = { tmps := #[.string s, .int .i64 kk, undef, .pointer (some ⟨g3, 0, none⟩), .pointer (some ⟨g4, 0, none⟩), .pointer (some ⟨g5, 0, none⟩), .pointer (some ⟨g6, 0, none⟩), .pointer (some ⟨g7, 0, none⟩), undef, .pointer (some ⟨gb, 0, none⟩), .string s, .slice A2 N cap2, .string s, .func (.func 67) #[] #[.pointer (some ⟨h3, 0, none⟩), .pointer (some ⟨h1, 0, none⟩)], .func (.func 67) #[] #[.pointer (some ⟨h3, 0, none⟩), .pointer (some ⟨h1, 0, none⟩)], .bool false, .bool false, .bool true, .bool false, .bool false, .func (.func 67) #[] #[.pointer (some ⟨h3, 0, none⟩), .pointer (some ⟨h1, 0, none⟩)], undef, undef, undef, undef, undef, undef, undef, undef, undef, undef, undef, undef, undef, undef, undef, undef, undef, undef, .int .i64 ((N : Int)), .int .i64 kk, .bool true, .bool true, .int .i64 (N : Int), .slice A2 N cap2, .int .i64 (N : Int), .bool false, .bool false, .bool false, .func (.func 67) #[] #[.pointer (some ⟨h3, 0, none⟩), .pointer (some ⟨h1, 0, none⟩)], .slice A2 N cap2, .bool true, .bool false, .bool false, .func (.func 67) #[] #[.pointer (some ⟨h3, 0, none⟩), .pointer (some ⟨h1, 0, none⟩)], .agg #[.int .i64 ((x.1 : Nat) : Int), .int .i64 ((x.2 : Nat) : Int)], undef, undef, undef, undef, undef, undef, undef, undef, undef, undef, undef, undef, undef, undef, undef, undef, undef, undef, undef, undef, undef, undef, undef, undef, undef, undef, undef, undef], defers := [] })
        (fun x a' pre A B row hs hg hr => by
          obtain ⟨gb, h1, h2, h3⟩ := hs
          exact ⟨gb, h1, h2.kept hg (fun r e => (hr r e).2), h3⟩)
        ?asg2 ?bod2 ?don2 ?sto2
      case asg2 =>
        rintro X l pre x W K hX ⟨hI, hDD⟩ hsp hK
        have HB := hI.hb
        have LDD := (Array.getElem?_eq_some_iff.1 hDD).1
        have SZ := Aside0.mk hI.sz
        have HXA := Aside0.mk hX
        clear hX hsp
        have hz : ∀ t : Array Value, (((#[55] : Array Tmp).zip (spanEnc x)).foldl (fun t (p, v) => t.setIfInBounds p v) t) = t.setIfInBounds 55 (.agg #[.int .i64 ((x.1 : Nat) : Int), .int .i64 ((x.2 : Nat) : Int)]) := fun t => by simp [spanEnc]
        rw [hz]
        simp only [List.setIfInBounds_toArray, List.set_cons_succ, List.set_cons_zero]
        clear hz
        gi_wp2_with (first
          | ((with_reducible refine gate_dstIn (N := 9) rfl ?_); refine ev_allocIn HB rfl rfl (#[.int .i64 0, .int .i64 0]) 30 ?hr ?_; (case hr => first | (go_simp; done) | (go_simp; rfl)); intro gb w14 G_gb GE_gb B_gb HBn K_gb KO_w14; clear HB; have HB := HBn; clear HBn)
          | ((with_reducible refine gate_In (Op.store 30 (.tmp 9) (.tmp 55)) rfl ?_); refine ev_storeIn HB B_gb GE_gb rfl 30 _ _ rfl rfl rfl (by kernel_rfl) rfl (by simp [Value.oneCell']) ?_; intro w15 B15 HBn K_w15 KO_w15; clear HB; have HB := HBn; clear HBn))
        have hKO := KO_w14.out.trans KO_w15.out
        have same : ∀ g, g < W.heap.size → w15.heap[g]? = W.heap[g]? := fun g h => (K_w15.out.2 g (by have := G_gb.out; omega)).trans (K_gb.out.block g h)
        have Z := SZ.out
        have q := PG.out
        have q2 := PG2.out
        refine hK _ _ (hKO.from _) (fun k hk => same k (HXA.out k hk).2) ⟨same 0 (by omega), same h1 (by omega), Nat.le_trans K_gb.out.size K_w15.out.1⟩ ?_ ⟨gb, Nat.le_trans SZ.out G_gb.out, B15, rfl⟩
        exact ⟨⟨⟨(same g7 (by omega)).trans hI.b7.out⟩, HB, Nat.le_trans Z (Nat.le_trans K_gb.out.size K_w15.out.1)⟩, (same D LDD).trans hDD⟩
      case bod2 =>
        rintro X l pre x a' W hX hl ⟨r, hr⟩ ⟨hI, hDD⟩ ⟨gb, hgb, BX, rfl⟩ hsp
        obtain ⟨hx, hlt⟩ := prefix_get hsp
        obtain (h0 | ⟨gw, cs, tw, rfl, BW, hrow⟩) := Q.out.row
        · rw [h0] at hlt
          exact absurd hlt (Nat.not_lt_zero _)
        have BWI := BW.below hI.hb.out
        obtain ⟨hc1, hc2⟩ := hrow _ _ hx
        rw [← HN.out.1] at hlt
        have HG1 := Aside0.mk hc1
        have HG2 := Aside0.mk hc2
        have HXA := Aside0.mk hX
        have HNB1 := HNB.out
        have hge : decide ((N : Int) ≤ ((pre.length : Nat) : Int)) = false ∧ decide (N ≤ pre.length) = false := ⟨decide_eq_false (by omega), decide_eq_false (by omega)⟩
        obtain ⟨hge1, hge2⟩ := hge
        have hq3 : (0 : Int) ≤ ((pre.length : Nat) : Int) := by omega
        have hq4 : ((pre.length : Nat) : Int) < ((N : Nat) : Int) := by omega
        have hq6 : IntKind.i64.wrap ((pre.length : Nat) : Int) = ((pre.length : Nat) : Int) := by rw [i64_w]; unfold wrap64; omega
        have hq7 : wrap64 (((pre.length : Nat) : Int) + 1) = ((pre.length : Nat) : Int) + 1 := by unfold wrap64; omega
        have EQ : ∀ w, (Op.equalIn 10000 30 (.agg #[.int .i64 ((x.1 : Nat) : Int), .int .i64 ((x.2 : Nat) : Int)]) (.agg #[.int .i64 ((x.1 : Nat) : Int), .int .i64 ((x.2 : Nat) : Int)])).run Tryd.prog w = .ok true w := fun w => by
          have := eqSpan ((x.1 : Nat) : Int) ((x.2 : Nat) : Int) ((x.1 : Nat) : Int) ((x.2 : Nat) : Int) w
          rw [beq_self_eq_true, beq_self_eq_true] at this
          exact this
        have hbd : Aside0 (Below W.heap.size W W.drew) := ⟨below_drew (Below.refl _ _)⟩
        have HI := Aside0.mk hI
        have HDD := Aside0.mk hDD
        clear hDD
        have I' := hI.below hbd.out
        have BX' := BX.below hbd.out
        have BW' := BWI.below hbd.out
        have LW := BW.lt
        have KO' := Aside0.mk (keepsOthers_below hbd.out)
        have HZ' := Aside0.mk hbd.out.size
        have b5' := Q.out.b5.below I'.hb.out
        have b6' := Q.out.b6.below I'.hb.out
        clear hr hl hX hsp hx hc1 hc2 hI BX HNB1 BW BWI hrow
        by_cases h3 : pre.length < 3
        · have g1 : decide (((pre.length : Nat) : Int) < 3) = true ∧ decide (pre.length < 3) = true := ⟨decide_eq_true (by omega), decide_eq_true h3⟩
          obtain ⟨g11, g12⟩ := g1
          clear h3
          gi_upto_region 17 with (fail)
          refine wpIn_region_last_drew HF (S := fun W' => Blk W' g7 #[.int .i64 ((pre.length : Nat) : Int)] 3 ∧ Blk W' g5 #[.slice (some ⟨gw, 0, none⟩) N cap2] 31 ∧ Blk W' gb #[.int .i64 ((x.1 : Nat) : Int), .int .i64 ((x.2 : Nat) : Int)] 30 ∧ Blk W' gw cs tw ∧ Blk W' g6 #[.func (.func 67) #[] #[.pointer (some ⟨h3, 0, none⟩), .pointer (some ⟨h1, 0, none⟩)]] 27) (ds := []) (by kernel_rfl) (by kernel_rfl) ⟨I'.b7, b5', BX', BW', b6'⟩ (fun hS => ?_)
          refine wpAnyLast_take (i := 0) (oi := Oper.mk _ _ _ _ _ _) rfl (by kernel_rfl) (by kernel_rfl) (by kernel_rfl) (by kernel_rfl) (by kernel_rfl) (fun _ _ _ h => h) (rg_load1 (by rfl) (fun _ hS => hS.1.cell (i := 0) rfl) 3 _ rfl rfl (fun _ => by simp [isAgg, run_underlying Tryd.underlying3])) hS ?_
          try simp only [Act.put, List.setIfInBounds_toArray, List.set_cons_zero, List.set_cons_succ]
          refine' wpAnyLast_take (i := 1) (oi := Oper.mk _ _ _ _ _ _) rfl (by kernel_rfl) (by kernel_rfl) (by kernel_rfl) (by kernel_rfl) (by kernel_rfl) (fun _ _ _ h => h) (Or.inl ⟨by rfl, ?hy30⟩) hS ?rest30
          case hy30 => (intro w hSw; (try dsimp only at hSw); first | (go_simp; done) | (go_simp; with_reducible rfl))
          try simp only [Act.put, List.setIfInBounds_toArray, List.set_cons_zero, List.set_cons_succ]
          refine' wpAnyLast_take (i := 2) (oi := Oper.mk _ _ _ _ _ _) rfl (by kernel_rfl) (by kernel_rfl) (by kernel_rfl) (by kernel_rfl) (by kernel_rfl) (fun _ _ _ h => h) (Or.inl ⟨by rfl, ?hy31⟩) hS ?rest31
          case hy31 => (intro w hSw; (try dsimp only at hSw); first | (go_simp; done) | (go_simp; with_reducible rfl))
          try simp only [Act.put, List.setIfInBounds_toArray, List.set_cons_zero, List.set_cons_succ]
          refine wpAnyLast_take (i := 3) (oi := Oper.mk _ _ _ _ _ _) rfl (by kernel_rfl) (by kernel_rfl) (by kernel_rfl) (by kernel_rfl) (by kernel_rfl) (fun _ _ _ h => h) (rg_load1 (by rfl) (fun _ hS => hS.2.2.2.2.cell (i := 0) rfl) 27 _ rfl rfl (fun _ => by simp [isAgg, run_underlying Tryd.underlying27])) hS ?_
          try simp only [Act.put, List.setIfInBounds_toArray, List.set_cons_zero, List.set_cons_succ]
          refine wpAnyLast_take (i := 4) (oi := Oper.mk _ _ _ _ _ _) rfl (by kernel_rfl) (by kernel_rfl) (by kernel_rfl) (by kernel_rfl) (by kernel_rfl) (fun _ _ _ h => h) (rg_load1 (by rfl) (fun _ hS => hS.2.1.cell (i := 0) rfl) 31 _ rfl rfl (fun _ => by simp [isAgg, run_underlying Tryd.underlying31])) hS ?_
          try simp only [Act.put, List.setIfInBounds_toArray, List.set_cons_zero, List.set_cons_succ]
          refine wpAnyLast_ready (rs := [5]) (by kernel_rfl) (by simp) ?_
          refine AllReadyL.cons (o := Oper.mk _ _ _ _ _ _) rfl (by decide) (fun K hK => ?_) ?_
          · refine rg_call (by rfl) _ _ (.bool true) (by first | (go_simp; done) | (go_simp; rfl)) (TD.out _ I'.hb) ?_
            intro W' hb
            have I2 := I'.below hb.out
            have BX2 := BX'.below hb.out
            have BW2 := BW'.below hb.out
            have b52 := b5'.below hb.out
            have b62 := b6'.below hb.out
            have KO2 := Aside0.mk (KO'.out.trans (keepsOthers_below hb.out))
            have HBD2 := Aside0.mk (hbd.out.trans (hb.out.mono hbd.out.size))
            refine hK.out _ _ ⟨I2.b7, b52, BX2, BW2, b62⟩ (fun hS => ?_)
            clear hK K hb
            try simp only [Act.put, List.setIfInBounds_toArray, List.set_cons_zero, List.set_cons_succ]
            refine' wpAnyLast_take (i := 6) (oi := Oper.mk _ _ _ _ _ _) rfl (by kernel_rfl) (by kernel_rfl) (by kernel_rfl) (by kernel_rfl) (by kernel_rfl) (fun _ _ _ h => h) (Or.inl ⟨by rfl, ?hy32⟩) hS ?rest32
            case hy32 => (intro w hSw; (try dsimp only at hSw); first | (go_simp; done) | (go_simp; with_reducible rfl))
            try simp only [Act.put, List.setIfInBounds_toArray, List.set_cons_zero, List.set_cons_succ]
            refine' wpAnyLast_take (i := 7) (oi := Oper.mk _ _ _ _ _ _) rfl (by kernel_rfl) (by kernel_rfl) (by kernel_rfl) (by kernel_rfl) (by kernel_rfl) (fun _ _ _ h => h) (Or.inl ⟨by rfl, ?hy33⟩) hS ?rest33
            case hy33 => (intro w hSw; (try dsimp only at hSw); first | (go_simp; done) | (go_simp; with_reducible rfl))
            try simp only [Act.put, List.setIfInBounds_toArray, List.set_cons_zero, List.set_cons_succ]
            refine' wpAnyLast_take (i := 8) (oi := Oper.mk _ _ _ _ _ _) rfl (by kernel_rfl) (by kernel_rfl) (by kernel_rfl) (by kernel_rfl) (by kernel_rfl) (fun _ _ _ h => h) (Or.inl ⟨by rfl, ?hy34⟩) hS ?rest34
            case hy34 => (intro w hSw; (try dsimp only at hSw); first | (go_simp; done) | (go_simp; with_reducible rfl))
            try simp only [Act.put, List.setIfInBounds_toArray, List.set_cons_zero, List.set_cons_succ]
            refine wpAnyLast_take (i := 9) (oi := Oper.mk _ _ _ _ _ _) rfl (by kernel_rfl) (by kernel_rfl) (by kernel_rfl) (by kernel_rfl) (by kernel_rfl) (fun _ _ _ h => h) (rg_load1 (by rfl) (fun _ hS => hS.1.cell (i := 0) rfl) 3 _ rfl rfl (fun _ => by simp [isAgg, run_underlying Tryd.underlying3])) hS ?_
            try simp only [Act.put, List.setIfInBounds_toArray, List.set_cons_zero, List.set_cons_succ]
            refine wpAnyLast_take (i := 10) (oi := Oper.mk _ _ _ _ _ _) rfl (by kernel_rfl) (by kernel_rfl) (by kernel_rfl) (by kernel_rfl) (by kernel_rfl) (fun _ _ _ h => h) (rg_load1 (by rfl) (fun _ hS => hS.2.1.cell (i := 0) rfl) 31 _ rfl rfl (fun _ => by simp [isAgg, run_underlying Tryd.underlying31])) hS ?_
            try simp only [Act.put, List.setIfInBounds_toArray, List.set_cons_zero, List.set_cons_succ]
            refine' wpAnyLast_take (i := 11) (oi := Oper.mk _ _ _ _ _ _) rfl (by kernel_rfl) (by kernel_rfl) (by kernel_rfl) (by kernel_rfl) (by kernel_rfl) (fun _ _ _ h => h) (Or.inl ⟨by rfl, ?hy35⟩) hS ?rest35
            case hy35 => (intro w hSw; (try dsimp only at hSw); first | (go_simp; done) | (go_simp; with_reducible rfl))
            try simp only [Act.put, List.setIfInBounds_toArray, List.set_cons_zero, List.set_cons_succ]
            refine' wpAnyLast_take (i := 12) (oi := Oper.mk _ _ _ _ _ _) rfl (by kernel_rfl) (by kernel_rfl) (by kernel_rfl) (by kernel_rfl) (by kernel_rfl) (fun _ _ _ h => h) (Or.inl ⟨by rfl, ?hy36⟩) hS ?rest36
            case hy36 => (intro w hSw; (try dsimp only at hSw); first | (go_simp; done) | (go_simp; with_reducible rfl))
            try simp only [Act.put, List.setIfInBounds_toArray, List.set_cons_zero, List.set_cons_succ]
            refine' wpAnyLast_take (i := 13) (oi := Oper.mk _ _ _ _ _ _) rfl (by kernel_rfl) (by kernel_rfl) (by kernel_rfl) (by kernel_rfl) (by kernel_rfl) (fun _ _ _ h => h) (Or.inl ⟨by rfl, ?hy37⟩) hS ?rest37
            case hy37 => (intro w hSw; (try dsimp only at hSw); first | (go_simp; done) | (go_simp; with_reducible rfl))
            try simp only [Act.put, List.setIfInBounds_toArray, List.set_cons_zero, List.set_cons_succ]
            refine' wpAnyLast_take (i := 14) (oi := Oper.mk _ _ _ _ _ _) rfl (by kernel_rfl) (by kernel_rfl) (by kernel_rfl) (by kernel_rfl) (by kernel_rfl) (fun _ _ _ h => h) (Or.inl ⟨by rfl, ?hy38⟩) hS ?rest38
            case hy38 => (intro w hSw; (try dsimp only at hSw); first | (go_simp; done) | (go_simp; with_reducible rfl))
            try simp only [Act.put, List.setIfInBounds_toArray, List.set_cons_zero, List.set_cons_succ]
            refine wpAnyLast_take (i := 15) (oi := Oper.mk _ _ _ _ _ _) rfl (by kernel_rfl) (by kernel_rfl) (by kernel_rfl) (by kernel_rfl) (by kernel_rfl) (fun _ _ _ h => h) (rg_load (by rfl) (fun _ hS => hS.2.2.1) 30 _ rfl rfl Tryd.underlying30 rfl (by kernel_rfl)) hS ?_
            try simp only [Act.put, List.setIfInBounds_toArray, List.set_cons_zero, List.set_cons_succ]
            refine wpAnyLast_take (i := 16) (oi := Oper.mk _ _ _ _ _ _) rfl (by kernel_rfl) (by kernel_rfl) (by kernel_rfl) (by kernel_rfl) (by kernel_rfl) (fun _ _ _ h => h) (rg_load1 (by rfl) (fun _ hS => hS.2.1.cell (i := 0) rfl) 31 _ rfl rfl (fun _ => by simp [isAgg, run_underlying Tryd.underlying31])) hS ?_
            try simp only [Act.put, List.setIfInBounds_toArray, List.set_cons_zero, List.set_cons_succ]
            refine wpAnyLast_take (i := 17) (oi := Oper.mk _ _ _ _ _ _) rfl (by kernel_rfl) (by kernel_rfl) (by kernel_rfl) (by kernel_rfl) (by kernel_rfl) (fun _ _ _ h => h) (rg_load1 (by rfl) (fun _ hS => hS.1.cell (i := 0) rfl) 3 _ rfl rfl (fun _ => by simp [isAgg, run_underlying Tryd.underlying3])) hS ?_
            try simp only [Act.put, List.setIfInBounds_toArray, List.set_cons_zero, List.set_cons_succ]
            refine' wpAnyLast_take (i := 18) (oi := Oper.mk _ _ _ _ _ _) rfl (by kernel_rfl) (by kernel_rfl) (by kernel_rfl) (by kernel_rfl) (by kernel_rfl) (fun _ _ _ h => h) (Or.inl ⟨by rfl, ?hy39⟩) hS ?rest39
            case hy39 => (intro w hSw; (try dsimp only at hSw); first | (go_simp; done) | (go_simp; with_reducible rfl))
            try simp only [Act.put, List.setIfInBounds_toArray, List.set_cons_zero, List.set_cons_succ]
            refine wpAnyLast_take (i := 19) (oi := Oper.mk _ _ _ _ _ _) rfl (by kernel_rfl) (by kernel_rfl) (by kernel_rfl) (by kernel_rfl) (by kernel_rfl) (fun _ _ _ h => h) (Or.inl ⟨by rfl, fun w hSw => by obtain ⟨_, _, _, hbw, _⟩ := hSw; have c1 := hbw.cell HG1.out; have c2 := hbw.cell HG2.out; first | (go_simp; done) | (go_simp; rfl)⟩) hS ?_
            try simp only [Act.put, List.setIfInBounds_toArray, List.set_cons_zero, List.set_cons_succ]
            refine' wpAnyLast_take (i := 20) (oi := Oper.mk _ _ _ _ _ _) rfl (by kernel_rfl) (by kernel_rfl) (by kernel_rfl) (by kernel_rfl) (by kernel_rfl) (fun _ _ _ h => h) (Or.inl ⟨by rfl, ?hy40⟩) hS ?rest40
            case hy40 => (intro w hSw; (try dsimp only at hSw); first | (go_simp; done) | (go_simp; with_reducible rfl))
            try simp only [Act.put, List.setIfInBounds_toArray, List.set_cons_zero, List.set_cons_succ]
            refine' wpAnyLast_take (i := 21) (oi := Oper.mk _ _ _ _ _ _) rfl (by kernel_rfl) (by kernel_rfl) (by kernel_rfl) (by kernel_rfl) (by kernel_rfl) (fun _ _ _ h => h) (Or.inl ⟨by rfl, ?hy41⟩) hS ?rest41
            case hy41 => (intro w hSw; (try dsimp only at hSw); first | (go_simp; done) | (go_simp; with_reducible rfl))
            try simp only [Act.put, List.setIfInBounds_toArray, List.set_cons_zero, List.set_cons_succ]
            refine wpAnyLast_done (by kernel_rfl) ?_ _
            refine Straight.normal ?_
            have HB := I2.hb
            have b7 := I2.b7
            have c7 := b7.cell (i := 0) rfl
            gi_wp2_with (first
              | ((with_reducible refine gate_In (Op.store 3 (.tmp 7) (.tmp 79)) rfl ?_); refine ev_store1In (i := 0) HB b7 GE_g7 rfl 3 _ _ rfl rfl _ rfl (by simp) (by kernel_rfl) rfl ?_; intro w26 B26 HB26 K_w26 KO_w26))
            have q := PG.out
            have q2 := PG2.out
            have Z := HI.out.sz
            refine ⟨(KO2.out.trans KO_w26.out).from _, fun k hk => (K_w26.out.2 k (fun c => by have := HXA.out k hk; omega)).trans (HBD2.out.block k (HXA.out k hk).2), ⟨(K_w26.out.2 0 (by omega)).trans (HBD2.out.block 0 (by omega)), (K_w26.out.2 h1 (by omega)).trans (HBD2.out.block h1 (by omega)), Nat.le_trans HBD2.out.size K_w26.out.1⟩, ⟨?_, HB26, Nat.le_trans I2.sz K_w26.out.1⟩, (K_w26.out.2 D (fun c => by have := HD.out; omega)).trans ((HBD2.out.block D (Array.getElem?_eq_some_iff.1 HDD.out).1).trans HDD.out)⟩
            rw [List.length_append, List.length_singleton]
            rw [hq7] at B26
            exact B26
          exact AllReadyL.nil
        · have g1 : decide (((pre.length : Nat) : Int) < 3) = false ∧ decide (pre.length < 3) = false := ⟨decide_eq_false (by omega), decide_eq_false h3⟩
          obtain ⟨g11, g12⟩ := g1
          clear h3
          gi_upto_region 17 with (fail)
          refine wpIn_region_last_drew HF (S := fun W' => Blk W' g7 #[.int .i64 ((pre.length : Nat) : Int)] 3 ∧ Blk W' g5 #[.slice (some ⟨gw, 0, none⟩) N cap2] 31 ∧ Blk W' gb #[.int .i64 ((x.1 : Nat) : Int), .int .i64 ((x.2 : Nat) : Int)] 30 ∧ Blk W' gw cs tw ∧ Blk W' g6 #[.func (.func 67) #[] #[.pointer (some ⟨h3, 0, none⟩), .pointer (some ⟨h1, 0, none⟩)]] 27) (ds := []) (by kernel_rfl) (by kernel_rfl) ⟨I'.b7, b5', BX', BW', b6'⟩ (fun hS => ?_)
          refine wpAnyLast_take (i := 0) (oi := Oper.mk _ _ _ _ _ _) rfl (by kernel_rfl) (by kernel_rfl) (by kernel_rfl) (by kernel_rfl) (by kernel_rfl) (fun _ _ _ h => h) (rg_load1 (by rfl) (fun _ hS => hS.1.cell (i := 0) rfl) 3 _ rfl rfl (fun _ => by simp [isAgg, run_underlying Tryd.underlying3])) hS ?_
          try simp only [Act.put, List.setIfInBounds_toArray, List.set_cons_zero, List.set_cons_succ]
          refine' wpAnyLast_take (i := 1) (oi := Oper.mk _ _ _ _ _ _) rfl (by kernel_rfl) (by kernel_rfl) (by kernel_rfl) (by kernel_rfl) (by kernel_rfl) (fun _ _ _ h => h) (Or.inl ⟨by rfl, ?hy42⟩) hS ?rest42
          case hy42 => (intro w hSw; (try dsimp only at hSw); first | (go_simp; done) | (go_simp; with_reducible rfl))
          try simp only [Act.put, List.setIfInBounds_toArray, List.set_cons_zero, List.set_cons_succ]
          refine' wpAnyLast_take (i := 2) (oi := Oper.mk _ _ _ _ _ _) rfl (by kernel_rfl) (by kernel_rfl) (by kernel_rfl) (by kernel_rfl) (by kernel_rfl) (fun _ _ _ h => h) (Or.inl ⟨by rfl, ?hy43⟩) hS ?rest43
          case hy43 => (intro w hSw; (try dsimp only at hSw); first | (go_simp; done) | (go_simp; with_reducible rfl))
          try simp only [Act.put, List.setIfInBounds_toArray, List.set_cons_zero, List.set_cons_succ]
          refine wpAnyLast_take (i := 3) (oi := Oper.mk _ _ _ _ _ _) (v := undef) rfl (by kernel_rfl) (by kernel_rfl) (by kernel_rfl) (by kernel_rfl) (by kernel_rfl) (fun _ _ _ h => h) (Or.inr ⟨by rfl, rfl⟩) hS ?_
          try simp only [Act.put, List.setIfInBounds_toArray, List.set_cons_zero, List.set_cons_succ]
          refine wpAnyLast_take (i := 4) (oi := Oper.mk _ _ _ _ _ _) (v := undef) rfl (by kernel_rfl) (by kernel_rfl) (by kernel_rfl) (by kernel_rfl) (by kernel_rfl) (fun _ _ _ h => h) (Or.inr ⟨by rfl, rfl⟩) hS ?_
          try simp only [Act.put, List.setIfInBounds_toArray, List.set_cons_zero, List.set_cons_succ]
          refine wpAnyLast_take (i := 5) (oi := Oper.mk _ _ _ _ _ _) (v := undef) rfl (by kernel_rfl) (by kernel_rfl) (by kernel_rfl) (by kernel_rfl) (by kernel_rfl) (fun _ _ _ h => h) (Or.inr ⟨by rfl, rfl⟩) hS ?_
          try simp only [Act.put, List.setIfInBounds_toArray, List.set_cons_zero, List.set_cons_succ]
          refine wpAnyLast_take (i := 6) (oi := Oper.mk _ _ _ _ _ _) (v := undef) rfl (by kernel_rfl) (by kernel_rfl) (by kernel_rfl) (by kernel_rfl) (by kernel_rfl) (fun _ _ _ h => h) (Or.inr ⟨by rfl, rfl⟩) hS ?_
          try simp only [Act.put, List.setIfInBounds_toArray, List.set_cons_zero, List.set_cons_succ]
          refine' wpAnyLast_take (i := 7) (oi := Oper.mk _ _ _ _ _ _) rfl (by kernel_rfl) (by kernel_rfl) (by kernel_rfl) (by kernel_rfl) (by kernel_rfl) (fun _ _ _ h => h) (Or.inl ⟨by rfl, ?hy44⟩) hS ?rest44
          case hy44 => (intro w hSw; (try dsimp only at hSw); first | (go_simp; done) | (go_simp; with_reducible rfl))
          try simp only [Act.put, List.setIfInBounds_toArray, List.set_cons_zero, List.set_cons_succ]
          refine' wpAnyLast_take (i := 8) (oi := Oper.mk _ _ _ _ _ _) rfl (by kernel_rfl) (by kernel_rfl) (by kernel_rfl) (by kernel_rfl) (by kernel_rfl) (fun _ _ _ h => h) (Or.inl ⟨by rfl, ?hy45⟩) hS ?rest45
          case hy45 => (intro w hSw; (try dsimp only at hSw); first | (go_simp; done) | (go_simp; with_reducible rfl))
          try simp only [Act.put, List.setIfInBounds_toArray, List.set_cons_zero, List.set_cons_succ]
          refine wpAnyLast_take (i := 9) (oi := Oper.mk _ _ _ _ _ _) rfl (by kernel_rfl) (by kernel_rfl) (by kernel_rfl) (by kernel_rfl) (by kernel_rfl) (fun _ _ _ h => h) (rg_load1 (by rfl) (fun _ hS => hS.1.cell (i := 0) rfl) 3 _ rfl rfl (fun _ => by simp [isAgg, run_underlying Tryd.underlying3])) hS ?_
          try simp only [Act.put, List.setIfInBounds_toArray, List.set_cons_zero, List.set_cons_succ]
          refine wpAnyLast_take (i := 10) (oi := Oper.mk _ _ _ _ _ _) rfl (by kernel_rfl) (by kernel_rfl) (by kernel_rfl) (by kernel_rfl) (by kernel_rfl) (fun _ _ _ h => h) (rg_load1 (by rfl) (fun _ hS => hS.2.1.cell (i := 0) rfl) 31 _ rfl rfl (fun _ => by simp [isAgg, run_underlying Tryd.underlying31])) hS ?_
          try simp only [Act.put, List.setIfInBounds_toArray, List.set_cons_zero, List.set_cons_succ]
          refine' wpAnyLast_take (i := 11) (oi := Oper.mk _ _ _ _ _ _) rfl (by kernel_rfl) (by kernel_rfl) (by kernel_rfl) (by kernel_rfl) (by kernel_rfl) (fun _ _ _ h => h) (Or.inl ⟨by rfl, ?hy46⟩) hS ?rest46
          case hy46 => (intro w hSw; (try dsimp only at hSw); first | (go_simp; done) | (go_simp; with_reducible rfl))
          try simp only [Act.put, List.setIfInBounds_toArray, List.set_cons_zero, List.set_cons_succ]
          refine' wpAnyLast_take (i := 12) (oi := Oper.mk _ _ _ _ _ _) rfl (by kernel_rfl) (by kernel_rfl) (by kernel_rfl) (by kernel_rfl) (by kernel_rfl) (fun _ _ _ h => h) (Or.inl ⟨by rfl, ?hy47⟩) hS ?rest47
          case hy47 => (intro w hSw; (try dsimp only at hSw); first | (go_simp; done) | (go_simp; with_reducible rfl))
          try simp only [Act.put, List.setIfInBounds_toArray, List.set_cons_zero, List.set_cons_succ]
          refine' wpAnyLast_take (i := 13) (oi := Oper.mk _ _ _ _ _ _) rfl (by kernel_rfl) (by kernel_rfl) (by kernel_rfl) (by kernel_rfl) (by kernel_rfl) (fun _ _ _ h => h) (Or.inl ⟨by rfl, ?hy48⟩) hS ?rest48
          case hy48 => (intro w hSw; (try dsimp only at hSw); first | (go_simp; done) | (go_simp; with_reducible rfl))
          try simp only [Act.put, List.setIfInBounds_toArray, List.set_cons_zero, List.set_cons_succ]
          refine' wpAnyLast_take (i := 14) (oi := Oper.mk _ _ _ _ _ _) rfl (by kernel_rfl) (by kernel_rfl) (by kernel_rfl) (by kernel_rfl) (by kernel_rfl) (fun _ _ _ h => h) (Or.inl ⟨by rfl, ?hy49⟩) hS ?rest49
          case hy49 => (intro w hSw; (try dsimp only at hSw); first | (go_simp; done) | (go_simp; with_reducible rfl))
          try simp only [Act.put, List.setIfInBounds_toArray, List.set_cons_zero, List.set_cons_succ]
          refine wpAnyLast_take (i := 15) (oi := Oper.mk _ _ _ _ _ _) rfl (by kernel_rfl) (by kernel_rfl) (by kernel_rfl) (by kernel_rfl) (by kernel_rfl) (fun _ _ _ h => h) (rg_load (by rfl) (fun _ hS => hS.2.2.1) 30 _ rfl rfl Tryd.underlying30 rfl (by kernel_rfl)) hS ?_
          try simp only [Act.put, List.setIfInBounds_toArray, List.set_cons_zero, List.set_cons_succ]
          refine wpAnyLast_take (i := 16) (oi := Oper.mk _ _ _ _ _ _) rfl (by kernel_rfl) (by kernel_rfl) (by kernel_rfl) (by kernel_rfl) (by kernel_rfl) (fun _ _ _ h => h) (rg_load1 (by rfl) (fun _ hS => hS.2.1.cell (i := 0) rfl) 31 _ rfl rfl (fun _ => by simp [isAgg, run_underlying Tryd.underlying31])) hS ?_
          try simp only [Act.put, List.setIfInBounds_toArray, List.set_cons_zero, List.set_cons_succ]
          refine wpAnyLast_take (i := 17) (oi := Oper.mk _ _ _ _ _ _) rfl (by kernel_rfl) (by kernel_rfl) (by kernel_rfl) (by kernel_rfl) (by kernel_rfl) (fun _ _ _ h => h) (rg_load1 (by rfl) (fun _ hS => hS.1.cell (i := 0) rfl) 3 _ rfl rfl (fun _ => by simp [isAgg, run_underlying Tryd.underlying3])) hS ?_
          try simp only [Act.put, List.setIfInBounds_toArray, List.set_cons_zero, List.set_cons_succ]
          refine' wpAnyLast_take (i := 18) (oi := Oper.mk _ _ _ _ _ _) rfl (by kernel_rfl) (by kernel_rfl) (by kernel_rfl) (by kernel_rfl) (by kernel_rfl) (fun _ _ _ h => h) (Or.inl ⟨by rfl, ?hy50⟩) hS ?rest50
          case hy50 => (intro w hSw; (try dsimp only at hSw); first | (go_simp; done) | (go_simp; with_reducible rfl))
          try simp only [Act.put, List.setIfInBounds_toArray, List.set_cons_zero, List.set_cons_succ]
          refine wpAnyLast_take (i := 19) (oi := Oper.mk _ _ _ _ _ _) rfl (by kernel_rfl) (by kernel_rfl) (by kernel_rfl) (by kernel_rfl) (by kernel_rfl) (fun _ _ _ h => h) (Or.inl ⟨by rfl, fun w hSw => by obtain ⟨_, _, _, hbw, _⟩ := hSw; have c1 := hbw.cell HG1.out; have c2 := hbw.cell HG2.out; first | (go_simp; done) | (go_simp; rfl)⟩) hS ?_
          try simp only [Act.put, List.setIfInBounds_toArray, List.set_cons_zero, List.set_cons_succ]
          refine' wpAnyLast_take (i := 20) (oi := Oper.mk _ _ _ _ _ _) rfl (by kernel_rfl) (by kernel_rfl) (by kernel_rfl) (by kernel_rfl) (by kernel_rfl) (fun _ _ _ h => h) (Or.inl ⟨by rfl, ?hy51⟩) hS ?rest51
          case hy51 => (intro w hSw; (try dsimp only at hSw); first | (go_simp; done) | (go_simp; with_reducible rfl))
          try simp only [Act.put, List.setIfInBounds_toArray, List.set_cons_zero, List.set_cons_succ]
          refine' wpAnyLast_take (i := 21) (oi := Oper.mk _ _ _ _ _ _) rfl (by kernel_rfl) (by kernel_rfl) (by kernel_rfl) (by kernel_rfl) (by kernel_rfl) (fun _ _ _ h => h) (Or.inl ⟨by rfl, ?hy52⟩) hS ?rest52
          case hy52 => (intro w hSw; (try dsimp only at hSw); first | (go_simp; done) | (go_simp; with_reducible rfl))
          try simp only [Act.put, List.setIfInBounds_toArray, List.set_cons_zero, List.set_cons_succ]
          refine wpAnyLast_done (by kernel_rfl) ?_ _
          refine Straight.normal ?_
          have HB := I'.hb
          have b7 := I'.b7
          have c7 := b7.cell (i := 0) rfl
          gi_wp2_with (first
            | ((with_reducible refine gate_In (Op.store 3 (.tmp 7) (.tmp 79)) rfl ?_); refine ev_store1In (i := 0) HB b7 GE_g7 rfl 3 _ _ rfl rfl _ rfl (by simp) (by kernel_rfl) rfl ?_; intro w26 B26 HB26 K_w26 KO_w26))
          have q := PG.out
          have q2 := PG2.out
          have Z := HI.out.sz
          refine ⟨(KO'.out.trans KO_w26.out).from _, fun k hk => (K_w26.out.2 k (fun c => by have := HXA.out k hk; omega)).trans (hbd.out.block k (HXA.out k hk).2), ⟨(K_w26.out.2 0 (by omega)).trans (hbd.out.block 0 (by omega)), (K_w26.out.2 h1 (by omega)).trans (hbd.out.block h1 (by omega)), Nat.le_trans hbd.out.size K_w26.out.1⟩, ⟨?_, HB26, Nat.le_trans I'.sz K_w26.out.1⟩, (K_w26.out.2 D (fun c => by have := HD.out; omega)).trans ((hbd.out.block D (Array.getElem?_eq_some_iff.1 HDD.out).1).trans HDD.out)⟩
          rw [List.length_append, List.length_singleton]
          rw [hq7] at B26
          exact B26
      case don2 =>
        rintro D2 X ys W2 hD2 hX rfl ⟨hI, hDD⟩ hK2
        rw [← HN.out.1] at hI
        clear hX
        have HB := Q.out.hb.step hI.hb.out
        have b4 := Q.out.b4.below hI.hb.out
        have c7 := hI.b7.cell (i := 0) rfl
        have c5 := (Q.out.b5.below hI.hb.out).cell (i := 0) rfl
        have hee : ((N : Int) == (N : Int)) = true := beq_self_eq_true _
        have GE4 : Aside0 (w.heap.size ≤ g4) := ⟨Q.out.ge4⟩
        have HM := Aside0.mk (Marks.cons (Marks.cons (Marks.nil (m := w11.heap.size) (W := W2)) PG2.out.2.2.2 hDD (List.not_mem_nil)) (Nat.le_trans HB21.le hD2) hK2 (by rw [List.mem_singleton]; have := PG2.out.2.2.1; omega))
        clear hDD hK2 hD2 hI
        gi_wp2_with (first
          | ((with_reducible refine gate_In (Op.store 4 (.tmp 4) (.tmp 83)) rfl ?_); refine ev_store1In (i := 0) HB b4 GE4 rfl 4 _ _ rfl rfl _ rfl (by simp) (by kernel_rfl) rfl ?_; intro w30 B30 HB30 K_w30 KO_w30))
        refine leaves_marksS (S := fun A => Blk A g4 #[.bool true] 4 ∧ BelowH w A) (fun A D' hs h1 h2 => ?_) [D2, D] w30 ⟨B30, HB30⟩ (HM.out.others KO_w30.out) fun A hA => ⟨_, results_cell1 rfl _ _ g4 4 _ _ rfl hA.1 Tryd.underlying4 rfl, rfl, hA.2.out⟩
        have hg := grownBy_putObj' A D' (.deferred none)
        have hr2 : ∀ r, some D' = some r → ∃ o : Obj, A.heap[r]? = some o ∧ o.isCells = false := fun r e => by
          cases e
          exact ⟨_, h2, rfl⟩
        exact ⟨hs.1.kept hg hr2, hs.2.kept hg (Nat.le_trans Q.out.hb.le h1) (fun r e => by cases e; exact Nat.le_refl _)⟩
      case sto2 =>
        intro D2 c pre W hD2 hp hf
        exact hf.elim
  case stop =>
    rintro D c pre W hD hp ⟨rfl, hI⟩ hK
    have t0 : (kk == kk) = true := beq_self_eq_true _
    clear hp
    have HD := Aside0.mk hD
    have HKD := Aside0.mk hK
    have c7 := hI.b7.cell (i := 0) rfl
    have c3 := (Q.out.b3.below hI.hb.out).cell (i := 0) rfl
    have c5 := (Q.out.b5.below hI.hb.out).cell (i := 0) rfl
    have c6 := (Q.out.b6.below hI.hb.out).cell (i := 0) rfl
    clear hD hK
    gi_wp2_with (first
      | (gi_at_call 33; refine (callsIn_of HF (TD.out _ hI.hb)).mono ?_; rintro e w20 ⟨rfl, hb20⟩; have J := hI.below hb20; have HB := J.hb; have b7 := J.b7; have HK20 := Aside0.mk hb20; clear hb20 c7 c3 c5 c6)
      | ((with_reducible refine gate_In (Op.store 3 (.tmp 7) (.const (.int .i64 0))) rfl ?_); refine ev_store1In (i := 0) HB b7 GE_g7 rfl 3 _ _ rfl rfl (.int .i64 0) rfl (by simp) (by kernel_rfl) rfl ?_; intro w21 B21 HB21 K_w21 KO_w21; have c6 := (Q.out.b6.below HB21.out).cell (i := 0) rfl))
    have LD : D < W.heap.size := (Array.getElem?_eq_some_iff.1 HKD.out).1
    have HKD2 : Aside0 (w21.heap[D]? = some (.deferred (some []))) := ⟨KO_w21.out.same D _ ((HK20.out.block D LD).trans HKD.out) rfl⟩
    have LH2 := (Q.out.B1.below HB21.out).lt
    have P2 := (Q.out.ht.step HB21.out).pos
    have PG2 : Aside0 (w11.heap.size ≤ w21.heap.size ∧ g7 < w21.heap.size ∧ D < w21.heap.size ∧ w11.heap.size ≤ D) := ⟨⟨HB21.le, B21.lt, (Array.getElem?_eq_some_iff.1 HKD2.out).1, Nat.le_trans HBW.le HD.out⟩⟩
    clear HB K_w21 KO_w21 c6 hI J b7 LD
    refine wpIn_rangeFunc_O hro (by decide) (gf := 67) (lb := #[.pointer (some ⟨h3, 0, none⟩), .pointer (some ⟨h1, 0, none⟩)]) rfl f2 (enters_of Tryd.func67 (by kernel_rfl) rfl)
      (quotes_Texts_1.stops F HF (9 - 1) (by decide) h3 h1 s (by have := HN.out.2.2; omega) A cap w21 (Q.out.B3.below HB21.out) (Kd.C_below Q.out.hC HB21.out) Q.out.hcap (Q.out.B1.below HB21.out) (Q.out.ht.step HB21.out)) Keep2.trans (fun W l o o' hl ho hc hw => Keep2.putObj P2 LH2 W l o o' hl ho hc hw) (Below.refl _ _) (fun _ => rfl)
      (fun _ pre W' => QtI w11 g7 w21.heap.size ((pre.length : Nat) : Int) W' ∧ W'.heap[D]? = some (.deferred (some []))) (fun _ _ _ => False)
      (fun _ pre A B row hs hg hr => ⟨hs.1.kept HB21.le hg hr, (hg.block D (Array.getElem?_eq_some_iff.1 hs.2).1 (fun e => by have h := (hr D e.symm).1; have q := PG2.out; omega)).trans hs.2⟩)
      (fun _ _ _ _ _ hs _ _ => hs)
      (fun X pre A k h hk => h)
      (fun X pre A C hX h ht => ⟨h.1.turned hX ht PG2.out.2.1 HB21.le, (ht.block D (Array.getElem?_eq_some_iff.1 h.2).1 (not_mem_above hX PG2.out.2.2.1)).trans h.2⟩)
      ⟨⟨B21, HB21, Nat.le_refl _⟩, HKD2.out⟩
      (fun x a' W => ∃ gb, w21.heap.size ≤ gb ∧ Blk W gb #[.int .i64 ((x.1 : Nat) : Int), .int .i64 ((x.2 : Nat) : Int)] 30 ∧ a' = { tmps := #[.string s, .int .i64 kk, undef, .pointer (some ⟨g3, 0, none⟩), .pointer (some ⟨g4, 0, none⟩), .pointer (some ⟨g5, 0, none⟩), .pointer (some ⟨g6, 0, none⟩), .pointer (some ⟨g7, 0, none⟩), undef, .pointer (some ⟨gb, 0, none⟩), .string s, .slice A2 N cap2, .string s, .func (.func 67) #[] #[.pointer (some ⟨h3, 0, none⟩), .pointer (some ⟨h1, 0, none⟩)], .func (.func 67) #[] #[.pointer (some ⟨h3, 0, none⟩), .pointer (some ⟨h1, 0, none⟩)], .bool false, .bool false, .bool true, .bool false, .bool false, .func (.func 67) #[] #[.pointer (some ⟨h3, 0, none⟩), .pointer (some ⟨h1, 0, none⟩)], undef, undef, undef, undef, undef, undef, undef, undef, undef, undef, undef, undef, undef, undef, undef, undef, undef, undef, .int .i64 (kk), .int .i64 kk, .bool false, .bool false, undef, undef, undef, undef, .bool false, .bool false, .func (.func 67) #[] #[.pointer (some ⟨h3, 0, none⟩), .pointer (some ⟨h1, 0, none⟩)], .slice A2 N cap2, .bool true, .bool false, .bool false, .func (.func 67) #[] #[.pointer (some ⟨h3, 0, none⟩), .pointer (some ⟨h1, 0, none⟩)], .agg #[.int .i64 ((x.1 : Nat) : Int), .int .i64 ((x.2 : Nat) : Int)], undef, undef, undef, undef, undef, undef, undef, undef, undef, undef, undef, undef, undef, undef, undef, undef, undef, undef, undef, undef, undef, undef, undef, undef, undef, undef, undef, undef], defers := [] })
      (fun x a' pre A B row hs hg hr => by
        obtain ⟨gb, h1, h2, h3⟩ := hs
        exact ⟨gb, h1, h2.kept hg (fun r e => (hr r e).2), h3⟩)
      ?asg3 ?bod3 ?don3 ?sto3
    case asg3 =>
      rintro X l pre x W K hX ⟨hI, hDD⟩ hsp hK
      have HB := hI.hb
      have LDD := (Array.getElem?_eq_some_iff.1 hDD).1
      have SZ := Aside0.mk hI.sz
      have HXA := Aside0.mk hX
      clear hX hsp
      have hz : ∀ t : Array Value, (((#[55] : Array Tmp).zip (spanEnc x)).foldl (fun t (p, v) => t.setIfInBounds p v) t) = t.setIfInBounds 55 (.agg #[.int .i64 ((x.1 : Nat) : Int), .int .i64 ((x.2 : Nat) : Int)]) := fun t => by simp [spanEnc]
      rw [hz]
      simp only [List.setIfInBounds_toArray, List.set_cons_succ, List.set_cons_zero]
      clear hz
      gi_wp2_with (first
        | ((with_reducible refine gate_dstIn (N := 9) rfl ?_); refine ev_allocIn HB rfl rfl (#[.int .i64 0, .int .i64 0]) 30 ?hr ?_; (case hr => first | (go_simp; done) | (go_simp; rfl)); intro gb w14 G_gb GE_gb B_gb HBn K_gb KO_w14; clear HB; have HB := HBn; clear HBn)
        | ((with_reducible refine gate_In (Op.store 30 (.tmp 9) (.tmp 55)) rfl ?_); refine ev_storeIn HB B_gb GE_gb rfl 30 _ _ rfl rfl rfl (by kernel_rfl) rfl (by simp [Value.oneCell']) ?_; intro w15 B15 HBn K_w15 KO_w15; clear HB; have HB := HBn; clear HBn))
      have hKO := KO_w14.out.trans KO_w15.out
      have same : ∀ g, g < W.heap.size → w15.heap[g]? = W.heap[g]? := fun g h => (K_w15.out.2 g (by have := G_gb.out; omega)).trans (K_gb.out.block g h)
      have Z := SZ.out
      have q := PG.out
      have q2 := PG2.out
      refine hK _ _ (hKO.from _) (fun k hk => same k (HXA.out k hk).2) ⟨same 0 (by omega), same h1 (by omega), Nat.le_trans K_gb.out.size K_w15.out.1⟩ ?_ ⟨gb, Nat.le_trans SZ.out G_gb.out, B15, rfl⟩
      exact ⟨⟨⟨(same g7 (by omega)).trans hI.b7.out⟩, HB, Nat.le_trans Z (Nat.le_trans K_gb.out.size K_w15.out.1)⟩, (same D LDD).trans hDD⟩
    case bod3 =>
      rintro X l pre x a' W hX hl ⟨r, hr⟩ ⟨hI, hDD⟩ ⟨gb, hgb, BX, rfl⟩ hsp
      obtain ⟨hx, hlt⟩ := prefix_get hsp
      obtain (h0 | ⟨gw, cs, tw, rfl, BW, hrow⟩) := Q.out.row
      · rw [h0] at hlt
        exact absurd hlt (Nat.not_lt_zero _)
      have BWI := BW.below hI.hb.out
      obtain ⟨hc1, hc2⟩ := hrow _ _ hx
      rw [← HN.out.1] at hlt
      have HG1 := Aside0.mk hc1
      have HG2 := Aside0.mk hc2
      have HXA := Aside0.mk hX
      have HNB1 := HNB.out
      have hge : decide ((N : Int) ≤ ((pre.length : Nat) : Int)) = false ∧ decide (N ≤ pre.length) = false := ⟨decide_eq_false (by omega), decide_eq_false (by omega)⟩
      obtain ⟨hge1, hge2⟩ := hge
      have hq3 : (0 : Int) ≤ ((pre.length : Nat) : Int) := by omega
      have hq4 : ((pre.length : Nat) : Int) < ((N : Nat) : Int) := by omega
      have hq6 : IntKind.i64.wrap ((pre.length : Nat) : Int) = ((pre.length : Nat) : Int) := by rw [i64_w]; unfold wrap64; omega
      have hq7 : wrap64 (((pre.length : Nat) : Int) + 1) = ((pre.length : Nat) : Int) + 1 := by unfold wrap64; omega
      have EQ : ∀ w, (Op.equalIn 10000 30 (.agg #[.int .i64 ((x.1 : Nat) : Int), .int .i64 ((x.2 : Nat) : Int)]) (.agg #[.int .i64 ((x.1 : Nat) : Int), .int .i64 ((x.2 : Nat) : Int)])).run Tryd.prog w = .ok true w := fun w => by
        have := eqSpan ((x.1 : Nat) : Int) ((x.2 : Nat) : Int) ((x.1 : Nat) : Int) ((x.2 : Nat) : Int) w
        rw [beq_self_eq_true, beq_self_eq_true] at this
        exact this
      have hbd : Aside0 (Below W.heap.size W W.drew) := ⟨below_drew (Below.refl _ _)⟩
      have HI := Aside0.mk hI
      have HDD := Aside0.mk hDD
      clear hDD
      have I' := hI.below hbd.out
      have BX' := BX.below hbd.out
      have BW' := BWI.below hbd.out
      have LW := BW.lt
      have KO' := Aside0.mk (keepsOthers_below hbd.out)
      have HZ' := Aside0.mk hbd.out.size
      have b5' := Q.out.b5.below I'.hb.out
      have b6' := Q.out.b6.below I'.hb.out
      clear hr hl hX hsp hx hc1 hc2 hI BX HNB1 BW BWI hrow
      by_cases h3 : pre.length < 3
      · have g1 : decide (((pre.length : Nat) : Int) < 3) = true ∧ decide (pre.length < 3) = true := ⟨decide_eq_true (by omega), decide_eq_true h3⟩
        obtain ⟨g11, g12⟩ := g1
        clear h3
        gi_upto_region 17 with (fail)
        refine wpIn_region_last_drew HF (S := fun W' => Blk W' g7 #[.int .i64 ((pre.length : Nat) : Int)] 3 ∧ Blk W' g5 #[.slice (some ⟨gw, 0, none⟩) N cap2] 31 ∧ Blk W' gb #[.int .i64 ((x.1 : Nat) : Int), .int .i64 ((x.2 : Nat) : Int)] 30 ∧ Blk W' gw cs tw ∧ Blk W' g6 #[.func (.func 67) #[] #[.pointer (some ⟨h3, 0, none⟩), .pointer (some ⟨h1, 0, none⟩)]] 27) (ds := []) (by kernel_rfl) (by kernel_rfl) ⟨I'.b7, b5', BX', BW', b6'⟩ (fun hS => ?_)
        refine wpAnyLast_take (i := 0) (oi := Oper.mk _ _ _ _ _ _) rfl (by kernel_rfl) (by kernel_rfl) (by kernel_rfl) (by kernel_rfl) (by kernel_rfl) (fun _ _ _ h => h) (rg_load1 (by rfl) (fun _ hS => hS.1.cell (i := 0) rfl) 3 _ rfl rfl (fun _ => by simp [isAgg, run_underlying Tryd.underlying3])) hS ?_
        try simp only [Act.put, List.setIfInBounds_toArray, List.set_cons_zero, List.set_cons_succ]
        refine' wpAnyLast_take (i := 1) (oi := Oper.mk _ _ _ _ _ _) rfl (by kernel_rfl) (by kernel_rfl) (by kernel_rfl) (by kernel_rfl) (by kernel_rfl) (fun _ _ _ h => h) (Or.inl ⟨by rfl, ?hy53⟩) hS ?rest53
        case hy53 => (intro w hSw; (try dsimp only at hSw); first | (go_simp; done) | (go_simp; with_reducible rfl))
        try simp only [Act.put, List.setIfInBounds_toArray, List.set_cons_zero, List.set_cons_succ]
        refine' wpAnyLast_take (i := 2) (oi := Oper.mk _ _ _ _ _ _) rfl (by kernel_rfl) (by kernel_rfl) (by kernel_rfl) (by kernel_rfl) (by kernel_rfl) (fun _ _ _ h => h) (Or.inl ⟨by rfl, ?hy54⟩) hS ?rest54
        case hy54 => (intro w hSw; (try dsimp only at hSw); first | (go_simp; done) | (go_simp; with_reducible rfl))
        try simp only [Act.put, List.setIfInBounds_toArray, List.set_cons_zero, List.set_cons_succ]
        refine wpAnyLast_take (i := 3) (oi := Oper.mk _ _ _ _ _ _) rfl (by kernel_rfl) (by kernel_rfl) (by kernel_rfl) (by kernel_rfl) (by kernel_rfl) (fun _ _ _ h => h) (rg_load1 (by rfl) (fun _ hS => hS.2.2.2.2.cell (i := 0) rfl) 27 _ rfl rfl (fun _ => by simp [isAgg, run_underlying Tryd.underlying27])) hS ?_
        try simp only [Act.put, List.setIfInBounds_toArray, List.set_cons_zero, List.set_cons_succ]
        refine wpAnyLast_take (i := 4) (oi := Oper.mk _ _ _ _ _ _) rfl (by kernel_rfl) (by kernel_rfl) (by kernel_rfl) (by kernel_rfl) (by kernel_rfl) (fun _ _ _ h => h) (rg_load1 (by rfl) (fun _ hS => hS.2.1.cell (i := 0) rfl) 31 _ rfl rfl (fun _ => by simp [isAgg, run_underlying Tryd.underlying31])) hS ?_
        try simp only [Act.put, List.setIfInBounds_toArray, List.set_cons_zero, List.set_cons_succ]
        refine wpAnyLast_ready (rs := [5]) (by kernel_rfl) (by simp) ?_
        refine AllReadyL.cons (o := Oper.mk _ _ _ _ _ _) rfl (by decide) (fun K hK => ?_) ?_
        · refine rg_call (by rfl) _ _ (.bool true) (by first | (go_simp; done) | (go_simp; rfl)) (TD.out _ I'.hb) ?_
          intro W' hb
          have I2 := I'.below hb.out
          have BX2 := BX'.below hb.out
          have BW2 := BW'.below hb.out
          have b52 := b5'.below hb.out
          have b62 := b6'.below hb.out
          have KO2 := Aside0.mk (KO'.out.trans (keepsOthers_below hb.out))
          have HBD2 := Aside0.mk (hbd.out.trans (hb.out.mono hbd.out.size))
          refine hK.out _ _ ⟨I2.b7, b52, BX2, BW2, b62⟩ (fun hS => ?_)
          clear hK K hb
          try simp only [Act.put, List.setIfInBounds_toArray, List.set_cons_zero, List.set_cons_succ]
          refine' wpAnyLast_take (i := 6) (oi := Oper.mk _ _ _ _ _ _) rfl (by kernel_rfl) (by kernel_rfl) (by kernel_rfl) (by kernel_rfl) (by kernel_rfl) (fun _ _ _ h => h) (Or.inl ⟨by rfl, ?hy55⟩) hS ?rest55
          case hy55 => (intro w hSw; (try dsimp only at hSw); first | (go_simp; done) | (go_simp; with_reducible rfl))
          try simp only [Act.put, List.setIfInBounds_toArray, List.set_cons_zero, List.set_cons_succ]
          refine' wpAnyLast_take (i := 7) (oi := Oper.mk _ _ _ _ _ _) rfl (by kernel_rfl) (by kernel_rfl) (by kernel_rfl) (by kernel_rfl) (by kernel_rfl) (fun _ _ _ h => h) (Or.inl ⟨by rfl, ?hy56⟩) hS ?rest56
          case hy56 => (intro w hSw; (try dsimp only at hSw); first | (go_simp; done) | (go_simp; with_reducible rfl))
          try simp only [Act.put, List.setIfInBounds_toArray, List.set_cons_zero, List.set_cons_succ]
          refine' wpAnyLast_take (i := 8) (oi := Oper.mk _ _ _ _ _ _) rfl (by kernel_rfl) (by kernel_rfl) (by kernel_rfl) (by kernel_rfl) (by kernel_rfl) (fun _ _ _ h => h) (Or.inl ⟨by rfl, ?hy57⟩) hS ?rest57
          case hy57 => (intro w hSw; (try dsimp only at hSw); first | (go_simp; done) | (go_simp; with_reducible rfl))
          try simp only [Act.put, List.setIfInBounds_toArray, List.set_cons_zero, List.set_cons_succ]
          refine wpAnyLast_take (i := 9) (oi := Oper.mk _ _ _ _ _ _) rfl (by kernel_rfl) (by kernel_rfl) (by kernel_rfl) (by kernel_rfl) (by kernel_rfl) (fun _ _ _ h => h) (rg_load1 (by rfl) (fun _ hS => hS.1.cell (i := 0) rfl) 3 _ rfl rfl (fun _ => by simp [isAgg, run_underlying Tryd.underlying3])) hS ?_
          try simp only [Act.put, List.setIfInBounds_toArray, List.set_cons_zero, List.set_cons_succ]
          refine wpAnyLast_take (i := 10) (oi := Oper.mk _ _ _ _ _ _) rfl (by kernel_rfl) (by kernel_rfl) (by kernel_rfl) (by kernel_rfl) (by kernel_rfl) (fun _ _ _ h => h) (rg_load1 (by rfl) (fun _ hS => hS.2.1.cell (i := 0) rfl) 31 _ rfl rfl (fun _ => by simp [isAgg, run_underlying Tryd.underlying31])) hS ?_
          try simp only [Act.put, List.setIfInBounds_toArray, List.set_cons_zero, List.set_cons_succ]
          refine' wpAnyLast_take (i := 11) (oi := Oper.mk _ _ _ _ _ _) rfl (by kernel_rfl) (by kernel_rfl) (by kernel_rfl) (by kernel_rfl) (by kernel_rfl) (fun _ _ _ h => h) (Or.inl ⟨by rfl, ?hy58⟩) hS ?rest58
          case hy58 => (intro w hSw; (try dsimp only at hSw); first | (go_simp; done) | (go_simp; with_reducible rfl))
          try simp only [Act.put, List.setIfInBounds_toArray, List.set_cons_zero, List.set_cons_succ]
          refine' wpAnyLast_take (i := 12) (oi := Oper.mk _ _ _ _ _ _) rfl (by kernel_rfl) (by kernel_rfl) (by kernel_rfl) (by kernel_rfl) (by kernel_rfl) (fun _ _ _ h => h) (Or.inl ⟨by rfl, ?hy59⟩) hS ?rest59
          case hy59 => (intro w hSw; (try dsimp only at hSw); first | (go_simp; done) | (go_simp; with_reducible rfl))
          try simp only [Act.put, List.setIfInBounds_toArray, List.set_cons_zero, List.set_cons_succ]
          refine' wpAnyLast_take (i := 13) (oi := Oper.mk _ _ _ _ _ _) rfl (by kernel_rfl) (by kernel_rfl) (by kernel_rfl) (by kernel_rfl) (by kernel_rfl) (fun _ _ _ h => h) (Or.inl ⟨by rfl, ?hy60⟩) hS ?rest60
          case hy60 => (intro w hSw; (try dsimp only at hSw); first | (go_simp; done) | (go_simp; with_reducible rfl))
          try simp only [Act.put, List.setIfInBounds_toArray, List.set_cons_zero, List.set_cons_succ]
          refine' wpAnyLast_take (i := 14) (oi := Oper.mk _ _ _ _ _ _) rfl (by kernel_rfl) (by kernel_rfl) (by kernel_rfl) (by kernel_rfl) (by kernel_rfl) (fun _ _ _ h => h) (Or.inl ⟨by rfl, ?hy61⟩) hS ?rest61
          case hy61 => (intro w hSw; (try dsimp only at hSw); first | (go_simp; done) | (go_simp; with_reducible rfl))
          try simp only [Act.put, List.setIfInBounds_toArray, List.set_cons_zero, List.set_cons_succ]
          refine wpAnyLast_take (i := 15) (oi := Oper.mk _ _ _ _ _ _) rfl (by kernel_rfl) (by kernel_rfl) (by kernel_rfl) (by kernel_rfl) (by kernel_rfl) (fun _ _ _ h => h) (rg_load (by rfl) (fun _ hS => hS.2.2.1) 30 _ rfl rfl Tryd.underlying30 rfl (by kernel_rfl)) hS ?_
          try simp only [Act.put, List.setIfInBounds_toArray, List.set_cons_zero, List.set_cons_succ]
          refine wpAnyLast_take (i := 16) (oi := Oper.mk _ _ _ _ _ _) rfl (by kernel_rfl) (by kernel_rfl) (by kernel_rfl) (by kernel_rfl) (by kernel_rfl) (fun _ _ _ h => h) (rg_load1 (by rfl) (fun _ hS => hS.2.1.cell (i := 0) rfl) 31 _ rfl rfl (fun _ => by simp [isAgg, run_underlying Tryd.underlying31])) hS ?_
          try simp only [Act.put, List.setIfInBounds_toArray, List.set_cons_zero, List.set_cons_succ]
          refine wpAnyLast_take (i := 17) (oi := Oper.mk _ _ _ _ _ _) rfl (by kernel_rfl) (by kernel_rfl) (by kernel_rfl) (by kernel_rfl) (by kernel_rfl) (fun _ _ _ h => h) (rg_load1 (by rfl) (fun _ hS => hS.1.cell (i := 0) rfl) 3 _ rfl rfl (fun _ => by simp [isAgg, run_underlying Tryd.underlying3])) hS ?_
          try simp only [Act.put, List.setIfInBounds_toArray, List.set_cons_zero, List.set_cons_succ]
          refine' wpAnyLast_take (i := 18) (oi := Oper.mk _ _ _ _ _ _) rfl (by kernel_rfl) (by kernel_rfl) (by kernel_rfl) (by kernel_rfl) (by kernel_rfl) (fun _ _ _ h => h) (Or.inl ⟨by rfl, ?hy62⟩) hS ?rest62
          case hy62 => (intro w hSw; (try dsimp only at hSw); first | (go_simp; done) | (go_simp; with_reducible rfl))
          try simp only [Act.put, List.setIfInBounds_toArray, List.set_cons_zero, List.set_cons_succ]
          refine wpAnyLast_take (i := 19) (oi := Oper.mk _ _ _ _ _ _) rfl (by kernel_rfl) (by kernel_rfl) (by kernel_rfl) (by kernel_rfl) (by kernel_rfl) (fun _ _ _ h => h) (Or.inl ⟨by rfl, fun w hSw => by obtain ⟨_, _, _, hbw, _⟩ := hSw; have c1 := hbw.cell HG1.out; have c2 := hbw.cell HG2.out; first | (go_simp; done) | (go_simp; rfl)⟩) hS ?_
          try simp only [Act.put, List.setIfInBounds_toArray, List.set_cons_zero, List.set_cons_succ]
          refine' wpAnyLast_take (i := 20) (oi := Oper.mk _ _ _ _ _ _) rfl (by kernel_rfl) (by kernel_rfl) (by kernel_rfl) (by kernel_rfl) (by kernel_rfl) (fun _ _ _ h => h) (Or.inl ⟨by rfl, ?hy63⟩) hS ?rest63
          case hy63 => (intro w hSw; (try dsimp only at hSw); first | (go_simp; done) | (go_simp; with_reducible rfl))
          try simp only [Act.put, List.setIfInBounds_toArray, List.set_cons_zero, List.set_cons_succ]
          refine' wpAnyLast_take (i := 21) (oi := Oper.mk _ _ _ _ _ _) rfl (by kernel_rfl) (by kernel_rfl) (by kernel_rfl) (by kernel_rfl) (by kernel_rfl) (fun _ _ _ h => h) (Or.inl ⟨by rfl, ?hy64⟩) hS ?rest64
          case hy64 => (intro w hSw; (try dsimp only at hSw); first | (go_simp; done) | (go_simp; with_reducible rfl))
          try simp only [Act.put, List.setIfInBounds_toArray, List.set_cons_zero, List.set_cons_succ]
          refine wpAnyLast_done (by kernel_rfl) ?_ _
          refine Straight.normal ?_
          have HB := I2.hb
          have b7 := I2.b7
          have c7 := b7.cell (i := 0) rfl
          gi_wp2_with (first
            | ((with_reducible refine gate_In (Op.store 3 (.tmp 7) (.tmp 79)) rfl ?_); refine ev_store1In (i := 0) HB b7 GE_g7 rfl 3 _ _ rfl rfl _ rfl (by simp) (by kernel_rfl) rfl ?_; intro w26 B26 HB26 K_w26 KO_w26))
          have q := PG.out
          have q2 := PG2.out
          have Z := HI.out.sz
          refine ⟨(KO2.out.trans KO_w26.out).from _, fun k hk => (K_w26.out.2 k (fun c => by have := HXA.out k hk; omega)).trans (HBD2.out.block k (HXA.out k hk).2), ⟨(K_w26.out.2 0 (by omega)).trans (HBD2.out.block 0 (by omega)), (K_w26.out.2 h1 (by omega)).trans (HBD2.out.block h1 (by omega)), Nat.le_trans HBD2.out.size K_w26.out.1⟩, ⟨?_, HB26, Nat.le_trans I2.sz K_w26.out.1⟩, (K_w26.out.2 D (fun c => by have := HD.out; omega)).trans ((HBD2.out.block D (Array.getElem?_eq_some_iff.1 HDD.out).1).trans HDD.out)⟩
          rw [List.length_append, List.length_singleton]
          rw [hq7] at B26
          exact B26
        exact AllReadyL.nil
      · have g1 : decide (((pre.length : Nat) : Int) < 3) = false ∧ decide (pre.length < 3) = false := ⟨decide_eq_false (by omega), decide_eq_false h3⟩
        obtain ⟨g11, g12⟩ := g1
        clear h3
        gi_upto_region 17 with (fail)
        refine wpIn_region_last_drew HF (S := fun W' => Blk W' g7 #[.int .i64 ((pre.length : Nat) : Int)] 3 ∧ Blk W' g5 #[.slice (some ⟨gw, 0, none⟩) N cap2] 31 ∧ Blk W' gb #[.int .i64 ((x.1 : Nat) : Int), .int .i64 ((x.2 : Nat) : Int)] 30 ∧ Blk W' gw cs tw ∧ Blk W' g6 #[.func (.func 67) #[] #[.pointer (some ⟨h3, 0, none⟩), .pointer (some ⟨h1, 0, none⟩)]] 27) (ds := []) (by kernel_rfl) (by kernel_rfl) ⟨I'.b7, b5', BX', BW', b6'⟩ (fun hS => ?_)
        refine wpAnyLast_take (i := 0) (oi := Oper.mk _ _ _ _ _ _) rfl (by kernel_rfl) (by kernel_rfl) (by kernel_rfl) (by kernel_rfl) (by kernel_rfl) (fun _ _ _ h => h) (rg_load1 (by rfl) (fun _ hS => hS.1.cell (i := 0) rfl) 3 _ rfl rfl (fun _ => by simp [isAgg, run_underlying Tryd.underlying3])) hS ?_
        try simp only [Act.put, List.setIfInBounds_toArray, List.set_cons_zero, List.set_cons_succ]
        refine' wpAnyLast_take (i := 1) (oi := Oper.mk _ _ _ _ _ _) rfl (by kernel_rfl) (by kernel_rfl) (by kernel_rfl) (by kernel_rfl) (by kernel_rfl) (fun _ _ _ h => h) (Or.inl ⟨by rfl, ?hy65⟩) hS ?rest65
        case hy65 => (intro w hSw; (try dsimp only at hSw); first | (go_simp; done) | (go_simp; with_reducible rfl))
        try simp only [Act.put, List.setIfInBounds_toArray, List.set_cons_zero, List.set_cons_succ]
        refine' wpAnyLast_take (i := 2) (oi := Oper.mk _ _ _ _ _ _) rfl (by kernel_rfl) (by kernel_rfl) (by kernel_rfl) (by kernel_rfl) (by kernel_rfl) (fun _ _ _ h => h) (Or.inl ⟨by rfl, ?hy66⟩) hS ?rest66
        case hy66 => (intro w hSw; (try dsimp only at hSw); first | (go_simp; done) | (go_simp; with_reducible rfl))
        try simp only [Act.put, List.setIfInBounds_toArray, List.set_cons_zero, List.set_cons_succ]
        refine wpAnyLast_take (i := 3) (oi := Oper.mk _ _ _ _ _ _) (v := undef) rfl (by kernel_rfl) (by kernel_rfl) (by kernel_rfl) (by kernel_rfl) (by kernel_rfl) (fun _ _ _ h => h) (Or.inr ⟨by rfl, rfl⟩) hS ?_
        try simp only [Act.put, List.setIfInBounds_toArray, List.set_cons_zero, List.set_cons_succ]
        refine wpAnyLast_take (i := 4) (oi := Oper.mk _ _ _ _ _ _) (v := undef) rfl (by kernel_rfl) (by kernel_rfl) (by kernel_rfl) (by kernel_rfl) (by kernel_rfl) (fun _ _ _ h => h) (Or.inr ⟨by rfl, rfl⟩) hS ?_
        try simp only [Act.put, List.setIfInBounds_toArray, List.set_cons_zero, List.set_cons_succ]
        refine wpAnyLast_take (i := 5) (oi := Oper.mk _ _ _ _ _ _) (v := undef) rfl (by kernel_rfl) (by kernel_rfl) (by kernel_rfl) (by kernel_rfl) (by kernel_rfl) (fun _ _ _ h => h) (Or.inr ⟨by rfl, rfl⟩) hS ?_
        try simp only [Act.put, List.setIfInBounds_toArray, List.set_cons_zero, List.set_cons_succ]
        refine wpAnyLast_take (i := 6) (oi := Oper.mk _ _ _ _ _ _) (v := undef) rfl (by kernel_rfl) (by kernel_rfl) (by kernel_rfl) (by kernel_rfl) (by kernel_rfl) (fun _ _ _ h => h) (Or.inr ⟨by rfl, rfl⟩) hS ?_
        try simp only [Act.put, List.setIfInBounds_toArray, List.set_cons_zero, List.set_cons_succ]
        refine' wpAnyLast_take (i := 7) (oi := Oper.mk _ _ _ _ _ _) rfl (by kernel_rfl) (by kernel_rfl) (by kernel_rfl) (by kernel_rfl) (by kernel_rfl) (fun _ _ _ h => h) (Or.inl ⟨by rfl, ?hy67⟩) hS ?rest67
        case hy67 => (intro w hSw; (try dsimp only at hSw); first | (go_simp; done) | (go_simp; with_reducible rfl))
        try simp only [Act.put, List.setIfInBounds_toArray, List.set_cons_zero, List.set_cons_succ]
        refine' wpAnyLast_take (i := 8) (oi := Oper.mk _ _ _ _ _ _) rfl (by kernel_rfl) (by kernel_rfl) (by kernel_rfl) (by kernel_rfl) (by kernel_rfl) (fun _ _ _ h => h) (Or.inl ⟨by rfl, ?hy68⟩) hS ?rest68
        case hy68 => (intro w hSw; (try dsimp only at hSw); first | (go_simp; done) | (go_simp; with_reducible rfl))
        try simp only [Act.put, List.setIfInBounds_toArray, List.set_cons_zero, List.set_cons_succ]
        refine wpAnyLast_take (i := 9) (oi := Oper.mk _ _ _ _ _ _) rfl (by kernel_rfl) (by kernel_rfl) (by kernel_rfl) (by kernel_rfl) (by kernel_rfl) (fun _ _ _ h => h) (rg_load1 (by rfl) (fun _ hS => hS.1.cell (i := 0) rfl) 3 _ rfl rfl (fun _ => by simp [isAgg, run_underlying Tryd.underlying3])) hS ?_
        try simp only [Act.put, List.setIfInBounds_toArray, List.set_cons_zero, List.set_cons_succ]
        refine wpAnyLast_take (i := 10) (oi := Oper.mk _ _ _ _ _ _) rfl (by kernel_rfl) (by kernel_rfl) (by kernel_rfl) (by kernel_rfl) (by kernel_rfl) (fun _ _ _ h => h) (rg_load1 (by rfl) (fun _ hS => hS.2.1.cell (i := 0) rfl) 31 _ rfl rfl (fun _ => by simp [isAgg, run_underlying Tryd.underlying31])) hS ?_
        try simp only [Act.put, List.setIfInBounds_toArray, List.set_cons_zero, List.set_cons_succ]
        refine' wpAnyLast_take (i := 11) (oi := Oper.mk _ _ _ _ _ _) rfl (by kernel_rfl) (by kernel_rfl) (by kernel_rfl) (by kernel_rfl) (by kernel_rfl) (fun _ _ _ h => h) (Or.inl ⟨by rfl, ?hy69⟩) hS ?rest69
        case hy69 => (intro w hSw; (try dsimp only at hSw); first | (go_simp; done) | (go_simp; with_reducible rfl))
        try simp only [Act.put, List.setIfInBounds_toArray, List.set_cons_zero, List.set_cons_succ]
        refine' wpAnyLast_take (i := 12) (oi := Oper.mk _ _ _ _ _ _) rfl (by kernel_rfl) (by kernel_rfl) (by kernel_rfl) (by kernel_rfl) (by kernel_rfl) (fun _ _ _ h => h) (Or.inl ⟨by rfl, ?hy70⟩) hS ?rest70
        case hy70 => (intro w hSw; (try dsimp only at hSw); first | (go_simp; done) | (go_simp; with_reducible rfl))
        try simp only [Act.put, List.setIfInBounds_toArray, List.set_cons_zero, List.set_cons_succ]
        refine' wpAnyLast_take (i := 13) (oi := Oper.mk _ _ _ _ _ _) rfl (by kernel_rfl) (by kernel_rfl) (by kernel_rfl) (by kernel_rfl) (by kernel_rfl) (fun _ _ _ h => h) (Or.inl ⟨by rfl, ?hy71⟩) hS ?rest71
        case hy71 => (intro w hSw; (try dsimp only at hSw); first | (go_simp; done) | (go_simp; with_reducible rfl))
        try simp only [Act.put, List.setIfInBounds_toArray, List.set_cons_zero, List.set_cons_succ]
        refine' wpAnyLast_take (i := 14) (oi := Oper.mk _ _ _ _ _ _) rfl (by kernel_rfl) (by kernel_rfl) (by kernel_rfl) (by kernel_rfl) (by kernel_rfl) (fun _ _ _ h => h) (Or.inl ⟨by rfl, ?hy72⟩) hS ?rest72
        case hy72 => (intro w hSw; (try dsimp only at hSw); first | (go_simp; done) | (go_simp; with_reducible rfl))
        try simp only [Act.put, List.setIfInBounds_toArray, List.set_cons_zero, List.set_cons_succ]
        refine wpAnyLast_take (i := 15) (oi := Oper.mk _ _ _ _ _ _) rfl (by kernel_rfl) (by kernel_rfl) (by kernel_rfl) (by kernel_rfl) (by kernel_rfl) (fun _ _ _ h => h) (rg_load (by rfl) (fun _ hS => hS.2.2.1) 30 _ rfl rfl Tryd.underlying30 rfl (by kernel_rfl)) hS ?_
        try simp only [Act.put, List.setIfInBounds_toArray, List.set_cons_zero, List.set_cons_succ]
        refine wpAnyLast_take (i := 16) (oi := Oper.mk _ _ _ _ _ _) rfl (by kernel_rfl) (by kernel_rfl) (by kernel_rfl) (by kernel_rfl) (by kernel_rfl) (fun _ _ _ h => h) (rg_load1 (by rfl) (fun _ hS => hS.2.1.cell (i := 0) rfl) 31 _ rfl rfl (fun _ => by simp [isAgg, run_underlying Tryd.underlying31])) hS ?_
        try simp only [Act.put, List.setIfInBounds_toArray, List.set_cons_zero, List.set_cons_succ]
        refine wpAnyLast_take (i := 17) (oi := Oper.mk _ _ _ _ _ _) rfl (by kernel_rfl) (by kernel_rfl) (by kernel_rfl) (by kernel_rfl) (by kernel_rfl) (fun _ _ _ h => h) (rg_load1 (by rfl) (fun _ hS => hS.1.cell (i := 0) rfl) 3 _ rfl rfl (fun _ => by simp [isAgg, run_underlying Tryd.underlying3])) hS ?_
        try simp only [Act.put, List.setIfInBounds_toArray, List.set_cons_zero, List.set_cons_succ]
        refine' wpAnyLast_take (i := 18) (oi := Oper.mk _ _ _ _ _ _) rfl (by kernel_rfl) (by kernel_rfl) (by kernel_rfl) (by kernel_rfl) (by kernel_rfl) (fun _ _ _ h => h) (Or.inl ⟨by rfl, ?hy73⟩) hS ?rest73
        case hy73 => (intro w hSw; (try dsimp only at hSw); first | (go_simp; done) | (go_simp; with_reducible rfl))
        try simp only [Act.put, List.setIfInBounds_toArray, List.set_cons_zero, List.set_cons_succ]
        refine wpAnyLast_take (i := 19) (oi := Oper.mk _ _ _ _ _ _) rfl (by kernel_rfl) (by kernel_rfl) (by kernel_rfl) (by kernel_rfl) (by kernel_rfl) (fun _ _ _ h => h) (Or.inl ⟨by rfl, fun w hSw => by obtain ⟨_, _, _, hbw, _⟩ := hSw; have c1 := hbw.cell HG1.out; have c2 := hbw.cell HG2.out; first | (go_simp; done) | (go_simp; rfl)⟩) hS ?_
        try simp only [Act.put, List.setIfInBounds_toArray, List.set_cons_zero, List.set_cons_succ]
        refine' wpAnyLast_take (i := 20) (oi := Oper.mk _ _ _ _ _ _) rfl (by kernel_rfl) (by kernel_rfl) (by kernel_rfl) (by kernel_rfl) (by kernel_rfl) (fun _ _ _ h => h) (Or.inl ⟨by rfl, ?hy74⟩) hS ?rest74
        case hy74 => (intro w hSw; (try dsimp only at hSw); first | (go_simp; done) | (go_simp; with_reducible rfl))
        try simp only [Act.put, List.setIfInBounds_toArray, List.set_cons_zero, List.set_cons_succ]
        refine' wpAnyLast_take (i := 21) (oi := Oper.mk _ _ _ _ _ _) rfl (by kernel_rfl) (by kernel_rfl) (by kernel_rfl) (by kernel_rfl) (by kernel_rfl) (fun _ _ _ h => h) (Or.inl ⟨by rfl, ?hy75⟩) hS ?rest75
        case hy75 => (intro w hSw; (try dsimp only at hSw); first | (go_simp; done) | (go_simp; with_reducible rfl))
        try simp only [Act.put, List.setIfInBounds_toArray, List.set_cons_zero, List.set_cons_succ]
        refine wpAnyLast_done (by kernel_rfl) ?_ _
        refine Straight.normal ?_
        have HB := I'.hb
        have b7 := I'.b7
        have c7 := b7.cell (i := 0) rfl
        gi_wp2_with (first
          | ((with_reducible refine gate_In (Op.store 3 (.tmp 7) (.tmp 79)) rfl ?_); refine ev_store1In (i := 0) HB b7 GE_g7 rfl 3 _ _ rfl rfl _ rfl (by simp) (by kernel_rfl) rfl ?_; intro w26 B26 HB26 K_w26 KO_w26))
        have q := PG.out
        have q2 := PG2.out
        have Z := HI.out.sz
        refine ⟨(KO'.out.trans KO_w26.out).from _, fun k hk => (K_w26.out.2 k (fun c => by have := HXA.out k hk; omega)).trans (hbd.out.block k (HXA.out k hk).2), ⟨(K_w26.out.2 0 (by omega)).trans (hbd.out.block 0 (by omega)), (K_w26.out.2 h1 (by omega)).trans (hbd.out.block h1 (by omega)), Nat.le_trans hbd.out.size K_w26.out.1⟩, ⟨?_, HB26, Nat.le_trans I'.sz K_w26.out.1⟩, (K_w26.out.2 D (fun c => by have := HD.out; omega)).trans ((hbd.out.block D (Array.getElem?_eq_some_iff.1 HDD.out).1).trans HDD.out)⟩
        rw [List.length_append, List.length_singleton]
        rw [hq7] at B26
        exact B26
    case don3 =>
      rintro D2 X ys W2 hD2 hX rfl ⟨hI, hDD⟩ hK2
      rw [← HN.out.1] at hI
      clear hX
      have HB := Q.out.hb.step hI.hb.out
      have b4 := Q.out.b4.below hI.hb.out
      have c7 := hI.b7.cell (i := 0) rfl
      have c5 := (Q.out.b5.below hI.hb.out).cell (i := 0) rfl
      have hee : ((N : Int) == (N : Int)) = true := beq_self_eq_true _
      have GE4 : Aside0 (w.heap.size ≤ g4) := ⟨Q.out.ge4⟩
      have HM := Aside0.mk (Marks.cons (Marks.cons (Marks.nil (m := w11.heap.size) (W := W2)) PG2.out.2.2.2 hDD (List.not_mem_nil)) (Nat.le_trans HB21.le hD2) hK2 (by rw [List.mem_singleton]; have := PG2.out.2.2.1; omega))
      clear hDD hK2 hD2 hI
      gi_wp2_with (first
        | ((with_reducible refine gate_In (Op.store 4 (.tmp 4) (.tmp 83)) rfl ?_); refine ev_store1In (i := 0) HB b4 GE4 rfl 4 _ _ rfl rfl _ rfl (by simp) (by kernel_rfl) rfl ?_; intro w30 B30 HB30 K_w30 KO_w30))
      refine leaves_marksS (S := fun A => Blk A g4 #[.bool true] 4 ∧ BelowH w A) (fun A D' hs h1 h2 => ?_) [D2, D] w30 ⟨B30, HB30⟩ (HM.out.others KO_w30.out) fun A hA => ⟨_, results_cell1 rfl _ _ g4 4 _ _ rfl hA.1 Tryd.underlying4 rfl, rfl, hA.2.out⟩
      have hg := grownBy_putObj' A D' (.deferred none)
      have hr2 : ∀ r, some D' = some r → ∃ o : Obj, A.heap[r]? = some o ∧ o.isCells = false := fun r e => by
        cases e
        exact ⟨_, h2, rfl⟩
      exact ⟨hs.1.kept hg hr2, hs.2.kept hg (Nat.le_trans Q.out.hb.le h1) (fun r e => by cases e; exact Nat.le_refl _)⟩
    case sto3 =>
      intro D2 c pre W hD2 hp hf
      exact hf.elim
def quarrylaw07_QuotesTexts.f (a0 : ByteArray) (a1 : Int) : Option Bool := if a0.size ≤ 1048576 then some true else none
theorem quarrylaw07_QuotesTexts.calls (a0 : ByteArray) (a1 : Int) (r : Bool) (w : World) (hT : TabOk w) (h : quarrylaw07_QuotesTexts.f a0 a1 = some r) :
    Calls Tryd.prog 7 #[.string a0, .int .i64 a1] w fun e w' => e = .returned (.bool r) ∧ Below w.heap.size w w' := by
  unfold quarrylaw07_QuotesTexts.f at h
  by_cases hs : a0.size ≤ 1048576
  case neg => rw [if_neg hs] at h; cases h
  rw [if_pos hs] at h
  cases h
  exact quarrylaw07_QuotesTexts.true_ a0 a1 hs w hT
def quarrylaw07_QuotesTexts.Pure : Prop := ∀ (a0 : ByteArray) (a1 : Int), a0.size ≤ 1048576 → -9223372036854775808 ≤ a1 → a1 ≤ 9223372036854775807 → quarrylaw07_QuotesTexts.f a0 a1 = some true
theorem quarrylaw07_QuotesTexts.walk (P : quarrylaw07_QuotesTexts.Pure) (a0 : ByteArray) (a1 : Int) (w : World) (hT : TabOk w) (w0 : a0.size ≤ 1048576) (w1 : -9223372036854775808 ≤ a1) (w2 : a1 ≤ 9223372036854775807) :
    Calls Tryd.prog 7 #[.string a0, .int .i64 a1] w fun e w' => e = .returned (.bool true) ∧ Below w.heap.size w w' :=
  quarrylaw07_QuotesTexts.calls a0 a1 true w hT (P a0 a1 w0 w1 w2)
end


end Go.Proofs.YtadcgjmhhodnoaaDoor.PD
