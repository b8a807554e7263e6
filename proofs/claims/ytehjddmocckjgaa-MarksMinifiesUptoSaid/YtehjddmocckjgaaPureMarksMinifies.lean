/-
  MarksMinifies: for every text of at most 1048576 bytes, marks.Minify and the document's Minify are the same text; and of '{"a b" : [1,true]}' the two blanks outside of the text are left out.
-/
import Derived.Test.YtehjddmocckjgaaPKMx8
import Derived.Test.YtehjddmocckjgaaQk
namespace Go.Proofs.Ytehjddmocckjgaa.Pure
open Go Go.RowKit Go.Proofs.Ytehjddmocckjgaa.PKM Go.Proofs.YtehjddmocckjgaaW.PrintWords Go.Proofs.YtehjddmocckjgaaW.PrintLast Go.Proofs.YtehjddmocckjgaaQ
set_option linter.unusedVariables false
set_option linter.unusedSimpArgs false
theorem size_eq (n : Nat) (h : n ≤ 281474976710656) : bitmap_size.f (n : Int) = some ((nwords n : Nat) : Int) := by
  unfold bitmap_size.f
  have e1 : Int.tmod (n : Int) 64 = ((n % 64 : Nat) : Int) := rfl
  have e2 : Int.tdiv (n : Int) 64 = ((n / 64 : Nat) : Int) := rfl
  have e3 : wrap64 ((n / 64 : Nat) : Int) = ((n / 64 : Nat) : Int) := by unfold wrap64; omega
  rw [e1, e2, e3]
  have e4 : wrap64 (((n / 64 : Nat) : Int) + 1) = ((n / 64 : Nat) : Int) + 1 := by unfold wrap64; omega
  rw [e4]
  unfold nwords
  by_cases h : n % 64 = 0
  · rw [if_pos (by omega)]; congr 1; omega
  · rw [if_neg (by omega)]; congr 1; omega
/-- The bits that the last word of a row may have. -/
def tailW (n : Nat) : BitVec 64 := if n % 64 = 0 then 18446744073709551615#64 else BitVec.ofNat 64 (2 ^ (n % 64) - 1)
theorem shl_one (m : Nat) (h : m < 64) : shl .u64 1 (m : Int) = ((2 ^ m : Nat) : Int) := by
  have : ∀ m : Fin 64, shl .u64 1 ((m.val : Nat) : Int) = ((2 ^ m.val : Nat) : Int) := by decide
  exact this ⟨m, h⟩
theorem tail_eq (n : Nat) : bitmap_tail.f (n : Int) = some (iv (tailW n)) := by
  unfold bitmap_tail.f tailW
  have e1 : Int.tmod (n : Int) 64 = ((n % 64 : Nat) : Int) := rfl
  rw [e1]
  by_cases h : n % 64 = 0
  · rw [if_pos (by omega), if_pos h]; rfl
  · rw [if_neg (by omega), if_neg h, if_pos (by omega), shl_one _ (by omega)]
    have hp : 0 < 2 ^ (n % 64) := Nat.pow_pos (by decide)
    have hq : 2 ^ (n % 64) < 2 ^ 64 := Nat.pow_lt_pow_right (by decide) (by omega)
    have : ((2 ^ (n % 64) : Nat) : Int) - 1 = ((2 ^ (n % 64) - 1 : Nat) : Int) := by omega
    rw [this, wrap_nat]
    unfold iv
    rw [BitVec.toNat_ofNat]
theorem rd_words (n : Nat) (p : Nat → Bool) (k : Nat) (h : k < nwords n) : rd (wordsOf n p) (k : Int) = iv (wordAt n p k) := by
  unfold rd
  rw [Int.toNat_natCast]
  exact wordsOf_get n p k h
/-- What is told of a row of bits is well formed. -/
theorem formed_eq (n : Nat) (p : Nat → Bool) (h : n ≤ 281474976710656) : bitmap_Formed.f (n : Int) (wordsOf n p) = some true := by
  unfold bitmap_Formed.f
  rw [if_neg (by omega), size_eq n h, Option.bind_some, wordsOf_length, if_pos rfl]
  by_cases h0 : n = 0
  · rw [if_pos (by omega)]
  · have hw : 0 < nwords n := by unfold nwords; omega
    have hb : nwords n ≤ 281474976710656 := by unfold nwords; omega
    have e : wrap64 (((nwords n : Nat) : Int) - 1) = ((nwords n - 1 : Nat) : Int) := by unfold wrap64; omega
    rw [if_neg (by omega), e, if_pos (by omega), if_pos (by omega), tail_eq, Option.bind_some, rd_words n p _ (by omega), bits_andNot]
    have hz : wordAt n p (nwords n - 1) &&& ~~~tailW n = 0#64 := by
      refine BitVec.eq_of_getLsbD_eq fun i hi => ?_
      rw [BitVec.getLsbD_and, BitVec.getLsbD_not]
      unfold wordAt
      rw [word_bit]
      unfold tailW
      have hn : nwords n = (n + 63) / 64 := rfl
      by_cases g : n % 64 = 0
      · rw [if_pos g]
        have : (18446744073709551615#64).getLsbD i = true := by
          have : ∀ i : Fin 64, (18446744073709551615#64).getLsbD i.val = true := by decide
          exact this ⟨i, hi⟩
        rw [this]; simp
      · rw [if_neg g, BitVec.getLsbD_ofNat, Nat.testBit_two_pow_sub_one]
        by_cases g2 : i < n % 64
        · simp [g2, hi]
        · have : ¬ (64 * (nwords n - 1) + i < n) := by omega
          simp [this]
    rw [hz]
    rfl
theorem get_eq (n : Nat) (p : Nat → Bool) (h : n ≤ 281474976710656) (i : Nat) (hi : i < n) : bitmap_Get.f (n : Int) (wordsOf n p) (i : Int) = some (p i) := by
  unfold bitmap_Get.f
  have e1 : Int.tmod (i : Int) 64 = ((i % 64 : Nat) : Int) := rfl
  have e2 : Int.tdiv (i : Int) 64 = ((i / 64 : Nat) : Int) := rfl
  have e3 : wrap64 ((i / 64 : Nat) : Int) = ((i / 64 : Nat) : Int) := by unfold wrap64; omega
  have hn : nwords n = (n + 63) / 64 := rfl
  rw [formed_eq n p h, Option.bind_some, if_pos rfl, if_pos (by omega), if_pos (by omega), e1, e2, e3, if_pos (by omega), if_pos (by rw [wordsOf_length]; omega), if_pos (by omega), rd_words n p _ (by omega)]
  have es : shr .u64 (iv (wordAt n p (i / 64))) ((i % 64 : Nat) : Int) = iv (wordAt n p (i / 64) >>> (i % 64)) := by
    rw [← shr_iv]
    unfold shr
    rw [Int.toNat_natCast, Nat.min_eq_left (by show i % 64 ≤ 64; omega)]
  have e1' : (1 : Int) = iv (1#64) := rfl
  rw [es, e1', bits_and]
  have hb : (wordAt n p (i / 64) >>> (i % 64)) &&& 1#64 = if p i then 1#64 else 0#64 := by
    refine BitVec.eq_of_getLsbD_eq fun j hj => ?_
    rw [BitVec.getLsbD_and, BitVec.getLsbD_ushiftRight]
    unfold wordAt
    rw [word_bit]
    have h1 : (1#64).getLsbD j = decide (j = 0) := by
      have : ∀ i : Fin 64, (1#64).getLsbD i.val = decide (i.val = 0) := by decide
      exact this ⟨j, hj⟩
    rw [h1]
    by_cases g : j = 0
    · subst g
      have a1 : i % 64 + 0 < 64 := by omega
      have a2 : 64 * (i / 64) + (i % 64 + 0) = i := by omega
      rw [a2]
      rw [decide_eq_true a1, decide_eq_true hi]
      cases p i <;> rfl
    · cases p i <;> simp [g, h1]
  rw [hb]
  cases p i <;> rfl
theorem div_step (v : BitVec 64) (d : Nat) : v.toNat / 2 ^ d = 2 * (v.toNat / 2 ^ (d + 1)) + (if v.getLsbD d = true then 1 else 0) := by
  have h1 : v.toNat / 2 ^ (d + 1) = v.toNat / 2 ^ d / 2 := by rw [Nat.pow_succ, Nat.div_div_eq_div_mul]
  have h2 : v.getLsbD d = decide (v.toNat / 2 ^ d % 2 = 1) := by
    show v.toNat.testBit d = _
    rw [Nat.testBit_eq_decide_div_mod_eq]
  rw [h1, h2]
  by_cases h : v.toNat / 2 ^ d % 2 = 1
  · rw [decide_eq_true h, if_pos rfl]; omega
  · rw [decide_eq_false h, if_neg (by decide)]; omega
theorem need_eq (n : Nat) (h : n ≤ 140737488355328) : quarryref04_need.f (n : Int) = some ((nwords n : Nat) : Int) := by
  unfold quarryref04_need.f
  have e1 : Int.tmod (n : Int) 64 = ((n % 64 : Nat) : Int) := rfl
  have e2 : Int.tdiv (n : Int) 64 = ((n / 64 : Nat) : Int) := rfl
  have e3 : wrap64 ((n / 64 : Nat) : Int) = ((n / 64 : Nat) : Int) := by unfold wrap64; omega
  rw [e1, e2, e3]
  have e4 : wrap64 (((n / 64 : Nat) : Int) + 1) = ((n / 64 : Nat) : Int) + 1 := by unfold wrap64; omega
  rw [e4]
  unfold nwords
  by_cases h : n % 64 = 0
  · rw [if_pos (by omega)]; congr 1; omega
  · rw [if_neg (by omega)]; congr 1; omega
theorem of_inner (l : List Bool) (w : Nat) (hw : w ≤ 2199023255552) (z : Int) (ws : List Int) (hs : ws.length < 17592186044416) :
    ∀ (d k : Nat), d ≤ 64 → quarryref04_Of.l1 (k + d + 1) l (w : Int) (((wordAt l.length (fun i => l.getD i false) w).toNat / 2 ^ d : Nat) : Int) ((d : Int) - 1) z ws =
      quarryref04_Of.l0 k l ((w + 1 : Nat) : Int) z (ws ++ [iv (wordAt l.length (fun i => l.getD i false) w)]) := by
  intro d
  induction d with
  | zero =>
    intro k hd
    have e : wrap64 ((w : Int) + 1) = ((w + 1 : Nat) : Int) := by unfold wrap64; omega
    unfold quarryref04_Of.l1
    rw [if_neg (by omega), if_pos hs, e, Nat.pow_zero, Nat.div_one]
    rfl
  | succ d ih =>
    intro k hd
    have e0 : wrap64 (64 * (w : Int)) = 64 * (w : Int) := by unfold wrap64; omega
    have e1 : wrap64 (64 * (w : Int) + (((d + 1 : Nat) : Int) - 1)) = ((64 * w + d : Nat) : Int) := by unfold wrap64; omega
    have e2 : wrap64 ((((d + 1 : Nat) : Int) - 1) - 1) = (d : Int) - 1 := by unfold wrap64; omega
    have hst := div_step (wordAt l.length (fun i => l.getD i false) w) d
    have hlt : (wordAt l.length (fun i => l.getD i false) w).toNat / 2 ^ d < 18446744073709551616 := Nat.lt_of_le_of_lt (Nat.div_le_self _ _) (wordAt l.length (fun i => l.getD i false) w).isLt
    have hbit : (wordAt l.length (fun i => l.getD i false) w).getLsbD d = (decide (64 * w + d < l.length) && l.getD (64 * w + d) false) := by
      unfold wordAt
      rw [word_bit]
      simp [show d < 64 by omega]
    have hi := ih k (by omega)
    rw [hbit] at hst
    generalize (wordAt l.length (fun i => l.getD i false) w).toNat / 2 ^ d = X at hst hlt hi ⊢
    generalize (wordAt l.length (fun i => l.getD i false) w).toNat / 2 ^ (d + 1) = Y at hst ⊢
    have er : rdOf false l ((64 * w + d : Nat) : Int) = l.getD (64 * w + d) false := by unfold rdOf; rw [Int.toNat_natCast]
    show quarryref04_Of.l1 ((k + d + 1) + 1) l _ _ _ z ws = _
    unfold quarryref04_Of.l1
    rw [if_pos (by omega), e0, e1, e2, er]
    by_cases h : 64 * w + d < l.length
    · rw [if_pos (by omega), if_pos (by omega)]
      rw [decide_eq_true h, Bool.true_and] at hst
      by_cases g : l.getD (64 * w + d) false = true
      · rw [if_pos g] at hst ⊢
        have e3 : IntKind.u64.wrap (IntKind.u64.wrap (2 * (Y : Int)) + 1) = (X : Int) := by rw [IntKind.wrap_u64, IntKind.wrap_u64]; omega
        rw [e3]
        exact hi
      · rw [if_neg g] at hst ⊢
        have e3 : IntKind.u64.wrap (2 * (Y : Int)) = (X : Int) := by rw [IntKind.wrap_u64]; omega
        rw [e3]
        exact hi
    · rw [if_neg (by omega)]
      rw [decide_eq_false h, Bool.false_and, if_neg (by decide)] at hst
      have e3 : IntKind.u64.wrap (2 * (Y : Int)) = (X : Int) := by rw [IntKind.wrap_u64]; omega
      rw [e3]
      exact hi
theorem of_loop (l : List Bool) (hl : l.length ≤ 140737488355328) (z : Int) :
    ∀ (d i k : Nat), i + d = nwords l.length → 66 * d < k → quarryref04_Of.l0 k l (i : Int) z ((List.range i).map fun j => iv (wordAt l.length (fun i => l.getD i false) j)) = some (z, wordsOf l.length fun i => l.getD i false) := by
  have hw : nwords l.length ≤ 2199023255552 := by unfold nwords; omega
  intro d
  induction d with
  | zero =>
    intro i k hi hk
    obtain ⟨k, rfl⟩ : ∃ m, k = m + 1 := ⟨k - 1, by omega⟩
    unfold quarryref04_Of.l0
    rw [need_eq _ hl, Option.bind_some, if_neg (by omega), show i = nwords l.length by omega]
    rfl
  | succ d ih =>
    intro i k hi hk
    obtain ⟨k, rfl⟩ : ∃ m, k = (m + 64 + 1) + 1 := ⟨k - 66, by omega⟩
    unfold quarryref04_Of.l0
    rw [need_eq _ hl, Option.bind_some, if_pos (by omega)]
    have := of_inner l i (by omega) z ((List.range i).map fun j => iv (wordAt l.length (fun i => l.getD i false) j)) (by rw [List.length_map, List.length_range]; omega) 64 k (by omega)
    have e : (wordAt l.length (fun i => l.getD i false) i).toNat / 2 ^ 64 = 0 := Nat.div_eq_of_lt (wordAt l.length (fun i => l.getD i false) i).isLt
    rw [e] at this
    have h2 := ih (i + 1) k (by omega) (by omega)
    rw [List.range_succ, List.map_append] at h2
    exact this.trans h2
/-- The document's Of: the bits of a list, 64 in a word. -/
theorem of_eq (l : List Bool) (hl : l.length ≤ 140737488355328) (k : Nat) (hk : 66 * nwords l.length < k) : quarryref04_Of.f k l = some ((l.length : Int), wordsOf l.length fun i => l.getD i false) := by
  unfold quarryref04_Of.f
  exact of_loop l hl _ (nwords l.length) 0 k (by omega) (by omega)
theorem set_step {α : Type} (n : Nat) (f d : Nat → α) {i : Nat} (h : i < n) : ((List.range n).map fun j => if j < i then f j else d j).set i (f i) = (List.range n).map fun j => if j < i + 1 then f j else d j := by
  apply List.ext_getElem?
  intro j
  rw [List.getElem?_set, List.getElem?_map, List.getElem?_map, List.length_map, List.length_range]
  by_cases hj : j < n
  · rw [List.getElem?_range hj]
    by_cases e : i = j
    · subst e
      rw [if_pos rfl, if_pos hj]
      simp
    · rw [if_neg e]
      by_cases g : j < i
      · simp [g, show j < i + 1 by omega]
      · simp [g, show ¬ j < i + 1 by omega]
  · rw [List.getElem?_eq_none (by rw [List.length_range]; omega), if_neg (by omega)]
    simp
theorem set_done {α : Type} (n : Nat) (f d : Nat → α) : ((List.range n).map fun j => if j < n then f j else d j) = (List.range n).map f := List.map_congr_left fun j hj => if_pos (List.mem_range.1 hj)
theorem w64s (i n : Nat) (h : i < n) (hn : n ≤ 281474976702464) : wrap64 ((i : Int) + 1) = ((i + 1 : Nat) : Int) := by unfold wrap64; omega
theorem marks7_loop (s : ByteArray) (hn : s.size ≤ 140737488351232) :
    ∀ (d i k : Nat), i + d = s.size → d < k → quarryref07_marks.l0 k s ((List.range s.size).map fun j => if j < i then mkq s j else false) (esc s false i) (i : Int) = some ((List.range s.size).map (mkq s)) := by
  intro d
  induction d with
  | zero =>
    intro i k hi hk
    obtain ⟨k, rfl⟩ : ∃ m, k = m + 1 := ⟨k - 1, by omega⟩
    unfold quarryref07_marks.l0
    rw [if_neg (by omega), show i = s.size by omega, set_done]
  | succ d ih =>
    intro i k hi hk
    obtain ⟨k, rfl⟩ : ∃ m, k = m + 1 := ⟨k - 1, by omega⟩
    have h2 := ih (i + 1) k (by omega) (by omega)
    rw [← set_step s.size (mkq s) (fun _ => false) (show i < s.size by omega)] at h2
    have hl : ((List.range s.size).map fun j => if j < i then mkq s j else false).length = s.size := by simp
    unfold quarryref07_marks.l0
    rw [if_pos (by omega), if_pos (by omega), w64s i s.size (by omega) (by omega)]
    have he : ∀ b : Bool, decide (bt s (i : Int) = 34) = b → mkq s i = (b && !esc s false i) := fun b hb => by unfold mkq; rw [hb]
    have hx : esc s false (i + 1) = (decide (bt s (i : Int) = 92) && !esc s false i) := rfl
    by_cases h34 : bt s (i : Int) = 34
    · rw [he true (decide_eq_true h34), Bool.true_and, hx, decide_eq_false (by omega), Bool.false_and] at h2
      rw [if_pos h34, if_pos (by rw [hl]; omega), Option.bind_some, Int.toNat_natCast, if_neg (by omega)]
      exact h2
    · rw [he false (decide_eq_false h34), Bool.false_and, hx] at h2
      rw [if_neg h34, if_pos (by rw [hl]; omega), Option.bind_some, Int.toNat_natCast]
      by_cases h92 : bt s (i : Int) = 92
      · rw [decide_eq_true h92, Bool.true_and] at h2
        rw [if_pos h92]
        exact h2
      · rw [decide_eq_false h92, Bool.false_and] at h2
        rw [if_neg h92]
        exact h2
theorem marks7_eq (s : ByteArray) (hn : s.size ≤ 140737488351232) (k : Nat) (hk : s.size < k) : quarryref07_marks.f k s = some ((List.range s.size).map (mkq s)) := by
  have h := marks7_loop s hn s.size 0 k (by omega) hk
  unfold quarryref07_marks.f
  rw [if_pos (by omega), Int.toNat_natCast, if_pos (by omega)]
  have e : ((List.range s.size).map fun j => if j < 0 then mkq s j else false) = List.replicate s.size false := by
    apply List.ext_getElem? 
    intro j
    rw [List.getElem?_map, List.getElem?_replicate]
    by_cases hj : j < s.size
    · rw [List.getElem?_range hj, if_pos hj]
      simp
    · rw [List.getElem?_eq_none (by rw [List.length_range]; omega), if_neg hj]
      rfl
  rw [e] at h
  exact h
theorem inside7_loop (s : ByteArray) (hn : s.size ≤ 140737488351232) :
    ∀ (d i k : Nat), i + d = s.size → d < k → quarryref07_inside.l0 k ((List.range s.size).map fun j => if j < i then insS s j else mkq s j) (par (mkq s) i) (i : Int) = some ((List.range s.size).map (insS s)) := by
  intro d
  induction d with
  | zero =>
    intro i k hi hk
    obtain ⟨k, rfl⟩ : ∃ m, k = m + 1 := ⟨k - 1, by omega⟩
    unfold quarryref07_inside.l0
    rw [if_neg (by simp; omega), show i = s.size by omega, set_done]
  | succ d ih =>
    intro i k hi hk
    obtain ⟨k, rfl⟩ : ∃ m, k = m + 1 := ⟨k - 1, by omega⟩
    have h2 := ih (i + 1) k (by omega) (by omega)
    rw [← set_step s.size (insS s) (mkq s) (show i < s.size by omega)] at h2
    have hr : rdOf false ((List.range s.size).map fun j => if j < i then insS s j else mkq s j) (i : Int) = mkq s i := by
      unfold rdOf
      rw [Int.toNat_natCast, List.getD_eq_getElem?_getD, List.getElem?_map, List.getElem?_range (by omega)]
      simp
    have hi1 : insS s i = (par (mkq s) i ^^ mkq s i) := rfl
    have hp : par (mkq s) (i + 1) = (par (mkq s) i ^^ mkq s i) := rfl
    unfold quarryref07_inside.l0
    rw [if_pos (by simp; omega), if_pos (by omega), w64s i s.size (by omega) (by omega), hr, Int.toNat_natCast]
    rw [hi1, hp] at h2
    cases h : mkq s i
    · rw [h, Bool.xor_false] at h2
      rw [if_neg (by decide)]
      exact h2
    · rw [h, Bool.xor_true] at h2
      rw [if_pos rfl]
      exact h2
theorem inside7_eq (s : ByteArray) (hn : s.size ≤ 140737488351232) (k : Nat) (hk : s.size < k) : quarryref07_inside.f k s = some ((List.range s.size).map (insS s)) := by
  have h := inside7_loop s hn s.size 0 k (by omega) hk
  unfold quarryref07_inside.f
  rw [marks7_eq s hn k hk, Option.bind_some]
  exact h
theorem of_map (n : Nat) (q : Nat → Bool) : (wordsOf n fun i => ((List.range n).map q).getD i false) = wordsOf n q := wordsOf_ext fun i hi => by
  rw [List.getD_eq_getElem?_getD, List.getElem?_map, List.getElem?_range hi]
  rfl
theorem Marks7_eq (s : ByteArray) (hn : s.size ≤ 140737488351232) (k : Nat) (hk : 67 * s.size + 67 < k) : quarryref07_Marks.f k s = some ((s.size : Int), wordsOf s.size (mkq s)) := by
  have hw : nwords s.size ≤ s.size + 1 := by unfold nwords; omega
  unfold quarryref07_Marks.f
  rw [marks7_eq s hn k (by omega), Option.bind_some, of_eq _ (by rw [List.length_map, List.length_range]; omega) k (by rw [List.length_map, List.length_range]; omega), Option.bind_some, List.length_map, List.length_range, of_map]
theorem Inside7_eq (s : ByteArray) (hn : s.size ≤ 140737488351232) (k : Nat) (hk : 67 * s.size + 67 < k) : quarryref07_Inside.f k s = some ((s.size : Int), wordsOf s.size (insS s)) := by
  have hw : nwords s.size ≤ s.size + 1 := by unfold nwords; omega
  unfold quarryref07_Inside.f
  rw [inside7_eq s hn k (by omega), Option.bind_some, of_eq _ (by rw [List.length_map, List.length_range]; omega) k (by rw [List.length_map, List.length_range]; omega), Option.bind_some, List.length_map, List.length_range, of_map]
theorem bit_of (n : Nat) (p : Nat → Bool) {i : Nat} (hi : i < n) : (bits .and .u64 (shr .u64 (iv (wordAt n p (i / 64))) ((i % 64 : Nat) : Int)) 1 == 1) = p i := by
  have es : shr .u64 (iv (wordAt n p (i / 64))) ((i % 64 : Nat) : Int) = iv (wordAt n p (i / 64)) / 2 ^ (i % 64) := by
    unfold shr
    rw [Int.toNat_natCast, Nat.min_eq_left (by show i % 64 ≤ 64; omega)]
  rw [es, wordAt, bit_at _ (Nat.mod_lt _ (by decide)), show 64 * (i / 64) + i % 64 = i by omega, decide_eq_true hi, Bool.true_and]
theorem u64w (i : Nat) : IntKind.u64.wrap ((i % 64 : Nat) : Int) = ((i % 64 : Nat) : Int) := by
  rw [wrap_nat, Nat.mod_eq_of_lt (by omega)]
theorem set8_eq (z : Int) (n : Nat) (p : Nat → Bool) (hn : n ≤ 281474976702464) (i : Nat) (hi : i < n) : quarryref08_set.f z (wordsOf n p) (i : Int) = some (p i) := by
  have e1 : Int.tmod (i : Int) 64 = ((i % 64 : Nat) : Int) := rfl
  have e2 : Int.tdiv (i : Int) 64 = ((i / 64 : Nat) : Int) := rfl
  have e3 : wrap64 ((i / 64 : Nat) : Int) = ((i / 64 : Nat) : Int) := by unfold wrap64; omega
  have hw : nwords n = (n + 63) / 64 := rfl
  unfold quarryref08_set.f
  rw [e1, e2, e3, u64w, if_pos (by omega), if_pos (by rw [wordsOf_length]; omega), if_pos (by omega), rd_words n p _ (by omega), bit_of n p hi]
/-- What a byte is. -/
def kindB (s : ByteArray) (i : Nat) : Int := if mkq s i && insS s i then 3 else if mkq s i then 4 else if insS s i then 5 else if sgx (bt s (i : Int)).toNat then 1 else if blx (bt s (i : Int)).toNat then 2 else 6
theorem sgx_int {b : Int} (h : 0 ≤ b ∧ b ≤ 255) : sgx b.toNat = (b == 123 || b == 125 || b == 91 || b == 93 || b == 58 || b == 44) := by
  obtain ⟨n, rfl⟩ : ∃ n : Nat, b = n := ⟨b.toNat, by omega⟩
  rw [Int.toNat_natCast]
  unfold sgx
  rw [Bool.eq_iff_iff]
  simp only [Bool.or_eq_true, beq_iff_eq]
  omega
theorem blx_int {b : Int} (h : 0 ≤ b ∧ b ≤ 255) : blx b.toNat = (b == 32 || b == 9 || b == 10 || b == 13) := by
  obtain ⟨n, rfl⟩ : ∃ n : Nat, b = n := ⟨b.toNat, by omega⟩
  rw [Int.toNat_natCast]
  unfold blx
  rw [Bool.eq_iff_iff]
  simp only [Bool.or_eq_true, beq_iff_eq]
  omega
theorem bytes_end (s : ByteArray) (hn : s.size ≤ 140737488351232) (i k : Nat) (hi : i < s.size) (z1 z2 : Int) (m1 m2 : List Int) (v : Int) (hv : kindB s i = v)
    (R : Option (List Int)) (h : quarryref08_Bytes.l0 k s ((List.range (i + 1)).map (kindB s)) ((i + 1 : Nat) : Int) z1 m1 z2 m2 = R) :
    (if ((List.range i).map (kindB s)).length < 17592186044416 then quarryref08_Bytes.l0 k s ((List.range i).map (kindB s) ++ [v]) (wrap64 ((i : Int) + 1)) z1 m1 z2 m2 else none) = R ∨ 17592186044416 ≤ i := by
  by_cases g : i < 17592186044416
  · left
    rw [if_pos (by rw [List.length_map, List.length_range]; exact g), w64s i s.size hi (by omega), ← hv]
    rw [List.range_succ, List.map_append] at h
    exact h
  · exact .inr (by omega)
theorem bytes_step2 (s : ByteArray) (i k : Nat) (z1 z2 : Int) (m1 m2 : List Int) (R : Option (List Int))
    (h : ∀ v, kindB s i = v → (if ((List.range i).map (kindB s)).length < 17592186044416 then quarryref08_Bytes.l0 k s ((List.range i).map (kindB s) ++ [v]) (wrap64 ((i : Int) + 1)) z1 m1 z2 m2 else none) = R)
    (h0 : mkq s i = false) (h1 : insS s i = false) (x : Bool) (hx : x = sgx (bt s (i : Int)).toNat) :
    quarryref08_Bytes.j2 (k + 1) s ((List.range i).map (kindB s)) (i : Int) (bt s (i : Int)) x z1 m1 z2 m2 = R := by
  have hb := blx_int (bt_range s (i : Int))
  unfold quarryref08_Bytes.j2
  cases hx1 : x with
  | true =>
    rw [if_pos rfl]
    exact h 1 (by unfold kindB; rw [h0, h1, ← hx, hx1]; rfl)
  | false =>
    rw [if_neg (by decide)]
    have hk : kindB s i = if blx (bt s (i : Int)).toNat then 2 else 6 := by unfold kindB; rw [h0, h1, ← hx, hx1]; rfl
    by_cases g1 : bt s (i : Int) = 32
    · rw [if_pos g1]; exact h 2 (by rw [hk, hb, g1]; rfl)
    rw [if_neg g1]
    by_cases g2 : bt s (i : Int) = 9
    · rw [if_pos g2]; exact h 2 (by rw [hk, hb, g2]; rfl)
    rw [if_neg g2]
    by_cases g3 : bt s (i : Int) = 10
    · rw [if_pos g3]; exact h 2 (by rw [hk, hb, g3]; rfl)
    rw [if_neg g3]
    by_cases g4 : bt s (i : Int) = 13
    · rw [if_pos g4]; exact h 2 (by rw [hk, hb, g4]; rfl)
    rw [if_neg g4]
    exact h 6 (by rw [hk, hb]; simp [g1, g2, g3, g4])
theorem bytes_step1 (s : ByteArray) (hn : s.size ≤ 140737488351232) (i k : Nat) (hi : i < s.size) (z1 z2 : Int) (R : Option (List Int)) (q : Bool) (hq : q = (mkq s i && insS s i))
    (h : ∀ k' v, k' = k ∨ k' = k + 1 → kindB s i = v → (if ((List.range i).map (kindB s)).length < 17592186044416 then quarryref08_Bytes.l0 k' s ((List.range i).map (kindB s) ++ [v]) (wrap64 ((i : Int) + 1)) z1 (wordsOf s.size (mkq s)) z2 (wordsOf s.size (insS s)) else none) = R) :
    quarryref08_Bytes.j1 (k + 2) s ((List.range i).map (kindB s)) (i : Int) (bt s (i : Int)) q z1 (wordsOf s.size (mkq s)) z2 (wordsOf s.size (insS s)) = R := by
  have hs := sgx_int (bt_range s (i : Int))
  unfold quarryref08_Bytes.j1
  cases hq1 : q with
  | true =>
    rw [if_pos rfl]
    exact h _ 3 (.inr rfl) (by unfold kindB; rw [← hq, hq1]; rfl)
  | false =>
    rw [if_neg (by decide), set8_eq _ _ _ (by omega) i hi, Option.bind_some]
    have hk : kindB s i = if mkq s i then 4 else if insS s i then 5 else if sgx (bt s (i : Int)).toNat then 1 else if blx (bt s (i : Int)).toNat then 2 else 6 := by unfold kindB; rw [← hq, hq1]; rfl
    by_cases hm : mkq s i = true
    · rw [if_pos hm]
      exact h _ 4 (.inr rfl) (by rw [hk, hm]; rfl)
    have hm0 : mkq s i = false := by simpa using hm
    rw [if_neg hm, set8_eq _ _ _ (by omega) i hi, Option.bind_some]
    by_cases hin : insS s i = true
    · rw [if_pos hin]
      exact h _ 5 (.inr rfl) (by rw [hk, hm0, hin]; rfl)
    have hin0 : insS s i = false := by simpa using hin
    rw [if_neg hin]
    have st := bytes_step2 s i k z1 z2 (wordsOf s.size (mkq s)) (wordsOf s.size (insS s)) R (fun v hv => h _ v (.inl rfl) hv) hm0 hin0
    by_cases g1 : bt s (i : Int) = 123
    · rw [if_pos g1]; exact st true (by rw [hs, g1]; rfl)
    rw [if_neg g1]
    by_cases g2 : bt s (i : Int) = 125
    · rw [if_pos g2]; exact st true (by rw [hs, g2]; rfl)
    rw [if_neg g2]
    by_cases g3 : bt s (i : Int) = 91
    · rw [if_pos g3]; exact st true (by rw [hs, g3]; rfl)
    rw [if_neg g3]
    by_cases g4 : bt s (i : Int) = 93
    · rw [if_pos g4]; exact st true (by rw [hs, g4]; rfl)
    rw [if_neg g4]
    by_cases g5 : bt s (i : Int) = 58
    · rw [if_pos g5]; exact st true (by rw [hs, g5]; rfl)
    rw [if_neg g5]
    exact st _ (by rw [hs]; simp [g1, g2, g3, g4, g5])
theorem bytes_loop (s : ByteArray) (hn : s.size ≤ 17592186044416) (z1 z2 : Int) :
    ∀ (d i k : Nat), i + d = s.size → 3 * d < k → quarryref08_Bytes.l0 k s ((List.range i).map (kindB s)) (i : Int) z1 (wordsOf s.size (mkq s)) z2 (wordsOf s.size (insS s)) = some ((List.range s.size).map (kindB s)) := by
  intro d
  induction d with
  | zero =>
    intro i k hi hk
    obtain ⟨k, rfl⟩ : ∃ m, k = m + 1 := ⟨k - 1, by omega⟩
    unfold quarryref08_Bytes.l0
    rw [if_neg (by omega), show i = s.size by omega]
  | succ d ih =>
    intro i k hi hk
    obtain ⟨k, rfl⟩ : ∃ m, k = (m + 2) + 1 := ⟨k - 3, by omega⟩
    have hend : ∀ k' v, k' = k ∨ k' = k + 1 → kindB s i = v → (if ((List.range i).map (kindB s)).length < 17592186044416 then quarryref08_Bytes.l0 k' s ((List.range i).map (kindB s) ++ [v]) (wrap64 ((i : Int) + 1)) z1 (wordsOf s.size (mkq s)) z2 (wordsOf s.size (insS s)) else none) = some ((List.range s.size).map (kindB s)) := fun k' v hk' hv => by
      rcases bytes_end s (by omega) i k' (by omega) z1 z2 _ _ v hv _ (ih (i + 1) k' (by omega) (by omega)) with h | h
      · exact h
      · omega
    unfold quarryref08_Bytes.l0
    rw [if_pos (by omega), if_pos (by omega), set8_eq _ _ _ (by omega) i (by omega), Option.bind_some]
    by_cases hm : mkq s i = true
    · rw [if_pos hm, set8_eq _ _ _ (by omega) i (by omega), Option.bind_some]
      exact bytes_step1 s (by omega) i k (by omega) z1 z2 _ _ (by rw [hm, Bool.true_and]) hend
    · rw [if_neg hm]
      exact bytes_step1 s (by omega) i k (by omega) z1 z2 _ _ (by simp [hm]) hend
theorem bytes_eq (s : ByteArray) (hn : s.size ≤ 17592186044416) (k : Nat) (hk : 67 * s.size + 67 < k) : quarryref08_Bytes.f k s = some ((List.range s.size).map (kindB s)) := by
  unfold quarryref08_Bytes.f
  rw [Marks7_eq s (by omega) k hk, Option.bind_some, Inside7_eq s (by omega) k hk, Option.bind_some]
  exact bytes_loop s hn _ _ s.size 0 k (by omega) (by omega)
/-- Is the byte a blank outside? -/
def isB (s : ByteArray) (i : Nat) : Bool := decide (kindB s i = 2)
theorem isB_eq (s : ByteArray) (i : Nat) : isB s i = blq s i := by
  unfold isB kindB blq outq
  cases hm : mkq s i <;> cases hn : insS s i <;> simp
  cases hs : sgx (bt s (i : Int)).toNat
  · cases hb : blx (bt s (i : Int)).toNat <;> simp
  · rw [blx_of_sgx hs]; simp
theorem prog_loop (s : ByteArray) (hn : s.size ≤ 1048576) (z : Int) :
    ∀ (d i k : Nat), i + d = nwords s.size → d < k → marks_Blanks.l0 k (lookL s) ((nwords s.size : Nat) : Int) (i : Int) z ((List.range i).map fun j => iv (wordAt s.size (blq s) j)) = some (z, wordsOf s.size (blq s)) := by
  have hw : nwords s.size ≤ 1048576 := by unfold nwords; omega
  have hl : (lookL s).length = nwords s.size := by simp [lookL]
  intro d
  induction d with
  | zero =>
    intro i k hi hk
    obtain ⟨k, rfl⟩ : ∃ m, k = m + 1 := ⟨k - 1, by omega⟩
    unfold marks_Blanks.l0
    rw [if_neg (by omega), show i = nwords s.size by omega]
    rfl
  | succ d ih =>
    intro i k hi hk
    obtain ⟨k, rfl⟩ : ∃ m, k = m + 1 := ⟨k - 1, by omega⟩
    have h2 := ih (i + 1) k (by omega) (by omega)
    rw [List.range_succ, List.map_append] at h2
    have hr : rd_T35 (lookL s) (i : Int) = rowS s i := by
      unfold rd_T35 lookL
      rw [Int.toNat_natCast, List.getD_eq_getElem?_getD, List.getElem?_map, List.getElem?_range (by omega)]
      rfl
    unfold marks_Blanks.l0
    rw [if_pos (by omega), if_pos (by omega), if_pos (by rw [hl]; omega), if_pos (by rw [List.length_map, List.length_range]; omega), w64s i (nwords s.size) (by omega) (by omega), hr]
    exact h2
theorem blanks_eq (s : ByteArray) (hn : s.size ≤ 1048576) (k : Nat) (hk : 67 * s.size + 67 < k) : marks_Blanks.f k s = some ((s.size : Int), wordsOf s.size (blq s)) := by
  have hw : nwords s.size ≤ s.size + 1 := by unfold nwords; omega
  unfold marks_Blanks.f marks_look.f
  rw [if_pos (by omega), Option.bind_some, show (lookL s).length = nwords s.size by simp [lookL]]
  exact prog_loop s hn s.size (nwords s.size) 0 k (by omega) (by omega)
/-- The bytes that are no blanks outside. -/
def minB (s : ByteArray) (i : Nat) : List Int := ((List.range i).filter fun j => !blq s j).map fun (j : Nat) => bt s (j : Int)
theorem minB_succ (s : ByteArray) (i : Nat) : minB s (i + 1) = if blq s i then minB s i else minB s i ++ [bt s (i : Int)] := by
  unfold minB
  rw [List.range_succ, List.filter_append, List.map_append]
  cases h : blq s i <;> simp [h]
theorem minB_le (s : ByteArray) (i : Nat) : (minB s i).length ≤ i := by
  unfold minB
  rw [List.length_map]
  have := List.length_filter_le (fun j => !blq s j) (List.range i)
  rw [List.length_range] at this
  exact this
theorem min_l (s : ByteArray) (hn : s.size ≤ 1048576) : ∀ i, i ≤ s.size → marks_Minify.l s (s.size : Int) (wordsOf s.size (blq s)) i = some (minB s i) := by
  intro i
  induction i with
  | zero => exact fun _ => rfl
  | succ i ih =>
    intro hi
    unfold marks_Minify.l
    rw [ih (by omega), Option.bind_some, get_eq _ _ (by omega) i (by omega), Option.bind_some, minB_succ]
theorem min_eq (s : ByteArray) (hn : s.size ≤ 1048576) (k : Nat) (hk : 67 * s.size + 67 < k) : marks_Minify.f k s = some (strOfNums (minB s s.size)) := by
  unfold marks_Minify.f
  rw [if_pos (by omega), blanks_eq s hn k hk, Option.bind_some]
  simp only []
  rw [min_l s hn s.size (Nat.le_refl _), Option.bind_some]
theorem refmin_loop (s : ByteArray) (hn : s.size ≤ 1048576) :
    ∀ (d i k : Nat), i + d = s.size → d < k → quarryref08_Minify.l0 k s ((List.range s.size).map (kindB s)) (minB s i) (i : Int) = some (strOfNums (minB s s.size)) := by
  intro d
  induction d with
  | zero =>
    intro i k hi hk
    obtain ⟨k, rfl⟩ : ∃ m, k = m + 1 := ⟨k - 1, by omega⟩
    unfold quarryref08_Minify.l0
    rw [if_neg (by rw [List.length_map, List.length_range]; omega), show i = s.size by omega]
  | succ d ih =>
    intro i k hi hk
    obtain ⟨k, rfl⟩ : ∃ m, k = m + 1 := ⟨k - 1, by omega⟩
    have h2 := ih (i + 1) k (by omega) (by omega)
    have hl := minB_le s i
    have hr : rd ((List.range s.size).map (kindB s)) (i : Int) = kindB s i := by
      unfold rd
      rw [Int.toNat_natCast, List.getD_eq_getElem?_getD, List.getElem?_map, List.getElem?_range (by omega)]
      rfl
    unfold quarryref08_Minify.l0
    rw [if_pos (by rw [List.length_map, List.length_range]; omega), if_pos (by omega), hr, w64s i s.size (by omega) (by omega)]
    rw [minB_succ, ← isB_eq] at h2
    by_cases h : kindB s i = 2
    · rw [show isB s i = true from decide_eq_true h, if_pos rfl] at h2
      rw [if_pos h]
      exact h2
    · rw [show isB s i = false from decide_eq_false h, if_neg (by decide)] at h2
      rw [if_neg h, if_pos (by omega), if_pos (by omega)]
      exact h2
theorem refmin_eq (s : ByteArray) (hn : s.size ≤ 1048576) (k : Nat) (hk : 67 * s.size + 67 < k) : quarryref08_Minify.f k s = some (strOfNums (minB s s.size)) := by
  unfold quarryref08_Minify.f
  rw [bytes_eq s (by omega) k hk, Option.bind_some]
  exact refmin_loop s hn s.size 0 k (by omega) (by omega)
theorem small_min : (strOfNums (minB (⟨#[123, 34, 97, 32, 98, 34, 32, 58, 32, 91, 49, 44, 116, 114, 117, 101, 93, 125]⟩ : ByteArray) 18)).toList = ([123, 34, 97, 32, 98, 34, 58, 91, 49, 44, 116, 114, 117, 101, 93, 125] : List UInt8) := by decide +kernel
theorem MarksMinifies (s : ByteArray) (hn : s.size ≤ 1048576) : ∃ k, quarrylaw08_MarksMinifies.f k s = some true := by
  refine ⟨67 * s.size + 2000, ?_⟩
  have h18 : (⟨#[123, 34, 97, 32, 98, 34, 32, 58, 32, 91, 49, 44, 116, 114, 117, 101, 93, 125]⟩ : ByteArray).size = 18 := rfl
  unfold quarrylaw08_MarksMinifies.f
  rw [min_eq _ (by rw [h18]; omega) _ (by rw [h18]; omega), Option.bind_some, h18, if_pos small_min, min_eq s hn _ (by omega), Option.bind_some, refmin_eq s hn _ (by omega), Option.bind_some, beq_self_eq_true]

end Go.Proofs.Ytehjddmocckjgaa.Pure
