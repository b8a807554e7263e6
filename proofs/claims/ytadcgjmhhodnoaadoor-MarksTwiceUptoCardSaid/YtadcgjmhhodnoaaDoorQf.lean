/-
  Plain facts on marks and on what stands between them (quotes): parity, word by word. No program in sight.
-/
import Derived.Test.YtadcgjmhhodnoaaDoorQc
import Derived.Test.YtadcgjmhhodnoaaDoorQd
namespace Go.Proofs.YtadcgjmhhodnoaaDoorQ
open Go Go.RowKit Go.Proofs.YtadcgjmhhodnoaaDoorW.PrintWords

/-- Is an odd number of the first n set? -/
def par (q : Nat → Bool) : Nat → Bool
  | 0 => false
  | n + 1 => par q n ^^ q n
theorem par_succ (q : Nat → Bool) (n : Nat) : par q (n + 1) = (par q n ^^ q n) := rfl
theorem par_congr {q r : Nat → Bool} : ∀ n, (∀ i, i < n → q i = r i) → par q n = par r n
  | 0, _ => rfl
  | n + 1, h => by rw [par_succ, par_succ, par_congr n fun i hi => h i (by omega), h n (by omega)]
theorem par_add (q : Nat → Bool) (m : Nat) : ∀ n, par q (m + n) = (par q m ^^ par (fun i => q (m + i)) n)
  | 0 => by simp [par]
  | n + 1 => by rw [← Nat.add_assoc, par_succ, par_add q m n, par_succ, Bool.xor_assoc]
/-- The parity of m bits, up to i. -/
def px (q : Nat → Bool) (m i : Nat) : Bool := par q (i + 1) ^^ par q (i + 1 - m)
theorem px_one (q : Nat → Bool) (i : Nat) : px q 1 i = q i := by
  unfold px
  rw [Nat.add_sub_cancel, par_succ]
  cases par q i <;> simp
theorem px_all (q : Nat → Bool) {i : Nat} (h : i < 64) : px q 64 i = par q (i + 1) := by
  unfold px
  rw [show i + 1 - 64 = 0 by omega]
  simp [par]
theorem px_word (q : Nat → Bool) (m : Nat) (h1 : 1 ≤ m) : word (px q m) ^^^ (word (px q m) <<< m) = word (px q (2 * m)) := by
  apply eq_word
  intro i hi
  rw [BitVec.getLsbD_xor, BitVec.getLsbD_shiftLeft, word_bit, word_bit, decide_eq_true hi, decide_eq_true (show i - m < 64 by omega)]
  unfold px
  by_cases h : i < m
  · rw [decide_eq_true h, show i + 1 - m = 0 by omega, show i + 1 - 2 * m = 0 by omega]
    simp [par]
  · rw [decide_eq_false h, show i - m + 1 = i + 1 - m by omega, show i + 1 - m - m = i + 1 - 2 * m by omega]
    simp
theorem px_step (q : Nat → Bool) (m : Nat) (h1 : 1 ≤ m) (z : Int) (hz : z = 2 ^ m) : bits .xor .u64 (iv (word (px q m))) (IntKind.u64.wrap (iv (word (px q m)) * z)) = iv (word (px q (2 * m))) := by
  subst hz
  rw [wrap_shl, bits_xor, px_word q m h1]
theorem px_start (q : Nat → Bool) : word (px q 1) = word q := word_ext fun i _ => px_one q i
theorem px_end (q : Nat → Bool) : word (px q 64) = word fun i => par q (i + 1) := word_ext fun _ hi => px_all q hi
/-- The state between two words. -/
def openW (o : Bool) : BitVec 64 := word fun _ => o
theorem openW_no : iv (openW false) = 0 := word_none fun _ _ => rfl
theorem in_word (q : Nat → Bool) (o : Bool) : bits .xor .u64 (iv (word (px q 64))) (iv (openW o)) = iv (word fun j => par q (j + 1) ^^ o) := by
  rw [px_end, bits_xor]
  apply congrArg iv
  apply eq_word
  intro i hi
  rw [BitVec.getLsbD_xor, openW, word_bit, word_bit, decide_eq_true hi]
  rfl
theorem top_word (p : Nat → Bool) : iv (word p) / 9223372036854775808 = if p 63 then 1 else 0 := by
  have h : (9223372036854775808 : Int) = 2 ^ 63 := by decide
  rw [h, shr_iv]
  have e : word p >>> 63 = if p 63 then 1#64 else 0#64 := by
    apply BitVec.eq_of_getLsbD_eq
    intro i hi
    rw [BitVec.getLsbD_ushiftRight, word_bit]
    by_cases h0 : i = 0
    · subst h0
      cases p 63 <;> rfl
    · rw [decide_eq_false (by omega)]
      cases p 63 <;> simp [h0]
  rw [e]
  cases p 63 <;> rfl
theorem turn_word (p : Nat → Bool) : IntKind.u64.wrap (-(iv (word p) / 9223372036854775808)) = iv (openW (p 63)) := by
  rw [top_word]
  cases h : p 63
  · rw [openW_no]; rfl
  · have e : openW true = BitVec.allOnes 64 := by
      apply BitVec.eq_of_getLsbD_eq
      intro i hi
      rw [openW, word_bit, BitVec.getLsbD_allOnes]
      simp
    rw [e]
    rfl
/-- The marks of a text. -/
def mkq (s : ByteArray) (i : Nat) : Bool := decide (bt s (i : Int) = 34) && !esc s false i
/-- One word of marks. -/
def stepM (s : ByteArray) (l : List Int) (x : Nat) : List Int := l.set x (bits .andNot .u64 (iv (word fun j => decide (cutF s (64 * (x : Int)) 0 j = 34))) (l.getD x 0))
def foldM (s : ByteArray) {n : Nat} (pre : List (Fin n)) : List Int := pre.foldl (fun l x => stepM s l x.val) (wordsOf s.size (esc s false))
theorem foldM_snoc (s : ByteArray) {n : Nat} (pre : List (Fin n)) (x : Fin n) : foldM s (pre ++ [x]) = stepM s (foldM s pre) x.val := by
  unfold foldM
  rw [List.foldl_append]
  rfl
theorem foldM_length (s : ByteArray) {n : Nat} (pre : List (Fin n)) : (foldM s pre).length = nwords s.size := by
  have : ∀ (pre : List (Fin n)) (l : List Int), (pre.foldl (fun l x => stepM s l x.val) l).length = l.length := by
    intro pre
    induction pre with
    | nil => exact fun _ => rfl
    | cons x pre ih =>
      intro l
      rw [List.foldl_cons, ih]
      unfold stepM
      rw [List.length_set]
  unfold foldM
  rw [this, wordsOf_length]
theorem mark_word (s : ByteArray) (x : Nat) : bits .andNot .u64 (iv (word fun j => decide (cutF s (64 * (x : Int)) 0 j = 34))) (iv (wordAt s.size (esc s false) x)) = iv (wordAt s.size (mkq s) x) := by
  unfold wordAt
  rw [mask_andNot]
  apply congrArg iv
  apply word_ext
  intro j _
  rw [cutF_byteX]
  unfold byteX mkq
  by_cases h : 64 * x + j < s.size
  · rw [if_pos h, decide_eq_true h, Bool.true_and, Bool.true_and]
  · rw [if_neg h, decide_eq_false h]
    rfl
theorem foldM_take (s : ByteArray) : ∀ k, k ≤ nwords s.size → foldM s ((List.finRange (nwords s.size)).take k) = (List.range (nwords s.size)).map fun j => iv (wordAt s.size (if j < k then mkq s else esc s false) j) := by
  intro k
  induction k with
  | zero =>
    intro _
    simp [foldM, wordsOf]
  | succ k ih =>
    intro hk
    rw [finRange_take (nwords s.size) k (by omega), foldM_snoc, ih (by omega)]
    unfold stepM
    rw [List.getD_eq_getElem?_getD, List.getElem?_map, List.getElem?_range (by omega)]
    simp only [Option.map_some, Option.getD_some, Nat.lt_irrefl, if_false]
    rw [mark_word]
    apply List.ext_getElem?
    intro j
    rw [List.getElem?_set, List.getElem?_map, List.getElem?_map, List.length_map, List.length_range]
    by_cases hj : j < nwords s.size
    · rw [List.getElem?_range hj]
      by_cases e : k = j
      · subst e
        rw [if_pos rfl, if_pos hj]
        simp
      · rw [if_neg e]
        by_cases g : j < k
        · simp [g, show j < k + 1 by omega]
        · simp [g, show ¬ j < k + 1 by omega]
    · rw [List.getElem?_eq_none (by rw [List.length_range]; omega)]
      rw [if_neg (by omega)]
      simp
theorem foldM_all (s : ByteArray) : foldM s (List.finRange (nwords s.size)) = wordsOf s.size (mkq s) := by
  have h := foldM_take s (nwords s.size) (Nat.le_refl _)
  rw [List.take_of_length_le (by rw [List.length_finRange]; exact Nat.le_refl _)] at h
  rw [h]
  unfold wordsOf
  apply List.map_congr_left
  intro j hj
  rw [if_pos (List.mem_range.1 hj)]
/-- A row, cut off behind its length. -/
def cutQ (n : Nat) (q : Nat → Bool) (i : Nat) : Bool := decide (i < n) && q i
theorem wordAt_cut (n : Nat) (q : Nat → Bool) (k : Nat) : wordAt n q k = word fun j => cutQ n q (64 * k + j) := rfl
/-- The words between the marks, those behind the first k as they were. -/
def insL (n : Nat) (q : Nat → Bool) (k : Nat) : List Int := (List.range (nwords n)).map fun j => iv (if j < k then word (fun i => par (cutQ n q) (64 * j + i + 1)) else wordAt n q j)
theorem insL_length (n : Nat) (q : Nat → Bool) (k : Nat) : (insL n q k).length = nwords n := by simp [insL]
theorem insL_zero (n : Nat) (q : Nat → Bool) : insL n q 0 = wordsOf n q := List.map_congr_left fun j _ => by rw [if_neg (by omega)]
theorem insL_at (n : Nat) (q : Nat → Bool) {k : Nat} (h : k < nwords n) : (insL n q k)[k]? = some (iv (wordAt n q k)) := by
  unfold insL
  rw [List.getElem?_map, List.getElem?_range h, Option.map_some, if_neg (by omega)]
theorem insL_step (n : Nat) (q : Nat → Bool) {k : Nat} {v : Int} (hk : k < nwords n) (hv : v = iv (word fun j => par (fun i => cutQ n q (64 * k + i)) (j + 1) ^^ par (cutQ n q) (64 * k))) : (insL n q k).set k v = insL n q (k + 1) := by
  subst hv
  apply List.ext_getElem?
  intro j
  unfold insL
  rw [List.getElem?_set, List.getElem?_map, List.getElem?_map, List.length_map, List.length_range]
  by_cases hj : j < nwords n
  · rw [List.getElem?_range hj]
    by_cases e : k = j
    · subst e
      rw [if_pos rfl, if_pos hj]
      simp only [Option.map_some, Nat.lt_succ_self, if_true]
      refine congrArg (fun w => some (iv w)) (word_ext fun i _ => ?_)
      rw [show 64 * k + i + 1 = 64 * k + (i + 1) by omega, par_add (cutQ n q) (64 * k) (i + 1), Bool.xor_comm]
    · rw [if_neg e]
      by_cases g : j < k
      · simp [g, show j < k + 1 by omega]
      · simp [g, show ¬ j < k + 1 by omega]
  · rw [List.getElem?_eq_none (by rw [List.length_range]; omega), if_neg (by omega)]
    simp
theorem par_next (n : Nat) (q : Nat → Bool) (k : Nat) : (par (fun i => cutQ n q (64 * k + i)) 64 ^^ par (cutQ n q) (64 * k)) = par (cutQ n q) (64 * (k + 1)) := by
  rw [show 64 * (k + 1) = 64 * k + 64 by omega, par_add (cutQ n q) (64 * k) 64, Bool.xor_comm]
/-- Between the marks, the opening one among them. -/
def insq (q : Nat → Bool) (i : Nat) : Bool := par q (i + 1)
theorem ins_cut (n : Nat) (q : Nat → Bool) {i : Nat} (h : i < n) : par (cutQ n q) (i + 1) = insq q i := par_congr _ fun j hj => by
  unfold cutQ
  rw [decide_eq_true (by omega), Bool.true_and]
theorem insL_full (n : Nat) (q : Nat → Bool) (h : n % 64 = 0) : insL n q (nwords n) = wordsOf n (insq q) := List.map_congr_left fun j hj => by
  have hj := List.mem_range.1 hj
  rw [if_pos hj]
  apply congrArg iv
  apply word_ext
  intro i hi
  have : 64 * j + i < n := by unfold nwords at hj; omega
  rw [ins_cut n q this, decide_eq_true this, Bool.true_and]
theorem insL_part (n : Nat) (q : Nat → Bool) (h : 0 < n % 64) {v : Int} (hv : v = bits .and .u64 ((insL n q (nwords n)).getD (nwords n - 1) 0) (IntKind.u64.wrap (IntKind.u64.wrap (2 ^ (n % 64)) - 1))) :
    (insL n q (nwords n)).set (nwords n - 1) v = wordsOf n (insq q) := by
  have hw : 0 < nwords n := by unfold nwords; omega
  subst hv
  apply List.ext_getElem?
  intro j
  rw [List.getElem?_set, insL_length]
  unfold insL wordsOf
  rw [List.getElem?_map, List.getElem?_map]
  by_cases hj : j < nwords n
  · rw [List.getElem?_range hj]
    by_cases e : nwords n - 1 = j
    · rw [if_pos e, if_pos (show nwords n - 1 < nwords n by omega), List.getD_eq_getElem?_getD, List.getElem?_map, List.getElem?_range (by omega)]
      simp only [Option.map_some, Option.getD_some]
      rw [if_pos (show nwords n - 1 < nwords n by omega), mask_word _ _ (Nat.mod_lt _ (by decide)), e]
      unfold wordAt
      apply congrArg (fun w => some (iv w))
      apply word_ext
      intro i hi
      have hn : n = 64 * j + n % 64 := by unfold nwords at e hw hj; omega
      by_cases g : i < n % 64
      · rw [decide_eq_true g, Bool.true_and, decide_eq_true (show 64 * j + i < n by omega), Bool.true_and, ins_cut n q (by omega)]
      · rw [decide_eq_false g, decide_eq_false (show ¬ 64 * j + i < n by omega), Bool.false_and, Bool.false_and]
    · rw [if_neg e]
      simp only [Option.map_some]
      rw [if_pos hj]
      apply congrArg (fun w => some (iv w))
      apply word_ext
      intro i hi
      have : 64 * j + i < n := by unfold nwords at hj e; omega
      rw [ins_cut n q this, decide_eq_true this, Bool.true_and]
  · rw [List.getElem?_eq_none (by rw [List.length_range]; omega), if_neg (by omega)]
    simp
end Go.Proofs.YtadcgjmhhodnoaaDoorQ
