/-
  The running sign of a row of bits, word by word. Plain Lean; no program in sight.
-/
import Derived.Test.YtadcgjmhhodnoaaDoorQf
namespace Go.Proofs.YtadcgjmhhodnoaaDoorQ
open Go Go.RowKit Go.Proofs.YtadcgjmhhodnoaaDoorW.PrintWords
/-- The words with the running sign, those behind the first k are none. -/
def preL (n : Nat) (q : Nat → Bool) (k : Nat) : List Int := (List.range (nwords n)).map fun j => if j < k then iv (word fun i => par (cutQ n q) (64 * j + i + 1)) else 0
theorem preL_length (n : Nat) (q : Nat → Bool) (k : Nat) : (preL n q k).length = nwords n := by simp [preL]
theorem preL_full (n : Nat) (q : Nat → Bool) : preL n q (nwords n) = insL n q (nwords n) := List.map_congr_left fun j hj => by
  rw [if_pos (List.mem_range.1 hj), if_pos (List.mem_range.1 hj)]
theorem xor_self_iv (v : BitVec 64) : bits .xor .u64 (iv v) (iv v) = 0 := by
  rw [bits_xor, BitVec.xor_self]
  rfl
theorem preL_zero (n : Nat) (q : Nat → Bool) : ((List.range (wordsOf n q).length).map fun j => bits .xor .u64 ((wordsOf n q).getD j 0) ((wordsOf n q).getD j 0)) = preL n q 0 := by
  rw [wordsOf_length]
  refine List.map_congr_left fun j hj => ?_
  rw [wordsOf_get n q j (List.mem_range.1 hj), xor_self_iv, if_neg (Nat.not_lt_zero _)]
theorem preL_step (n : Nat) (q : Nat → Bool) {k : Nat} {v : Int} (hk : k < nwords n) (hv : v = iv (word fun j => par (fun i => cutQ n q (64 * k + i)) (j + 1) ^^ par (cutQ n q) (64 * k))) : (preL n q k).set k v = preL n q (k + 1) := by
  subst hv
  apply List.ext_getElem?
  intro j
  unfold preL
  rw [List.getElem?_set, List.getElem?_map, List.getElem?_map, List.length_map, List.length_range]
  by_cases hj : j < nwords n
  · rw [List.getElem?_range hj]
    by_cases e : k = j
    · subst e
      rw [if_pos rfl, if_pos hj]
      simp only [Option.map_some, Nat.lt_succ_self, if_true]
      refine congrArg (fun w => some (iv w)) (word_ext fun i _ => ?_)
      rw [show 64 * k + i + 1 = 64 * k + (i + 1) by omega, par_add (cutQ n q) (64 * k) (i + 1), Bool.xor_comm]
    · rw [if_neg e]
      by_cases g : j < k
      · simp [g, show j < k + 1 by omega]
      · simp [g, show ¬ j < k + 1 by omega]
  · rw [List.getElem?_eq_none (by rw [List.length_range]; omega), if_neg (by omega)]
    simp
/-- The last word, cut off behind the row's end. -/
theorem preL_last (n : Nat) (q : Nat → Bool) (h : 0 < n) (t : BitVec 64) (ht : ∀ i, i < 64 → t.getLsbD i = decide (64 * (nwords n - 1) + i < n)) {v : Int} (hv : v = bits .and .u64 ((preL n q (nwords n)).getD (nwords n - 1) 0) (iv t)) :
    (preL n q (nwords n)).set (nwords n - 1) v = wordsOf n (insq q) := by
  have hw : 0 < nwords n := by unfold nwords; omega
  subst hv
  apply List.ext_getElem?
  intro j
  rw [List.getElem?_set, preL_length]
  unfold preL wordsOf
  rw [List.getElem?_map, List.getElem?_map]
  by_cases hj : j < nwords n
  · rw [List.getElem?_range hj]
    by_cases e : nwords n - 1 = j
    · rw [if_pos e, if_pos (show nwords n - 1 < nwords n by omega), List.getD_eq_getElem?_getD, List.getElem?_map, List.getElem?_range (by omega)]
      simp only [Option.map_some, Option.getD_some]
      rw [if_pos (show nwords n - 1 < nwords n by omega), bits_and]
      apply congrArg (fun w => some (iv w))
      unfold wordAt
      symm
      apply BitVec.eq_of_getLsbD_eq
      intro i hi
      rw [word_bit, BitVec.getLsbD_and, word_bit, ht i hi, decide_eq_true hi, Bool.true_and, Bool.true_and, ← e]
      by_cases g : 64 * (nwords n - 1) + i < n
      · rw [decide_eq_true g, Bool.true_and, Bool.and_true, ins_cut n q g]
      · rw [decide_eq_false g, Bool.false_and, Bool.and_false]
    · rw [if_neg e]
      simp only [Option.map_some]
      rw [if_pos hj]
      apply congrArg (fun w => some (iv w))
      apply word_ext
      intro i hi
      have : 64 * j + i < n := by unfold nwords at hj e; omega
      rw [ins_cut n q this, decide_eq_true this, Bool.true_and]
  · rw [List.getElem?_eq_none (by rw [List.length_range]; omega), if_neg (by omega)]
    simp
theorem tail_bit (n : Nat) (h : 0 < n) {t : BitVec 64} (ht : t = if n % 64 = 0 then 18446744073709551615#64 else BitVec.ofNat 64 (2 ^ (n % 64) - 1)) (i : Nat) (hi : i < 64) : t.getLsbD i = decide (64 * (nwords n - 1) + i < n) := by
  subst ht
  have hn : nwords n = (n + 63) / 64 := rfl
  by_cases g : n % 64 = 0
  · rw [if_pos g]
    have h1 : (18446744073709551615#64).getLsbD i = true := by
      have : ∀ i : Fin 64, (18446744073709551615#64).getLsbD i.val = true := by decide
      exact this ⟨i, hi⟩
    rw [h1, decide_eq_true (by omega)]
  · rw [if_neg g, BitVec.getLsbD_ofNat, Nat.testBit_two_pow_sub_one, decide_eq_true hi, Bool.true_and]
    exact decide_eq_decide.mpr (by omega)
/-- A row's bits, out of its words. -/
def bitP (l : List Int) (p : Nat) : Bool := (l.getD (p / 64) 0).toNat.testBit (p % 64)
theorem bitP_words (n : Nat) (q : Nat → Bool) (p : Nat) (hp : p < n) : bitP (wordsOf n q) p = q p := by
  unfold bitP
  rw [wordsOf_get n q (p / 64) (by unfold nwords; omega)]
  show (wordAt n q (p / 64)).toNat.testBit (p % 64) = _
  have h := word_bit (fun i => decide (64 * (p / 64) + i < n) && q (64 * (p / 64) + i)) (p % 64)
  unfold wordAt
  rw [show 64 * (p / 64) + p % 64 = p by omega, decide_eq_true (show p % 64 < 64 by omega), decide_eq_true hp, Bool.true_and, Bool.true_and] at h
  exact h
theorem bitP_row (n : Nat) (q : Nat → Bool) : wordsOf n (bitP (wordsOf n q)) = wordsOf n q := wordsOf_ext fun i hi => bitP_words n q i hi
theorem bitP_ins (n : Nat) (q : Nat → Bool) : wordsOf n (insq (bitP (wordsOf n q))) = wordsOf n (insq q) := wordsOf_ext fun i hi => par_congr _ fun j hj => bitP_words n q j (by omega)
end Go.Proofs.YtadcgjmhhodnoaaDoorQ
