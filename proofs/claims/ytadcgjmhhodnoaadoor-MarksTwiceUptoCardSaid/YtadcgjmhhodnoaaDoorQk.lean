/-
  Plain facts on the rows of a text, block by block (marks.look). No program in sight.
-/
import Derived.Test.YtadcgjmhhodnoaaDoorQm
namespace Go.Proofs.YtadcgjmhhodnoaaDoorQ
open Go Go.RowKit Go.Proofs.YtadcgjmhhodnoaaDoorW.PrintWords

def insS (s : ByteArray) : Nat → Bool := insq (mkq s)
def outq (s : ByteArray) (i : Nat) : Bool := !(mkq s i || insS s i)
def sgq (s : ByteArray) (i : Nat) : Bool := sgx (bt s (i : Int)).toNat && outq s i
def blq (s : ByteArray) (i : Nat) : Bool := blx (bt s (i : Int)).toNat && outq s i
def opq (s : ByteArray) (i : Nat) : Bool := mkq s i && insS s i
def wdq (s : ByteArray) (i : Nat) : Bool := (outq s i && !sgq s i) && !blq s i
/-- The four words of a block. -/
def rowN (s : ByteArray) (k : Nat) : List Value := [.int .u64 (iv (wordAt s.size (sgq s) k)), .int .u64 (iv (wordAt s.size (blq s) k)), .int .u64 (iv (wordAt s.size (opq s) k)), .int .u64 (iv (wordAt s.size (wdq s) k))]
def flatR (s : ByteArray) {n : Nat} (pre : List (Fin n)) : List Value := pre.flatMap fun x => rowN s x.val
theorem flatR_snoc (s : ByteArray) {n : Nat} (pre : List (Fin n)) (x : Fin n) : flatR s (pre ++ [x]) = flatR s pre ++ rowN s x.val := by simp [flatR]
theorem flatR_all (s : ByteArray) : flatR s (List.finRange (nwords s.size)) = (List.range (nwords s.size)).flatMap (rowN s) := by
  rw [show List.range (nwords s.size) = (List.finRange (nwords s.size)).map (·.val) by apply List.ext_getElem <;> simp, List.flatMap_map]
  rfl
/-- What is outside, in a full block. -/
theorem out_full (s : ByteArray) (k : Nat) (h : 64 * k + 64 ≤ s.size) : bits .xor .u64 18446744073709551615 (bits .or .u64 (iv (wordAt s.size (mkq s) k)) (iv (wordAt s.size (insS s) k))) = iv (wordAt s.size (outq s) k) := by
  unfold wordAt
  rw [mask_or, mask_not]
  apply congrArg iv
  apply word_ext
  intro i hi
  rw [decide_eq_true (show 64 * k + i < s.size by omega)]
  rfl
/-- The same in the last one. -/
theorem out_part (s : ByteArray) (k : Nat) (h : 64 * k < s.size) (h2 : s.size < 64 * k + 64) :
    bits .and .u64 (bits .xor .u64 18446744073709551615 (bits .or .u64 (iv (wordAt s.size (mkq s) k)) (iv (wordAt s.size (insS s) k)))) (IntKind.u64.wrap (IntKind.u64.wrap (2 ^ (s.size - 64 * k)) - 1)) = iv (wordAt s.size (outq s) k) := by
  unfold wordAt
  rw [mask_or, mask_not, mask_word _ _ (by omega)]
  apply congrArg iv
  apply word_ext
  intro i hi
  by_cases g : 64 * k + i < s.size
  · rw [decide_eq_true g, decide_eq_true (show i < s.size - 64 * k by omega)]
    rfl
  · rw [decide_eq_false g, decide_eq_false (show ¬ i < s.size - 64 * k by omega)]
    rfl
/-- A class's bytes among those outside. -/
theorem class_out (s : ByteArray) (k : Nat) (p : Nat → Bool) : bits .and .u64 (iv (word fun j => p (cutF s (64 * (k : Int)) 32 j).toNat)) (iv (wordAt s.size (outq s) k)) = iv (wordAt s.size (fun i => p (bt s (i : Int)).toNat && outq s i) k) := by
  unfold wordAt
  rw [bits_and]
  apply congrArg iv
  apply eq_word
  intro i hi
  rw [BitVec.getLsbD_and, word_bit, word_bit, decide_eq_true hi, cutF_byteX]
  unfold byteX
  by_cases g : 64 * k + i < s.size
  · rw [if_pos g, decide_eq_true g]
    simp
  · rw [if_neg g, decide_eq_false g]
    simp
theorem opens_out (s : ByteArray) (k : Nat) : bits .and .u64 (iv (wordAt s.size (mkq s) k)) (iv (wordAt s.size (insS s) k)) = iv (wordAt s.size (opq s) k) := by
  unfold wordAt
  rw [bits_and]
  apply congrArg iv
  apply eq_word
  intro i hi
  rw [BitVec.getLsbD_and, word_bit, word_bit, decide_eq_true hi]
  unfold opq
  cases decide (64 * k + i < s.size) <;> simp
theorem word_minus (n : Nat) (p q : Nat → Bool) (k : Nat) : bits .andNot .u64 (iv (wordAt n p k)) (iv (wordAt n q k)) = iv (wordAt n (fun i => p i && !q i) k) := by
  unfold wordAt
  rw [mask_andNot]
  apply congrArg iv
  apply word_ext
  intro i hi
  cases decide (64 * k + i < n) <;> simp
end Go.Proofs.YtadcgjmhhodnoaaDoorQ
