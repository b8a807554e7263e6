/-
  Where something begins in a text: block by block. Plain Lean; no program in sight.
-/
import Derived.Test.YtadcgjmhhodnoaaDoorQk
import Derived.Test.YtadcgjmhhodnoaaDoorQs
namespace Go.Proofs.YtadcgjmhhodnoaaDoorQ
open Go Go.RowKit Go.Proofs.YtadcgjmhhodnoaaDoorW.PrintWords
/-- Does something begin at the place i? -/
def begq (s : ByteArray) (i : Nat) : Bool := (sgq s i || opq s i) || (wdq s i && !(decide (0 < i) && wdq s (i - 1)))
/-- Does the block ahead of block k end in a word? -/
def carq (s : ByteArray) (k : Nat) : Bool := decide (0 < k) && wdq s (64 * k - 1)
/-- The same in block k. -/
def begB (s : ByteArray) (k j : Nat) : Bool := decide (64 * k + j < s.size) && begq s (64 * k + j)
/-- Where words begin in block k. -/
def stW (s : ByteArray) (k : Nat) (j : Nat) : Bool := (decide (64 * k + j < s.size) && wdq s (64 * k + j)) && !(if j = 0 then carq s k else decide (64 * k + (j - 1) < s.size) && wdq s (64 * k + (j - 1)))
theorem st_word (s : ByteArray) (k : Nat) : iv (wordAt s.size (wdq s) k &&& ~~~((wordAt s.size (wdq s) k <<< 1) ||| (if carq s k then 1#64 else 0#64))) = iv (word (stW s k)) := by
  have h1 : ∀ i : Fin 64, (1#64).getLsbD i.val = decide (i.val = 0) := by decide
  apply congrArg iv
  apply eq_word
  intro j hj
  have e1 : (if carq s k then 1#64 else 0#64).getLsbD j = (carq s k && decide (j = 0)) := by
    cases carq s k
    · simp
    · simp only [if_true, Bool.true_and]
      exact h1 ⟨j, hj⟩
  rw [BitVec.getLsbD_and, BitVec.getLsbD_not, BitVec.getLsbD_or, BitVec.getLsbD_shiftLeft, e1]
  unfold wordAt stW
  rw [word_bit, word_bit, decide_eq_true hj]
  by_cases g : j = 0
  · subst g
    simp
  · rw [if_neg g, decide_eq_false (show ¬ j < 1 by omega), decide_eq_true (show j - 1 < 64 by omega), decide_eq_false g]
    simp
theorem beg_or (s : ByteArray) (k : Nat) (hk : 64 * k < s.size) : bits .or .u64 (bits .or .u64 (iv (wordAt s.size (sgq s) k)) (iv (wordAt s.size (opq s) k))) (iv (word (stW s k))) = iv (word (begB s k)) := by
  unfold wordAt
  rw [bits_or, bits_or]
  apply congrArg iv
  apply eq_word
  intro j hj
  rw [BitVec.getLsbD_or, BitVec.getLsbD_or, word_bit, word_bit, word_bit, decide_eq_true hj]
  unfold stW begB begq carq
  by_cases g : j = 0
  · subst g
    by_cases h0 : 0 < k
    · simp [h0, show 0 < 64 * k by omega]
      cases decide (64 * k < s.size) <;> simp
    · obtain rfl : k = 0 := by omega
      simp
      cases decide (0 < s.size) <;> simp
  · rw [if_neg g, show 64 * k + (j - 1) = 64 * k + j - 1 by omega]
    by_cases h : 64 * k + j < s.size
    · simp [h, show 64 * k + j - 1 < s.size by omega, show 0 < 64 * k + j by omega]
    · simp [h]
theorem car_next (s : ByteArray) (k : Nat) : (decide (64 * k + 63 < s.size) && wdq s (64 * k + 63)) = if 64 * (k + 1) ≤ s.size then carq s (k + 1) else false := by
  unfold carq
  by_cases h : 64 * (k + 1) ≤ s.size
  · rw [if_pos h, decide_eq_true (show 64 * k + 63 < s.size by omega), decide_eq_true (show 0 < k + 1 by omega), show 64 * (k + 1) - 1 = 64 * k + 63 by omega]
  · rw [if_neg h, decide_eq_false (show ¬ 64 * k + 63 < s.size by omega), Bool.false_and]
/-- What has come ahead of place m. -/
def idxL (s : ByteArray) (m : Nat) : List Int := ((List.range m).filter fun i => decide (i < s.size) && begq s i).map fun i => ((i : Nat) : Int)
theorem idxL_length (s : ByteArray) (m : Nat) : (idxL s m).length ≤ m := by
  unfold idxL
  rw [List.length_map]
  have := List.length_filter_le (fun i => decide (i < s.size) && begq s i) (List.range m)
  rwa [List.length_range] at this
theorem idxL_step (s : ByteArray) (k : Nat) : idxL s (64 * k) ++ (setP 64 (begB s k) 64).map (fun x => (64 * (k : Int) + ((x.val : Nat) : Int))) = idxL s (64 * (k + 1)) := by
  unfold idxL
  rw [show 64 * (k + 1) = 64 * k + 64 by omega, List.range_add, List.filter_append, List.map_append]
  congr 1
  have h := setP_val (n := 64) (q := begB s k) 64
  rw [List.filter_map, List.map_map]
  have e1 : (setP 64 (begB s k) 64).map (fun x => (64 * (k : Int) + ((x.val : Nat) : Int))) = ((setP 64 (begB s k) 64).map (·.val)).map fun j => (64 * (k : Int) + ((j : Nat) : Int)) := by rw [List.map_map]; rfl
  rw [e1, h]
  have e2 : ((List.range 64).filter fun j => decide (j < 64) && begB s k j) = (List.range 64).filter ((fun i => decide (i < s.size) && begq s i) ∘ fun x => 64 * k + x) := List.filter_congr fun j hj => by
    rw [decide_eq_true (List.mem_range.1 hj), Bool.true_and]
    rfl
  rw [e2]
  exact List.map_congr_left fun j _ => by simp
theorem idxL_all (s : ByteArray) (m : Nat) (h : s.size ≤ m) : idxL s m = ((List.range s.size).filter (begq s)).map fun i => ((i : Nat) : Int) := by
  unfold idxL
  obtain ⟨d, rfl⟩ : ∃ d, m = s.size + d := ⟨m - s.size, by omega⟩
  rw [List.range_add, List.filter_append, List.map_append]
  have e1 : (((List.range d).map fun x => s.size + x).filter fun i => decide (i < s.size) && begq s i) = [] := by
    rw [List.filter_eq_nil_iff]
    intro a ha
    obtain ⟨b, _, rfl⟩ := List.mem_map.1 ha
    rw [decide_eq_false (show ¬ s.size + b < s.size by omega), Bool.false_and]
    exact Bool.false_ne_true
  rw [e1]
  rw [List.map_nil, List.append_nil]
  apply congrArg
  exact List.filter_congr fun j hj => by rw [decide_eq_true (List.mem_range.1 hj), Bool.true_and]
end Go.Proofs.YtadcgjmhhodnoaaDoorQ
