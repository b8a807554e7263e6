/-
  The first byte between quotes that may not stand there. Plain Lean; no program in sight.
-/
import Derived.Test.YtadcgjmhhodnoaaDoorQk
import Derived.Test.YtadcgjmhhodnoaaDoorQs
namespace Go.Proofs.YtadcgjmhhodnoaaDoorQ
open Go Go.RowKit Go.Proofs.YtadcgjmhhodnoaaDoorW.PrintWords
/-- The bytes below 32. -/
def lowX (x : Nat) : Bool := decide (x < 32)
theorem low_cls : clsA lowX = #[.int .u64 4294967295, .int .u64 0, .int .u64 0, .int .u64 0] := by
  have h0 : iv (clsW lowX 0) = 4294967295 := by decide +kernel
  have h1 : iv (clsW lowX 1) = 0 := by decide +kernel
  have h2 : iv (clsW lowX 2) = 0 := by decide +kernel
  have h3 : iv (clsW lowX 3) = 0 := by decide +kernel
  rw [clsA_lit, h0, h1, h2, h3]
/-- A class's bytes among some. -/
theorem class_in (s : ByteArray) (k : Nat) (p q : Nat → Bool) : bits .and .u64 (iv (word fun j => p (cutF s (64 * (k : Int)) 32 j).toNat)) (iv (wordAt s.size q k)) = iv (wordAt s.size (fun i => p (bt s (i : Int)).toNat && q i) k) := by
  unfold wordAt
  rw [bits_and]
  apply congrArg iv
  apply eq_word
  intro i hi
  rw [BitVec.getLsbD_and, word_bit, word_bit, decide_eq_true hi, cutF_byteX]
  unfold byteX
  by_cases g : 64 * k + i < s.size
  · rw [if_pos g, decide_eq_true g]
    simp
  · rw [if_neg g, decide_eq_false g]
    simp
/-- A byte that may not stand there. -/
def ctq (s : ByteArray) (i : Nat) : Bool := lowX (bt s (i : Int)).toNat && insS s i
/-- The first one; -1: there is none. -/
def firstQ (n : Nat) (q : Nat → Bool) : Int := match ((List.range n).filter q).head? with | some i => (i : Int) | none => -1
theorem firstQ_none {n : Nat} {q : Nat → Bool} (h : ∀ i, i < n → q i = false) : firstQ n q = -1 := by
  unfold firstQ
  have : (List.range n).filter q = [] := by
    rw [List.filter_eq_nil_iff]
    intro a ha
    rw [h a (List.mem_range.1 ha)]
    exact Bool.false_ne_true
  rw [this]
  rfl
theorem firstQ_at {n : Nat} {q : Nat → Bool} {i : Nat} (hi : i < n) (hq : q i = true) (h : ∀ j, j < i → q j = false) : firstQ n q = (i : Int) := by
  unfold firstQ
  have : ((List.range n).filter q).head? = some i := by
    obtain ⟨d, rfl⟩ : ∃ d, n = i + (d + 1) := ⟨n - i - 1, by omega⟩
    rw [List.range_add, List.filter_append]
    have e1 : (List.range i).filter q = [] := by
      rw [List.filter_eq_nil_iff]
      intro a ha
      rw [h a (List.mem_range.1 ha)]
      exact Bool.false_ne_true
    rw [e1, List.nil_append, List.range_succ_eq_map, List.map_cons, List.filter_cons]
    simp [hq]
  rw [this]
/-- A block without one. -/
theorem block_none {n : Nat} {q : Nat → Bool} {k : Nat} (h : iv (wordAt n q k) = 0) (j : Nat) (hj : j < 64) (hn : 64 * k + j < n) : q (64 * k + j) = false := by
  have e : wordAt n q k = 0#64 := iv_inj.1 (h.trans (by decide))
  have hb : (wordAt n q k).getLsbD j = (decide (j < 64) && (decide (64 * k + j < n) && q (64 * k + j))) := word_bit _ j
  rw [e, decide_eq_true hj, decide_eq_true hn] at hb
  simpa using hb.symm
/-- A block with one: the first set place. -/
theorem block_some {n : Nat} {q : Nat → Bool} {k : Nat} (h : ¬ iv (wordAt n q k) = 0) : ∃ j, ∃ x : SetP 64 (fun i => decide (64 * k + i < n) && q (64 * k + i)), (setP 64 (fun i => decide (64 * k + i < n) && q (64 * k + i)) 64)[0]? = some x ∧ x.val = j ∧ j < 64 ∧ 64 * k + j < n ∧ q (64 * k + j) = true ∧ ∀ i, i < j → 64 * k + i < n → q (64 * k + i) = false := by
  have hne : upW (fun i => decide (64 * k + i < n) && q (64 * k + i)) 0 ≠ 0#64 := by
    rw [upW_zero]
    intro e
    apply h
    show iv (word _) = 0
    rw [e]
    decide
  obtain ⟨j, h1, h2, h3, h4, h5, h6⟩ := up_next _ 0 hne
  have hj : j < 64 ∧ (decide (64 * k + j < n) && q (64 * k + j)) = true := ⟨h3, h4⟩
  simp only [Bool.and_eq_true, decide_eq_true_eq] at h4
  refine ⟨j, ⟨j, hj⟩, ?_, rfl, h3, h4.1, h4.2, fun i hi hn => ?_⟩
  · have e1 : setP 64 (fun i => decide (64 * k + i < n) && q (64 * k + i)) (j + 1) = [⟨j, hj⟩] := by
      rw [setP_at hj, setP_gap (i := 0) (Nat.zero_le _) h5]
      rfl
    obtain ⟨t, ht⟩ := setP_le (n := 64) (q := fun i => decide (64 * k + i < n) && q (64 * k + i)) (i := j + 1) (k := 64) (by omega)
    rw [← ht, e1]
    rfl
  · have := h5 i (Nat.zero_le _) hi
    simpa [hn] using this
end Go.Proofs.YtadcgjmhhodnoaaDoorQ
