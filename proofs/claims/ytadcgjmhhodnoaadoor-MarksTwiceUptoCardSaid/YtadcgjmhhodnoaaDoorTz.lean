/-
  The lowest set bit of a word, and the word without it. Plain Lean; no program in sight.
-/
import Derived.Test.YtadcgjmhhodnoaaDoorQc
import Derived.Lib.TrailingZeros
namespace Go.Proofs.YtadcgjmhhodnoaaDoorQ
open Go Go.RowKit Go.Proofs.YtadcgjmhhodnoaaDoorW.PrintWords
theorem clear_low (k m : Nat) : (2 ^ k * (2 * m + 1)) &&& (2 ^ k * (2 * m + 1) - 1) = 2 ^ k * (2 * m) := by
  have hp : 0 < 2 ^ k := Nat.pow_pos (by decide)
  have e1 : 2 ^ k * (2 * m + 1) - 1 = 2 ^ k * (2 * m) + (2 ^ k - 1) := by rw [Nat.mul_add, Nat.mul_one]; omega
  rw [e1]
  apply Nat.eq_of_testBit_eq
  intro i
  rw [Nat.testBit_and, Nat.testBit_two_pow_mul, Nat.testBit_two_pow_mul_add _ (by omega), Nat.testBit_two_pow_mul]
  by_cases h : i < k
  · simp [h, show ¬ (k ≤ i) by omega]
  · have h2 : k ≤ i := by omega
    simp only [h, h2, decide_true, Bool.true_and, if_false]
    obtain ⟨j, rfl⟩ : ∃ j, i = k + j := ⟨i - k, by omega⟩
    rw [Nat.add_sub_cancel_left]
    cases j with
    | zero => simp [Nat.testBit_zero]
    | succ j =>
      rw [Nat.testBit_succ, Nat.testBit_succ, show (2 * m + 1) / 2 = m by omega, show 2 * m / 2 = m by omega]
      simp
theorem low_bits (k m i : Nat) : (2 ^ k * (2 * m + 1)).testBit i = (decide (k ≤ i) && (2 * m + 1).testBit (i - k)) := Nat.testBit_two_pow_mul
/-- The bits from a place on. -/
def upW (q : Nat → Bool) (i : Nat) : BitVec 64 := word fun j => decide (i ≤ j) && q j
theorem upW_zero (q : Nat → Bool) : upW q 0 = word q := word_ext fun i _ => by simp
theorem up_next (q : Nat → Bool) (i : Nat) (h : upW q i ≠ 0#64) : ∃ k, k = Lib.ctz 64 (upW q i).toNat ∧ i ≤ k ∧ k < 64 ∧ q k = true ∧ (∀ j, i ≤ j → j < k → q j = false) ∧ upW q i &&& (upW q i - 1#64) = upW q (k + 1) := by
  have hb : ∀ j, (upW q i).getLsbD j = (decide (j < 64) && (decide (i ≤ j) && q j)) := fun j => word_bit _ j
  have hb2 : ∀ k j, (upW q (k + 1)).getLsbD j = (decide (j < 64) && (decide (k + 1 ≤ j) && q j)) := fun k j => word_bit _ j
  generalize upW q i = v at h hb ⊢
  have h0 : v.toNat ≠ 0 := fun e => h (BitVec.eq_of_toNat_eq (by rw [e]; rfl))
  obtain ⟨m, hm, hk⟩ := Lib.ctzFrom_spec 64 v.toNat (by omega) v.isLt
  have hc : Lib.ctz 64 v.toNat = Lib.ctzFrom 64 v.toNat := by unfold Lib.ctz; rw [if_neg h0]
  rw [hc]
  generalize Lib.ctzFrom 64 v.toNat = k at hm hk ⊢
  have hv : ∀ j, v.getLsbD j = (decide (k ≤ j) && (2 * m + 1).testBit (j - k)) := fun j => by
    show v.toNat.testBit j = _
    rw [hm]
    exact low_bits k m j
  have hkk : v.getLsbD k = true := by
    rw [hv]
    simp [Nat.testBit_zero]
  rw [hb] at hkk
  simp only [Bool.and_eq_true, decide_eq_true_eq] at hkk
  have hlow : ∀ j, i ≤ j → j < k → q j = false := fun j h1 h2 => by
    have := hv j
    rw [hb, decide_eq_true (show j < 64 by omega), decide_eq_true h1, decide_eq_false (show ¬ k ≤ j by omega)] at this
    simpa using this
  refine ⟨k, rfl, hkk.2.1, hk, hkk.2.2, hlow, ?_⟩
  have hsub : (v &&& (v - 1#64)).toNat = 2 ^ k * (2 * m) := by
    rw [BitVec.toNat_and]
    have : (v - 1#64).toNat = v.toNat - 1 := by
      rw [BitVec.toNat_sub]
      have := v.isLt
      have e : (1#64).toNat = 1 := rfl
      rw [e]
      omega
    rw [this, hm]
    exact clear_low k m
  refine BitVec.eq_of_getLsbD_eq fun j hj => ?_
  show (v &&& (v - 1#64)).toNat.testBit j = _
  rw [hsub, hb2, Nat.testBit_two_pow_mul, decide_eq_true hj, Bool.true_and]
  have hq := hv j
  rw [hb, decide_eq_true hj, Bool.true_and] at hq
  by_cases h1 : k + 1 ≤ j
  · rw [decide_eq_true (show k ≤ j by omega), decide_eq_true (show i ≤ j by omega), Bool.true_and, Bool.true_and] at hq
    obtain ⟨l, rfl⟩ : ∃ l, j = k + (l + 1) := ⟨j - k - 1, by omega⟩
    rw [decide_eq_true h1, decide_eq_true (show k ≤ k + (l + 1) by omega), Bool.true_and, Bool.true_and, hq, Nat.add_sub_cancel_left, Nat.testBit_succ, Nat.testBit_succ, show (2 * m + 1) / 2 = m by omega, show 2 * m / 2 = m by omega]
  · rw [decide_eq_false h1, Bool.false_and]
    by_cases h2 : k ≤ j
    · have : j = k := by omega
      subst this
      simp [Nat.testBit_zero]
    · simp [h2]
theorem up_none (q : Nat → Bool) (i : Nat) (h : upW q i = 0#64) : ∀ j, i ≤ j → j < 64 → q j = false := fun j h1 h2 => by
  have hb : (upW q i).getLsbD j = (decide (j < 64) && (decide (i ≤ j) && q j)) := word_bit _ j
  rw [h, decide_eq_true h2, decide_eq_true h1] at hb
  simpa using hb.symm
end Go.Proofs.YtadcgjmhhodnoaaDoorQ
