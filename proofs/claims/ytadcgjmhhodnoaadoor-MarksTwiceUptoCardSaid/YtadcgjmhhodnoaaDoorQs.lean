/-
  The places of the set bits, rising. Plain Lean; no program in sight.
-/
import Derived.Test.YtadcgjmhhodnoaaDoorTz
namespace Go.Proofs.YtadcgjmhhodnoaaDoorQ
open Go Go.RowKit Go.Proofs.YtadcgjmhhodnoaaDoorW.PrintWords
/-- A set bit's place. -/
abbrev SetP (n : Nat) (q : Nat → Bool) : Type := { k : Nat // k < n ∧ q k = true }
/-- The places of the set bits below i. -/
def setP (n : Nat) (q : Nat → Bool) : Nat → List (SetP n q)
  | 0 => []
  | i + 1 => if h : i < n ∧ q i = true then setP n q i ++ [⟨i, h⟩] else setP n q i
section
variable {n : Nat} {q : Nat → Bool}
theorem setP_at {i : Nat} (h : i < n ∧ q i = true) : setP n q (i + 1) = setP n q i ++ [⟨i, h⟩] := by rw [setP, dif_pos h]
theorem setP_skip {i : Nat} (h : ¬ (i < n ∧ q i = true)) : setP n q (i + 1) = setP n q i := by rw [setP, dif_neg h]
theorem setP_gap {i : Nat} : ∀ {k : Nat}, i ≤ k → (∀ j, i ≤ j → j < k → q j = false) → setP n q k = setP n q i
  | 0, hik, _ => by
    have : i = 0 := by omega
    rw [this]
  | k + 1, hik, h => by
    by_cases e : i = k + 1
    · rw [e]
    · rw [setP_skip (fun c => by rw [h k (by omega) (by omega)] at c; exact absurd c.2 (by simp)), setP_gap (by omega) fun j h1 h2 => h j h1 (by omega)]
theorem setP_le {i : Nat} : ∀ {k : Nat}, i ≤ k → setP n q i <+: setP n q k
  | 0, hik => by
    have : i = 0 := by omega
    rw [this]
    exact List.prefix_rfl
  | k + 1, hik => by
    by_cases e : i = k + 1
    · rw [e]
      exact List.prefix_rfl
    · refine (setP_le (i := i) (k := k) (by omega)).trans ?_
      by_cases h : k < n ∧ q k = true
      · rw [setP_at h]
        exact List.prefix_append _ _
      · rw [setP_skip h]
        exact List.prefix_rfl
theorem setP_val : ∀ i : Nat, (setP n q i).map (·.val) = (List.range i).filter (fun k => decide (k < n) && q k)
  | 0 => rfl
  | i + 1 => by
    rw [List.range_succ, List.filter_append, ← setP_val i]
    by_cases h : i < n ∧ q i = true
    · rw [setP_at h]
      simp [h.1, h.2]
    · rw [setP_skip h]
      have : (decide (i < n) && q i) = false := by
        cases hq : q i
        · simp
        · have : ¬ i < n := fun c => h ⟨c, hq⟩
          simp [this]
      simp [this]
theorem setP_length : ∀ i : Nat, (setP n q i).length ≤ i
  | 0 => Nat.le_refl _
  | i + 1 => by
    have := setP_length i
    by_cases h : i < n ∧ q i = true
    · rw [setP_at h, List.length_append]
      simp
      omega
    · rw [setP_skip h]
      omega
theorem setP_lt : ∀ {i : Nat} {x : SetP n q}, x ∈ setP n q i → x.val < i
  | 0, x, h => by simp [setP] at h
  | i + 1, x, h => by
    by_cases c : i < n ∧ q i = true
    · rw [setP_at c, List.mem_append] at h
      rcases h with h | h
      · have := setP_lt h
        omega
      · rw [List.mem_singleton.1 h]
        exact Nat.lt_succ_self i
    · rw [setP_skip c] at h
      have := setP_lt h
      omega
theorem setP_mem (x : SetP n q) {i : Nat} (h : x.val < i) : x ∈ setP n q i := by
  have h1 : x ∈ setP n q (x.val + 1) := by
    rw [setP_at x.2, List.mem_append]
    exact .inr (List.mem_singleton.2 rfl)
  exact (setP_le (by omega)).subset h1
end
/-- The lowest set bit from i on, told as a set. -/
theorem up_set (q : Nat → Bool) (i : Nat) (h : upW q i ≠ 0#64) : ∃ k, ∃ hk : k < 64 ∧ q k = true, k = Lib.ctz 64 (upW q i).toNat ∧ i ≤ k ∧ setP 64 q (k + 1) = setP 64 q i ++ [⟨k, hk⟩] ∧ upW q i &&& (upW q i - 1#64) = upW q (k + 1) := by
  obtain ⟨k, h1, h2, h3, h4, h5, h6⟩ := up_next q i h
  exact ⟨k, ⟨h3, h4⟩, h1, h2, by rw [setP_at ⟨h3, h4⟩, setP_gap h2 h5], h6⟩
theorem up_end (q : Nat → Bool) (i : Nat) (hi : i ≤ 64) (h : upW q i = 0#64) : setP 64 q 64 = setP 64 q i := setP_gap hi (up_none q i h)
theorem up_less {v : BitVec 64} (h : v ≠ 0#64) : (v &&& (v - 1#64)).toNat < v.toNat := by
  have h0 : v.toNat ≠ 0 := fun e => h (BitVec.eq_of_toNat_eq (by rw [e]; rfl))
  have e : (v - 1#64).toNat = v.toNat - 1 := by
    rw [BitVec.toNat_sub]
    have := v.isLt
    have e : (1#64).toNat = 1 := rfl
    rw [e]
    omega
  rw [BitVec.toNat_and]
  have := Nat.and_le_right (n := v.toNat) (m := (v - 1#64).toNat)
  omega
end Go.Proofs.YtadcgjmhhodnoaaDoorQ
