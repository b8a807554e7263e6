/-
  What stands between quotes, as pairs of places. Plain Lean; no program in sight.
-/
import Derived.Test.YtadcgjmhhodnoaaDoorQf
import Derived.Test.YtadcgjmhhodnoaaDoorQs
namespace Go.Proofs.YtadcgjmhhodnoaaDoorQ
open Go Go.RowKit Go.Proofs.YtadcgjmhhodnoaaDoorW.PrintWords
/-- One mark more. -/
def stepQ (st : List (Nat × Nat) × Option Nat) (p : Nat) : List (Nat × Nat) × Option Nat := match st.2 with
  | none => (st.1, some (p + 1))
  | some f => (st.1 ++ [(f, p)], none)
def foldT (ps : List Nat) : List (Nat × Nat) × Option Nat := ps.foldl stepQ ([], none)
theorem foldT_nil : foldT [] = ([], none) := rfl
theorem foldT_snoc (ps : List Nat) (p : Nat) : foldT (ps ++ [p]) = stepQ (foldT ps) p := by
  unfold foldT
  rw [List.foldl_append]
  rfl
/-- The last one, if it is open, up to the end. -/
def endT (st : List (Nat × Nat) × Option Nat) (n : Nat) : List (Nat × Nat) := match st.2 with
  | none => st.1
  | some f => st.1 ++ [(f, n)]
theorem stepQ_prefix (st : List (Nat × Nat) × Option Nat) (p : Nat) : st.1 <+: (stepQ st p).1 := by
  unfold stepQ
  split
  · exact List.prefix_rfl
  · exact List.prefix_append _ _
theorem endT_prefix (st : List (Nat × Nat) × Option Nat) (n : Nat) : st.1 <+: endT st n := by
  unfold endT
  split
  · exact List.prefix_rfl
  · exact List.prefix_append _ _
theorem foldl_prefix : ∀ (qs : List Nat) (st : List (Nat × Nat) × Option Nat), st.1 <+: (qs.foldl stepQ st).1
  | [], _ => List.prefix_rfl
  | q :: qs, st => (stepQ_prefix st q).trans (foldl_prefix qs _)
theorem foldT_prefix {ps qs : List Nat} (h : ps <+: qs) : (foldT ps).1 <+: (foldT qs).1 := by
  obtain ⟨t, rfl⟩ := h
  unfold foldT
  rw [List.foldl_append]
  exact foldl_prefix t _
/-- The places of the marks, and what stands between them. -/
def marksP (s : ByteArray) : List Nat := (List.range s.size).filter (mkq s)
def textsL (s : ByteArray) : List (Nat × Nat) := endT (foldT (marksP s)) s.size
/-- The beginning of the open one, as the variable holds it. -/
def fromI (o : Option Nat) : Int := match o with | none => -1 | some f => (f : Int)
theorem wordsOf_bit (n : Nat) (q : Nat → Bool) (p : Nat) (hp : p < 64 * nwords n) : ((wordsOf n q).getD (p / 64) 0).toNat.testBit (p % 64) = (decide (p < n) && q p) := by
  rw [wordsOf_get n q (p / 64) (by omega)]
  show (wordAt n q (p / 64)).toNat.testBit (p % 64) = _
  have h := word_bit (fun i => decide (64 * (p / 64) + i < n) && q (64 * (p / 64) + i)) (p % 64)
  unfold wordAt
  rw [show 64 * (p / 64) + p % 64 = p by omega, decide_eq_true (show p % 64 < 64 by omega), Bool.true_and] at h
  exact h
theorem range_filter_le (n m : Nat) (q : Nat → Bool) (h : n ≤ m) : (List.range m).filter (fun k => decide (k < n) && q k) = (List.range n).filter q := by
  obtain ⟨d, rfl⟩ : ∃ d, m = n + d := ⟨m - n, by omega⟩
  rw [List.range_add, List.filter_append]
  have e1 : ((List.range d).map fun x => n + x).filter (fun k => decide (k < n) && q k) = [] := by
    rw [List.filter_eq_nil_iff]
    intro a ha
    obtain ⟨b, _, rfl⟩ := List.mem_map.1 ha
    rw [decide_eq_false (show ¬ n + b < n by omega), Bool.false_and]
    exact Bool.false_ne_true
  rw [e1, List.append_nil]
  exact List.filter_congr fun j hj => by rw [decide_eq_true (List.mem_range.1 hj), Bool.true_and]
/-- Where a mark opens a text, it stands right ahead of it. -/
theorem foldT_from (ps : List Nat) (b : Nat) (h : ∀ p ∈ ps, p < b) : ∀ f, (foldT ps).2 = some f → f ≤ b := by
  rcases List.eq_nil_or_concat ps with rfl | ⟨qs, p, rfl⟩
  · intro f hf
    cases hf
  · intro f hf
    rw [List.concat_eq_append, foldT_snoc] at hf
    have hp := h p (by rw [List.concat_eq_append]; exact List.mem_append_right _ (List.mem_singleton.2 rfl))
    unfold stepQ at hf
    split at hf
    · cases hf
      exact hp
    · cases hf
end Go.Proofs.YtadcgjmhhodnoaaDoorQ
