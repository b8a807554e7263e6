/-
  What stands between quotes: each span begins behind an opening mark and goes up to a closing one or the end; no mark within, and none between two of them. Plain Lean; no program in sight.
-/
import Derived.Test.YtadcgjmhhodnoaaDoorQu
namespace Go.Proofs.YtadcgjmhhodnoaaDoorQ
open Go Go.RowKit Go.Proofs.YtadcgjmhhodnoaaDoorW.PrintWords
/-- All places below it have been looked at. -/
def endU (l : List (Nat × Nat)) : Nat := match l.getLast? with
  | none => 0
  | some x => x.2 + 1
theorem endU_nil : endU [] = 0 := rfl
theorem endU_snoc (l : List (Nat × Nat)) (x : Nat × Nat) : endU (l ++ [x]) = x.2 + 1 := by
  unfold endU
  rw [List.getLast?_append]
  rfl
structure SpanOk (s : ByteArray) (a : Nat) (x : Nat × Nat) : Prop where mk ::
  lo : a + 1 ≤ x.1
  le : x.1 ≤ x.2
  hi : x.2 ≤ s.size
  m1 : mkq s (x.1 - 1) = true
  m2 : x.2 < s.size → mkq s x.2 = true ∧ insq (mkq s) x.2 = false
  gap : ∀ j, a ≤ j → j < x.1 - 1 → mkq s j = false ∧ insq (mkq s) j = false
  mid : ∀ j, x.1 ≤ j → j < x.2 → mkq s j = false
  ins : ∀ j, x.1 - 1 ≤ j → j < x.2 → insq (mkq s) j = true
theorem prefix_snoc {α : Type} {pre l : List α} {x y : α} (h : pre ++ [x] <+: l ++ [y]) : pre ++ [x] <+: l ∨ (pre = l ∧ x = y) := by
  rcases List.prefix_concat_iff.1 h with e | e
  · have h1 := List.append_inj' e rfl
    exact .inr ⟨h1.1, by simpa using h1.2⟩
  · exact .inl e
structure StOk (s : ByteArray) (i : Nat) (st : List (Nat × Nat) × Option Nat) : Prop where mk ::
  good : ∀ pre x, pre ++ [x] <+: st.1 → SpanOk s (endU pre) x
  le : endU st.1 ≤ i
  non : st.2 = none → par (mkq s) i = false ∧ ∀ j, endU st.1 ≤ j → j < i → mkq s j = false ∧ insq (mkq s) j = false
  som : ∀ f, st.2 = some f → par (mkq s) i = true ∧ endU st.1 + 1 ≤ f ∧ f ≤ i ∧ mkq s (f - 1) = true ∧ (∀ j, endU st.1 ≤ j → j < f - 1 → mkq s j = false ∧ insq (mkq s) j = false) ∧
    (∀ j, f ≤ j → j < i → mkq s j = false) ∧ (∀ j, f - 1 ≤ j → j < i → insq (mkq s) j = true)
theorem insq_step (q : Nat → Bool) (i : Nat) : insq q i = (par q i ^^ q i) := rfl
theorem StOk.zero (s : ByteArray) : StOk s 0 ([], none) where
  good pre x h := by
    have := h.length_le
    simp at this
  le := Nat.le_refl _
  non _ := ⟨rfl, fun j _ h => absurd h (Nat.not_lt_zero _)⟩
  som f h := by cases h
theorem StOk.skip {s : ByteArray} {i : Nat} {st : List (Nat × Nat) × Option Nat} (h : StOk s i st) (hm : mkq s i = false) : StOk s (i + 1) st where
  good := h.good
  le := Nat.le_succ_of_le h.le
  non hn := by
    obtain ⟨h1, h2⟩ := h.non hn
    have h3 : insq (mkq s) i = false := by rw [insq_step, h1, hm]; rfl
    refine ⟨h3, fun j a b => ?_⟩
    rcases Nat.lt_succ_iff_lt_or_eq.1 b with b | rfl
    · exact h2 j a b
    · exact ⟨hm, h3⟩
  som f hf := by
    obtain ⟨h1, h2, h3, h4, h5, h6, h7⟩ := h.som f hf
    have h8 : insq (mkq s) i = true := by rw [insq_step, h1, hm]; rfl
    refine ⟨h8, h2, Nat.le_succ_of_le h3, h4, h5, fun j a b => ?_, fun j a b => ?_⟩
    · rcases Nat.lt_succ_iff_lt_or_eq.1 b with b | rfl
      · exact h6 j a b
      · exact hm
    · rcases Nat.lt_succ_iff_lt_or_eq.1 b with b | rfl
      · exact h7 j a b
      · exact h8
theorem StOk.step {s : ByteArray} {i : Nat} {st : List (Nat × Nat) × Option Nat} (h : StOk s i st) (hi : i < s.size) (hm : mkq s i = true) : StOk s (i + 1) (stepQ st i) := by
  obtain ⟨L, o⟩ := st
  cases o with
  | none =>
    obtain ⟨h1, h2⟩ := h.non rfl
    have h3 : insq (mkq s) i = true := by rw [insq_step, h1, hm]; rfl
    refine ⟨h.good, Nat.le_succ_of_le h.le, fun e => (by cases e), fun f hf => ?_⟩
    have hf : i + 1 = f := by
      have : some (i + 1) = some f := hf
      injection this
    subst hf
    refine ⟨h3, Nat.succ_le_succ h.le, Nat.le_refl _, hm, fun j a b => h2 j a (by omega), fun j a b => by omega, fun j a b => ?_⟩
    rw [show j = i by omega]
    exact h3
  | some f =>
    obtain ⟨h1, h2, h3, h4, h5, h6, h7⟩ := h.som f rfl
    have h8 : insq (mkq s) i = false := by rw [insq_step, h1, hm]; rfl
    have e1 : (stepQ (L, some f) i).1 = L ++ [(f, i)] := rfl
    refine ⟨fun pre x hp => ?_, ?_, fun _ => ⟨h8, fun j a b => ?_⟩, fun f hf => ?_⟩
    · rw [e1] at hp
      rcases prefix_snoc hp with hp | ⟨rfl, rfl⟩
      · exact h.good pre x hp
      · exact ⟨h2, h3, Nat.le_of_lt hi, h4, fun _ => ⟨hm, h8⟩, h5, h6, h7⟩
    · rw [e1, endU_snoc]
      exact Nat.le_refl _
    · rw [e1, endU_snoc] at a
      have a : i + 1 ≤ j := a
      omega
    · have : (none : Option Nat) = some f := hf
      cases this
def stU (s : ByteArray) (i : Nat) : List (Nat × Nat) × Option Nat := foldT ((List.range i).filter (mkq s))
theorem stU_succ (s : ByteArray) (i : Nat) : stU s (i + 1) = if mkq s i = true then stepQ (stU s i) i else stU s i := by
  unfold stU
  rw [List.range_succ, List.filter_append]
  cases h : mkq s i
  · simp [h]
  · simp only [List.filter_cons, h, if_true, List.filter_nil]
    exact foldT_snoc _ _
theorem stU_ok (s : ByteArray) : ∀ i, i ≤ s.size → StOk s i (stU s i)
  | 0, _ => StOk.zero s
  | i + 1, h => by
    have ih := stU_ok s i (by omega)
    rw [stU_succ]
    cases hm : mkq s i
    · rw [if_neg (by decide)]
      exact ih.skip hm
    · rw [if_pos rfl]
      exact ih.step (by omega) hm
theorem texts_spans (s : ByteArray) : (∀ pre x, pre ++ [x] <+: textsL s → SpanOk s (endU pre) x) ∧ (∀ j, endU (textsL s) ≤ j → j < s.size → mkq s j = false ∧ insq (mkq s) j = false) ∧ endU (textsL s) ≤ s.size + 1 := by
  have h := stU_ok s s.size (Nat.le_refl _)
  have e : textsL s = endT (stU s s.size) s.size := rfl
  rw [e]
  clear e
  generalize stU s s.size = st at h ⊢
  obtain ⟨L, o⟩ := st
  cases o with
  | none => exact ⟨h.good, (h.non rfl).2, Nat.le_succ_of_le h.le⟩
  | some f =>
    obtain ⟨h1, h2, h3, h4, h5, h6, h7⟩ := h.som f rfl
    have e1 : endT (L, some f) s.size = L ++ [(f, s.size)] := rfl
    rw [e1, endU_snoc]
    refine ⟨fun pre x hp => ?_, fun j a b => by (have a : s.size + 1 ≤ j := a); omega, Nat.le_refl _⟩
    rcases prefix_snoc hp with hp | ⟨rfl, rfl⟩
    · exact h.good pre x hp
    · exact ⟨h2, h3, Nat.le_refl _, h4, fun c => absurd c (Nat.lt_irrefl _), h5, h6, h7⟩
end Go.Proofs.YtadcgjmhhodnoaaDoorQ
