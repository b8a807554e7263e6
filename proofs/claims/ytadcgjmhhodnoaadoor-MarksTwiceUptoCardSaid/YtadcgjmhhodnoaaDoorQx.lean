/-
  A text without its blanks outside, where no backslash stands outside: its marks are those of the text, it has no blank outside, and what stands between its quotes is what stood there. Plain Lean; no program in sight.
-/
import Derived.Test.YtadcgjmhhodnoaaDoorQk
import Derived.Test.YtadcgjmhhodnoaaDoorQu
import Derived.Laws.BytesArg
namespace Go.Proofs.YtadcgjmhhodnoaaDoorQ
open Go Go.RowKit Go.Proofs.YtadcgjmhhodnoaaDoorW.PrintWords
/-- How many of the first i bytes are kept. -/
def kpB (s : ByteArray) : Nat → Nat
  | 0 => 0
  | i + 1 => kpB s i + (if blq s i then 0 else 1)
theorem kpB_drop {s : ByteArray} {i : Nat} (h : blq s i = true) : kpB s (i + 1) = kpB s i := by
  show kpB s i + _ = _
  rw [if_pos h]
  rfl
theorem kpB_keep {s : ByteArray} {i : Nat} (h : blq s i = false) : kpB s (i + 1) = kpB s i + 1 := by
  show kpB s i + _ = _
  rw [h]
  rfl
/-- t is s without the blanks outside. -/
structure MinOf (s t : ByteArray) : Prop where mk ::
  size : t.size = kpB s s.size
  byte : ∀ i, i < s.size → blq s i = false → bt t (kpB s i : Int) = bt s (i : Int)
/-- No backslash stands outside. -/
def NoBs (s : ByteArray) : Prop := ∀ i, i < s.size → bt s (i : Int) = 92 → insS s i = true
theorem blq_out {s : ByteArray} {i : Nat} (h : blq s i = true) : blx (bt s (i : Int)).toNat = true ∧ mkq s i = false ∧ insS s i = false := by
  unfold blq outq at h
  simp only [Bool.and_eq_true, Bool.not_eq_true', Bool.or_eq_false_iff] at h
  exact ⟨h.1, h.2.1, h.2.2⟩
theorem ins_par (s : ByteArray) (i : Nat) : insS s i = par (mkq s) (i + 1) := rfl
theorem blank_no {s : ByteArray} {i : Nat} (h : blq s i = true) : bt s (i : Int) ≠ 92 := fun e => by
  have h1 := (blq_out h).1
  rw [e] at h1
  exact absurd h1 (by decide)
/-- A blank outside is not escaped. -/
theorem blank_esc {s : ByteArray} (hn : NoBs s) {i : Nat} (hi : i < s.size) (h : blq s i = true) : esc s false i = false := by
  cases i with
  | zero => rfl
  | succ j =>
    obtain ⟨_, h2, h3⟩ := blq_out h
    show (decide (bt s (j : Int) = 92) && !esc s false j) = false
    by_cases g : bt s (j : Int) = 92
    · have h4 := hn j (by omega) g
      rw [ins_par, par_succ, h2] at h3
      rw [ins_par] at h4
      rw [h4] at h3
      cases h3
    · rw [decide_eq_false g]
      rfl
/-- The state behind the first i bytes is the state behind those that are kept. -/
theorem min_state {s t : ByteArray} (hm : MinOf s t) (hn : NoBs s) : ∀ i, i ≤ s.size → esc t false (kpB s i) = esc s false i ∧ par (mkq t) (kpB s i) = par (mkq s) i
  | 0, _ => ⟨rfl, rfl⟩
  | i + 1, hi => by
    obtain ⟨h1, h2⟩ := min_state hm hn i (by omega)
    cases hb : blq s i
    · have h3 := hm.byte i (by omega) hb
      rw [kpB_keep hb]
      have e1 : mkq t (kpB s i) = mkq s i := by unfold mkq; rw [h3, h1]
      refine ⟨?_, ?_⟩
      · show (decide (bt t (kpB s i : Int) = 92) && !esc t false (kpB s i)) = (decide (bt s (i : Int) = 92) && !esc s false i)
        rw [h3, h1]
      · rw [par_succ, par_succ, h2, e1]
    · rw [kpB_drop hb]
      have h4 := blank_esc hn (by omega) hb
      refine ⟨?_, ?_⟩
      · show _ = (decide (bt s (i : Int) = 92) && !esc s false i)
        rw [h1, h4, decide_eq_false (blank_no hb)]
        rfl
      · rw [par_succ, (blq_out hb).2.1, h2]
        simp
theorem min_mark {s t : ByteArray} (hm : MinOf s t) (hn : NoBs s) {i : Nat} (hi : i < s.size) (hb : blq s i = false) : mkq t (kpB s i) = mkq s i := by
  unfold mkq
  rw [hm.byte i hi hb, (min_state hm hn i (by omega)).1]
theorem min_blq {s t : ByteArray} (hm : MinOf s t) (hn : NoBs s) {i : Nat} (hi : i < s.size) (hb : blq s i = false) : blq t (kpB s i) = false := by
  have h1 := min_mark hm hn hi hb
  have h2 : insS t (kpB s i) = insS s i := by
    rw [ins_par, ins_par, par_succ, par_succ, (min_state hm hn i (by omega)).2, h1]
  rw [← hb]
  unfold blq outq
  rw [h1, h2, hm.byte i hi hb]
/-- Every place of the text comes from one that is kept. -/
theorem min_from (s : ByteArray) : ∀ n j, j < kpB s n → ∃ i, i < n ∧ blq s i = false ∧ kpB s i = j
  | 0, j, h => absurd h (Nat.not_lt_zero _)
  | n + 1, j, h => by
    cases hb : blq s n
    · rw [kpB_keep hb] at h
      by_cases e : j = kpB s n
      · exact ⟨n, Nat.lt_succ_self _, hb, e.symm⟩
      · obtain ⟨i, h1, h2, h3⟩ := min_from s n j (by omega)
        exact ⟨i, by omega, h2, h3⟩
    · rw [kpB_drop hb] at h
      obtain ⟨i, h1, h2, h3⟩ := min_from s n j h
      exact ⟨i, by omega, h2, h3⟩
theorem min_noblank {s t : ByteArray} (hm : MinOf s t) (hn : NoBs s) (j : Nat) (hj : j < t.size) : blq t j = false := by
  rw [hm.size] at hj
  obtain ⟨i, h1, h2, rfl⟩ := min_from s s.size j hj
  exact min_blq hm hn h1 h2
/-- Two spans hold the same bytes. -/
structure SameSp (s t : ByteArray) (x y : Nat × Nat) : Prop where mk ::
  lx : x.1 ≤ x.2
  hx : x.2 ≤ s.size
  ly : y.1 ≤ y.2
  hy : y.2 ≤ t.size
  len : x.2 - x.1 = y.2 - y.1
  byte : ∀ k, k < x.2 - x.1 → bt s ((x.1 + k : Nat) : Int) = bt t ((y.1 + k : Nat) : Int)
/-- Two lists, place by place. -/
def All2 {α β : Type} (R : α → β → Prop) (l : List α) (m : List β) : Prop := l.length = m.length ∧ ∀ (i : Nat) (x : α) (y : β), l[i]? = some x → m[i]? = some y → R x y
theorem All2.nil {α β : Type} {R : α → β → Prop} : All2 R [] [] := ⟨rfl, fun i x y h => by simp at h⟩
theorem All2.snoc {α β : Type} {R : α → β → Prop} {l : List α} {m : List β} {x : α} {y : β} (h : All2 R l m) (r : R x y) : All2 R (l ++ [x]) (m ++ [y]) := by
  obtain ⟨h1, h2⟩ := h
  refine ⟨by simp [h1], fun i a b ha hb => ?_⟩
  by_cases hi : i < l.length
  · rw [List.getElem?_append_left hi] at ha
    rw [List.getElem?_append_left (by omega)] at hb
    exact h2 i a b ha hb
  · rw [List.getElem?_append_right (by omega)] at ha hb
    rw [← h1] at hb
    obtain ⟨d, hd⟩ : ∃ d, i - l.length = d := ⟨_, rfl⟩
    rw [hd] at ha hb
    cases d with
    | zero =>
      simp at ha hb
      rw [← ha, ← hb]
      exact r
    | succ d => simp at ha
/-- The marks below a place, what they tell so far. -/
def stT (s : ByteArray) (i : Nat) : List (Nat × Nat) × Option Nat := foldT ((List.range i).filter (mkq s))
theorem stT_succ (s : ByteArray) (i : Nat) : stT s (i + 1) = if mkq s i = true then stepQ (stT s i) i else stT s i := by
  unfold stT
  rw [List.range_succ, List.filter_append]
  cases h : mkq s i
  · simp [h]
  · simp only [List.filter_cons, h, if_true, List.filter_nil]
    exact foldT_snoc _ _
theorem stT_par (s : ByteArray) : ∀ i, (stT s i).2.isSome = par (mkq s) i
  | 0 => rfl
  | i + 1 => by
    have h := stT_par s i
    rw [stT_succ, par_succ]
    cases hm : mkq s i
    · rw [if_neg (by decide), h, Bool.xor_false]
    · rw [if_pos rfl, ← h]
      unfold stepQ
      cases (stT s i).2 <;> rfl
structure StRel (s t : ByteArray) (i j : Nat) (a b : List (Nat × Nat) × Option Nat) : Prop where mk ::
  ls : All2 (SameSp s t) a.1 b.1
  non : a.2 = none → b.2 = none
  som : ∀ f, a.2 = some f → ∃ g, b.2 = some g ∧ SameSp s t (f, i) (g, j)
theorem min_spans {s t : ByteArray} (hm : MinOf s t) (hn : NoBs s) : ∀ i, i ≤ s.size → kpB s i ≤ t.size → StRel s t i (kpB s i) (stT s i) (stT t (kpB s i))
  | 0, _, _ => ⟨All2.nil, fun _ => rfl, fun f h => by cases h⟩
  | i + 1, hi, hk => by
    cases hb : blq s i
    · rw [kpB_keep hb] at hk ⊢
      have ih := min_spans hm hn i (by omega) (by omega)
      have h1 := min_mark hm hn (show i < s.size by omega) hb
      have h2 := hm.byte i (by omega) hb
      rw [stT_succ, stT_succ, h1]
      generalize stT s i = sa at ih ⊢
      generalize stT t (kpB s i) = sb at ih ⊢
      obtain ⟨La, oa⟩ := sa
      obtain ⟨Lb, ob⟩ := sb
      cases hq : mkq s i
      · rw [if_neg (by decide), if_neg (by decide)]
        refine ⟨ih.ls, ih.non, fun f hf => ?_⟩
        obtain ⟨g, e1, q⟩ := ih.som f hf
        obtain ⟨q1, q2, q3, q4, q5, q6⟩ := q
        simp only at q1 q2 q3 q4 q5 q6
        refine ⟨g, e1, by simp only; omega, by simp only; omega, by simp only; omega, by simp only; omega, by simp only; omega, fun k hk => ?_⟩
        simp only at hk ⊢
        by_cases e : k < i - f
        · exact q6 k e
        · rw [show f + k = i by omega, show g + k = kpB s i by omega, h2]
      · rw [if_pos rfl, if_pos rfl]
        cases oa with
        | none =>
          have e1 : ob = none := ih.non rfl
          subst e1
          refine ⟨ih.ls, fun e => (by cases e), fun f hf => ?_⟩
          have hf : f = i + 1 := by
            have : some (i + 1) = some f := hf
            injection this with this
            exact this.symm
          subst hf
          exact ⟨_, rfl, by simp only; omega, by simp only; omega, by simp only; omega, by simp only; omega, by simp, fun k hk => by simp at hk⟩
        | some f =>
          obtain ⟨g, e1, q⟩ := ih.som f rfl
          have e1 : ob = some g := e1
          subst e1
          refine ⟨?_, fun _ => rfl, fun f hf => ?_⟩
          · exact ih.ls.snoc q
          · have : (none : Option Nat) = some f := hf
            cases this
    · rw [kpB_drop hb] at hk ⊢
      have ih := min_spans hm hn i (by omega) hk
      have hq := (blq_out hb).2.1
      have hp : par (mkq s) i = false := by
        have h := (blq_out hb).2.2
        rw [ins_par, par_succ, hq] at h
        simpa using h
      rw [stT_succ, hq, if_neg (by decide)]
      have h3 := stT_par s i
      rw [hp] at h3
      refine ⟨ih.ls, ih.non, fun f hf => ?_⟩
      rw [hf] at h3
      cases h3
theorem min_texts {s t : ByteArray} (hm : MinOf s t) (hn : NoBs s) : All2 (SameSp s t) (textsL s) (textsL t) := by
  have h := min_spans hm hn s.size (Nat.le_refl _) (by rw [hm.size]; exact Nat.le_refl _)
  have e1 : textsL s = endT (stT s s.size) s.size := rfl
  have e2 : textsL t = endT (stT t (kpB s s.size)) t.size := by rw [← hm.size]; rfl
  rw [e1, e2]
  have hz := hm.size
  generalize stT s s.size = a at h ⊢
  generalize stT t (kpB s s.size) = b at h ⊢
  obtain ⟨La, oa⟩ := a
  obtain ⟨Lb, ob⟩ := b
  cases oa with
  | none =>
    have e : ob = none := h.non rfl
    subst e
    exact h.ls
  | some f =>
    obtain ⟨g, e, q⟩ := h.som f rfl
    have e : ob = some g := e
    subst e
    rw [← hz] at q
    exact h.ls.snoc q
/-- The bytes of such spans are the same text. -/
theorem same_extract {s t : ByteArray} {x y : Nat × Nat} (h : SameSp s t x y) : s.extract x.1 x.2 = t.extract y.1 y.2 := by
  obtain ⟨h1, h2, h3, h4, h5, h6⟩ := h
  apply ByteArray.ext
  apply Array.ext
  · show (s.extract x.1 x.2).size = (t.extract y.1 y.2).size
    rw [ByteArray.size_extract, ByteArray.size_extract]
    omega
  · intro k hk1 hk2
    have hk : k < (s.extract x.1 x.2).size := hk1
    have hk' : k < (t.extract y.1 y.2).size := hk2
    rw [ByteArray.size_extract] at hk hk'
    have a1 : (s.extract x.1 x.2)[k]'hk1 = s[x.1 + k]'(by omega) := ByteArray.getElem_extract hk1
    have a2 : (t.extract y.1 y.2)[k]'hk2 = t[y.1 + k]'(by omega) := ByteArray.getElem_extract hk2
    have h7 := h6 k (by omega)
    unfold bt at h7
    simp only [Int.toNat_natCast] at h7
    rw [dif_pos (show x.1 + k < s.size by omega), dif_pos (show y.1 + k < t.size by omega)] at h7
    have h8 : s[x.1 + k]'(by omega) = t[y.1 + k]'(by omega) := UInt8.toNat_inj.1 (by omega)
    show (s.extract x.1 x.2)[k]'hk1 = (t.extract y.1 y.2)[k]'hk2
    rw [a1, a2, h8]
/-- Texts of one length and the same bytes. -/
theorem bytes_ext {s t : ByteArray} (hz : s.size = t.size) (h : ∀ i, i < s.size → bt s (i : Int) = bt t (i : Int)) : s = t := by
  apply ByteArray.ext
  apply Array.ext
  · exact hz
  · intro k hk1 hk2
    have a1 : k < s.size := hk1
    have a2 : k < t.size := hk2
    have h7 := h k a1
    unfold bt at h7
    simp only [Int.toNat_natCast] at h7
    rw [dif_pos a1, dif_pos a2] at h7
    have h8 : s[k]'a1 = t[k]'a2 := UInt8.toNat_inj.1 (by omega)
    exact h8
/-- The bytes that are no blanks outside. -/
def minL (s : ByteArray) (i : Nat) : List Int := ((List.range i).filter fun j => !blq s j).map fun (j : Nat) => bt s (j : Int)
theorem minL_succ (s : ByteArray) (i : Nat) : minL s (i + 1) = if blq s i then minL s i else minL s i ++ [bt s (i : Int)] := by
  unfold minL
  rw [List.range_succ, List.filter_append, List.map_append]
  cases h : blq s i <;> simp [h]
theorem minL_len (s : ByteArray) : ∀ i, (minL s i).length = kpB s i
  | 0 => rfl
  | i + 1 => by
    have ih := minL_len s i
    rw [minL_succ]
    cases h : blq s i
    · rw [kpB_keep h, ← ih]
      simp
    · rw [kpB_drop h, ← ih]
      simp
theorem kpB_mono (s : ByteArray) : ∀ i d, kpB s i ≤ kpB s (i + d)
  | i, 0 => Nat.le_refl _
  | i, d + 1 => by
    have := kpB_mono s i d
    show _ ≤ kpB s (i + d) + _
    omega
theorem minL_get (s : ByteArray) : ∀ n i, i < n → blq s i = false → (minL s n)[kpB s i]? = some (bt s (i : Int))
  | 0, i, h, _ => absurd h (Nat.not_lt_zero _)
  | n + 1, i, h, hb => by
    rw [minL_succ]
    by_cases e : i = n
    · subst e
      rw [hb]
      show (minL s i ++ [bt s (i : Int)])[kpB s i]? = _
      rw [List.getElem?_append_right (by rw [minL_len]; exact Nat.le_refl _), minL_len, Nat.sub_self]
      rfl
    · have ih := minL_get s n i (by omega) hb
      cases hn : blq s n
      · show (minL s n ++ [bt s (n : Int)])[kpB s i]? = _
        rw [List.getElem?_append_left (List.getElem?_eq_some_iff.1 ih).1]
        exact ih
      · exact ih
def minT (s : ByteArray) : ByteArray := strOfNums (minL s s.size)
theorem minT_size (s : ByteArray) : (minT s).size = kpB s s.size := by
  unfold minT
  rw [strOfNums_size, minL_len]
theorem kpB_le (s : ByteArray) : ∀ i, kpB s i ≤ i
  | 0 => Nat.le_refl _
  | i + 1 => by
    have := kpB_le s i
    show kpB s i + (if blq s i then 0 else 1) ≤ i + 1
    split <;> omega
theorem bt_nums (l : List Int) (j : Nat) (x : Int) (h : l[j]? = some x) (h0 : 0 ≤ x) (h1 : x ≤ 255) : bt (strOfNums l) (j : Int) = x := by
  have hj : j < l.length := (List.getElem?_eq_some_iff.1 h).1
  unfold bt
  simp only [Int.toNat_natCast]
  rw [dif_pos (by rw [strOfNums_size]; exact hj)]
  have e : (strOfNums l)[j]'(by rw [strOfNums_size]; exact hj) = UInt8.ofNat x.toNat := by
    have h2 : (strOfNums l).data.toList[j]? = some (UInt8.ofNat x.toNat) := by
      rw [strOfNums_data, List.getElem?_map, h]
      rfl
    rw [Array.getElem?_toList] at h2
    exact (Array.getElem?_eq_some_iff.1 h2).2
  rw [e, UInt8.toNat_ofNat']
  omega
theorem minT_of (s : ByteArray) : MinOf s (minT s) where
  size := minT_size s
  byte i hi hb := by
    have hr := bt_range s (i : Int)
    exact bt_nums _ _ _ (minL_get s s.size i hi hb) hr.1 hr.2
theorem minT_self (s : ByteArray) (h : ∀ j, j < s.size → blq s j = false) : minT s = s := by
  have hk : ∀ i, i ≤ s.size → kpB s i = i := fun i => by
    induction i with
    | zero => exact fun _ => rfl
    | succ i ih =>
      intro hi
      rw [kpB_keep (h i (by omega)), ih (by omega)]
  refine bytes_ext (by rw [minT_size, hk _ (Nat.le_refl _)]) fun i hi => ?_
  rw [minT_size, hk _ (Nat.le_refl _)] at hi
  have h1 := (minT_of s).byte i hi (h i hi)
  rwa [hk i (by omega)] at h1
/-- Twice is once. -/
theorem minT_twice (s : ByteArray) (hn : NoBs s) : minT (minT s) = minT s := minT_self _ fun j hj => min_noblank (minT_of s) hn j hj
end Go.Proofs.YtadcgjmhhodnoaaDoorQ
