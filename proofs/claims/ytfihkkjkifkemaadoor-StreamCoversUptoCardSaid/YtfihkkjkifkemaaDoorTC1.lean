/- Parts of a claim (TC), packed by a program (pack.py) out of the texts that it names. -/
import Derived.Carry
import Derived.Maps.OwnIn
import Derived.Maps.Views
import Derived.Test.YtfihkkjkifkemaaDoorProg
import Derived.Below
import Derived.Deep.Draws
import Derived.Deep.AppendLies
import Derived.Maps.AppendAt
import Derived.OwnWalk
import Derived.Laws.BytesArg
import Derived.Laws.MakeOwn
import Derived.Laws.OwnMore
import Derived.Deep.OwnRows
import Derived.Tactics
import Derived.Lib.ConvBytes
import Derived.Laws.Slices
import Derived.WalkKit
import Derived.KernelRfl
import Derived.RowKit3
import Derived.Deep.LoopGhost
import Derived.Deep.QuietTactic
import Derived.BigQuiet
import Derived.WideLaws
import Derived.Deep.DeepCutAuto
import Derived.Deep.CutBlock
import Derived.Deep.RegionHeld3
import Derived.Laws.Rows
import Derived.Lib.AppendStr
import Derived.ArgAppend
import Derived.Laws.IdiomCopy
import Derived.OrdersHeld
import Derived.Laws.BitsLemmas
import Derived.RowKit
import Derived.Test.YtfihkkjkifkemaaDoorTC0
-- Ru
section
namespace Go.Proofs.YtfihkkjkifkemaaDoorQ
open Go Go.RowKit Go.Proofs.YtfihkkjkifkemaaDoorW.PrintWords
/-- The place of the lowest set bit of a word, 64 of none. -/
def tzW (x : BitVec 64) : Nat := if x = 0#64 then 64 else Lib.ctz 64 x.toNat
theorem tzW_word (q : Nat → Bool) : (tzW (word q) = 64 ∧ ∀ j, j < 64 → q j = false) ∨ (tzW (word q) < 64 ∧ q (tzW (word q)) = true ∧ ∀ j, j < tzW (word q) → q j = false) := by
  rw [← upW_zero]
  by_cases h : upW q 0 = 0#64
  · left
    exact ⟨if_pos h, fun j hj => up_none q 0 h j (Nat.zero_le _) hj⟩
  · right
    obtain ⟨k, hk, _, h64, hq, hl, _⟩ := up_next q 0 h
    have e : tzW (upW q 0) = k := by rw [hk]; exact if_neg h
    rw [e]
    exact ⟨h64, hq, fun j hj => hl j (Nat.zero_le _) hj⟩
theorem word_ushr (q : Nat → Bool) (i : Nat) : word q >>> i = word fun j => decide (i + j < 64) && q (i + j) := by
  refine BitVec.eq_of_getLsbD_eq fun j hj => ?_
  rw [BitVec.getLsbD_ushiftRight, word_bit, word_bit, decide_eq_true hj, Bool.true_and]
theorem word_not (q : Nat → Bool) : ~~~ (word q) = word fun j => !(q j) := by
  refine BitVec.eq_of_getLsbD_eq fun j hj => ?_
  rw [BitVec.getLsbD_not, word_bit, word_bit, decide_eq_true hj, Bool.true_and, Bool.true_and, Bool.true_and]
/-- The runs of a word's bits from a place on: what words.Runs tells. -/
def runsF (q : Nat → Bool) : Nat → Nat → List (Nat × Nat)
  | 0, _ => []
  | f + 1, i =>
    let a := i + tzW (word q >>> i)
    if 64 ≤ a then [] else (a, tzW (~~~ (word q >>> a))) :: runsF q f (a + tzW (~~~ (word q >>> a)))
theorem runsF_succ (q : Nat → Bool) (f i : Nat) : runsF q (f + 1) i = if 64 ≤ i + tzW (word q >>> i) then [] else (i + tzW (word q >>> i), tzW (~~~ (word q >>> (i + tzW (word q >>> i))))) :: runsF q f (i + tzW (word q >>> i) + tzW (~~~ (word q >>> (i + tzW (word q >>> i))))) := rfl
/-- The next set bit. -/
theorem runs_at (q : Nat → Bool) (i : Nat) (hi : i ≤ 64) : (64 ≤ i + tzW (word q >>> i) ∧ ∀ j, i ≤ j → j < 64 → q j = false) ∨ (i + tzW (word q >>> i) < 64 ∧ q (i + tzW (word q >>> i)) = true ∧ ∀ j, i ≤ j → j < i + tzW (word q >>> i) → q j = false) := by
  rw [word_ushr]
  rcases tzW_word (fun j => decide (i + j < 64) && q (i + j)) with ⟨h1, h2⟩ | ⟨h1, h2, h3⟩
  · left
    refine ⟨by omega, fun j ha hb => ?_⟩
    have := h2 (j - i) (by omega)
    rw [show i + (j - i) = j by omega, decide_eq_true hb, Bool.true_and] at this
    exact this
  · right
    simp only [Bool.and_eq_true, decide_eq_true_eq] at h2
    refine ⟨h2.1, h2.2, fun j ha hb => ?_⟩
    have := h3 (j - i) (by omega)
    rw [show i + (j - i) = j by omega, decide_eq_true (show j < 64 by omega), Bool.true_and] at this
    exact this
/-- How long a run is. -/
theorem runs_len (q : Nat → Bool) (a : Nat) (ha : a < 64) (hq : q a = true) : 0 < tzW (~~~ (word q >>> a)) ∧ a + tzW (~~~ (word q >>> a)) ≤ 64 ∧ (∀ j, a ≤ j → j < a + tzW (~~~ (word q >>> a)) → q j = true) ∧ (a + tzW (~~~ (word q >>> a)) < 64 → q (a + tzW (~~~ (word q >>> a))) = false) := by
  rw [word_ushr, word_not]
  rcases tzW_word (fun j => !(decide (a + j < 64) && q (a + j))) with ⟨h1, h2⟩ | ⟨h1, h2, h3⟩
  · rw [h1]
    have h0 : a = 0 := by
      apply Classical.byContradiction
      intro hn
      have := h2 (64 - a) (by omega)
      simp [show ¬ (a + (64 - a) < 64) by omega] at this
    subst h0
    refine ⟨by omega, by omega, fun j _ hj => ?_, fun h => absurd h (by omega)⟩
    have := h2 j (by omega)
    simp only [Nat.zero_add, Bool.not_eq_false', Bool.and_eq_true, decide_eq_true_eq] at this
    exact this.2
  · revert h1 h2 h3
    generalize tzW (word fun j => !(decide (a + j < 64) && q (a + j))) = n
    intro h1 h2 h3
    have hp : 0 < n := by
      rcases Nat.eq_zero_or_pos n with e | e
      · subst e
        simp [hq, ha] at h2
      · exact e
    have hle : a + n ≤ 64 := by
      apply Classical.byContradiction
      intro hn
      have := h3 (64 - a) (by omega)
      simp [show ¬ (a + (64 - a) < 64) by omega] at this
    refine ⟨hp, hle, fun j hj hb => ?_, fun h => ?_⟩
    · have := h3 (j - a) (by omega)
      rw [show a + (j - a) = j by omega] at this
      simp only [Bool.not_eq_false', Bool.and_eq_true, decide_eq_true_eq] at this
      exact this.2
    · simpa [h] using h2
/-- The runs of places at which W holds, from a place on, so many places; o: where the run begins in which we are. -/
def spW (W : Nat → Bool) : Nat → Option Nat → Nat → List (Nat × Nat)
  | 0, o, p => match o with | none => [] | some f => [(f, p)]
  | m + 1, o, p => if W p then spW W m (some (o.getD p)) (p + 1) else (match o with | none => [] | some f => [(f, p)]) ++ spW W m none (p + 1)
theorem spW_in (W : Nat → Bool) (f : Nat) : ∀ (n m p : Nat), (∀ j, p ≤ j → j < p + n → W j = true) → spW W (n + m) (some f) p = spW W m (some f) (p + n)
  | 0, m, p, _ => by rw [Nat.zero_add, Nat.add_zero]
  | n + 1, m, p, h => by
    rw [show n + 1 + m = (n + m) + 1 by omega, spW, if_pos (h p (Nat.le_refl _) (by omega)), Option.getD_some, spW_in W f n m (p + 1) (fun j h1 h2 => h j (by omega) (by omega)), show p + 1 + n = p + (n + 1) by omega]
theorem spW_out (W : Nat → Bool) : ∀ (n m p : Nat), (∀ j, p ≤ j → j < p + n → W j = false) → spW W (n + m) none p = spW W m none (p + n)
  | 0, m, p, _ => by rw [Nat.zero_add, Nat.add_zero]
  | n + 1, m, p, h => by
    rw [show n + 1 + m = (n + m) + 1 by omega, spW, if_neg (by rw [h p (Nat.le_refl _) (by omega)]; decide), List.nil_append, spW_out W n m (p + 1) (fun j h1 h2 => h j (by omega) (by omega)), show p + 1 + n = p + (n + 1) by omega]
theorem spW_open (W : Nat → Bool) (n m p : Nat) (hn : 0 < n) (h : ∀ j, p ≤ j → j < p + n → W j = true) : spW W (n + m) none p = spW W m (some p) (p + n) := by
  obtain ⟨k, rfl⟩ : ∃ k, n = k + 1 := ⟨n - 1, by omega⟩
  rw [show k + 1 + m = (k + m) + 1 by omega, spW, if_pos (h p (Nat.le_refl _) (by omega)), Option.getD_none, spW_in W p k m (p + 1) (fun j h1 h2 => h j (by omega) (by omega)), show p + 1 + k = p + (k + 1) by omega]
theorem spW_shut (W : Nat → Bool) (m f p : Nat) (h : W p = false) : spW W (m + 1) (some f) p = (f, p) :: spW W (m + 1) none p := by
  rw [spW, if_neg (by rw [h]; decide), spW, if_neg (by rw [h]; decide)]
  rfl
/-- What marks.Words tells of a row's runs, and where the run begins in which it ends. -/
def rowT (b : Nat) : List (Nat × Nat) → Option Nat → List (Nat × Nat) × Option Nat
  | [], o => ([], o)
  | (i, n) :: l, o => if i + n = 64 then ([], some (o.getD (b + i))) else ((o.getD (b + i), b + i + n) :: (rowT b l none).1, (rowT b l none).2)
theorem rowT_go (W q : Nat → Bool) (b m : Nat) (hq : ∀ j, j < 64 → q j = W (b + j)) : ∀ (fu i : Nat) (o : Option Nat), i ≤ 64 → 65 - i ≤ fu → (o ≠ none → i < 64 ∧ q i = true) →
    spW W (64 - i + m) o (b + i) = (rowT b (runsF q fu i) o).1 ++ spW W m (rowT b (runsF q fu i) o).2 (b + 64)
  | 0, i, o, hi, hf, _ => absurd hf (by omega)
  | fu + 1, i, o, hi, hf, ho => by
    unfold runsF
    rcases runs_at q i hi with ⟨h1, h2⟩ | ⟨h1, h2, h3⟩
    · have e : o = none := by
        cases o with
        | none => rfl
        | some f =>
          have := ho (by simp)
          have h := h2 i (Nat.le_refl _) this.1
          rw [this.2] at h
          cases h
      subst e
      simp only [if_pos h1, rowT, List.nil_append]
      rw [spW_out W (64 - i) m (b + i) (fun j ha hb => by
        have := hq (j - b) (by omega)
        rw [show b + (j - b) = j by omega] at this
        rw [← this]
        exact h2 _ (by omega) (by omega)), show b + i + (64 - i) = b + 64 by omega]
    · simp only [if_neg (show ¬ 64 ≤ i + tzW (word q >>> i) by omega)]
      have hl := runs_len q (i + tzW (word q >>> i)) h1 h2
      have hia : i ≤ i + tzW (word q >>> i) := Nat.le_add_right _ _
      revert hl h1 h2 h3 hia
      generalize i + tzW (word q >>> i) = a
      intro h1 h2 h3 hl hia
      revert hl
      generalize tzW (~~~ (word q >>> a)) = n
      rintro ⟨hn, hle, hin, hend⟩
      have hW : ∀ j, b + a ≤ j → j < b + a + n → W j = true := fun j ha hb => by
        have := hq (j - b) (by omega)
        rw [show b + (j - b) = j by omega] at this
        rw [← this]
        exact hin _ (by omega) (by omega)
      have hopen : spW W (64 - i + m) o (b + i) = spW W (64 - (a + n) + m) (some (o.getD (b + a))) (b + a + n) := by
        cases o with
        | some f =>
          have hi2 := ho (by simp)
          have e : a = i := by
            apply Classical.byContradiction
            intro hc
            have := h3 i (Nat.le_refl _) (by omega)
            rw [hi2.2] at this
            cases this
          subst e
          rw [show 64 - a + m = n + (64 - (a + n) + m) by omega, spW_in W f n _ (b + a) hW]
          rfl
        | none =>
          rw [show 64 - i + m = (a - i) + (n + (64 - (a + n) + m)) by omega, spW_out W (a - i) _ (b + i) (fun j ha hb => by
            have := hq (j - b) (by omega)
            rw [show b + (j - b) = j by omega] at this
            rw [← this]
            exact h3 _ (by omega) (by omega)), show b + i + (a - i) = b + a by omega, spW_open W n _ (b + a) hn hW]
          rfl
      rw [hopen]
      unfold rowT
      by_cases h64 : a + n = 64
      · rw [if_pos h64, h64, show 64 - 64 + m = m by omega, List.nil_append, show b + a + n = b + 64 by omega]
      · rw [if_neg h64, List.cons_append]
        have hWe : W (b + a + n) = false := by
          have := hq (a + n) (by omega)
          rw [← Nat.add_assoc] at this
          rw [← this]
          exact hend (by omega)
        rw [show 64 - (a + n) + m = (64 - (a + n) - 1 + m) + 1 by omega, spW_shut W _ _ _ hWe, show (64 - (a + n) - 1 + m) + 1 = 64 - (a + n) + m by omega, ← rowT_go W q b m hq fu (a + n) none (by omega) (by omega) (fun h => absurd rfl h), Nat.add_assoc b a n]
/-- What one round of marks.Words tells ahead of the row's runs, and how it goes on. -/
def rowA (b : Nat) (q : Nat → Bool) : Option Nat → List (Nat × Nat) × Option Nat
  | none => ([], none)
  | some f => if q 0 then ([], some f) else ([(f, b)], none)
theorem rowA_go (W q : Nat → Bool) (b m : Nat) (hq : ∀ j, j < 64 → q j = W (b + j)) (o : Option Nat) :
    spW W (64 + m) o b = (rowA b q o).1 ++ spW W (64 + m) (rowA b q o).2 b := by
  cases o with
  | none => rfl
  | some f =>
    unfold rowA
    have h0 := hq 0 (by decide)
    cases h : q 0 with
    | true => simp
    | false =>
      rw [h, Nat.add_zero] at h0
      simp only [Bool.false_eq_true, if_false]
      rw [show 64 + m = 63 + m + 1 by omega, spW_shut W _ _ _ h0.symm]
      rfl
theorem rowA_open (b : Nat) (q : Nat → Bool) (o : Option Nat) (h : (rowA b q o).2 ≠ none) : 0 < 64 ∧ q 0 = true := by
  cases o with
  | none => exact absurd rfl h
  | some f =>
    unfold rowA at h
    cases hq : q 0 with
    | true => exact ⟨by decide, rfl⟩
    | false =>
      rw [hq] at h
      exact absurd rfl h
/-- One round of marks.Words. -/
theorem row_go (W q : Nat → Bool) (b m : Nat) (hq : ∀ j, j < 64 → q j = W (b + j)) (o : Option Nat) :
    spW W (64 + m) o b = (rowA b q o).1 ++ ((rowT b (runsF q 65 0) (rowA b q o).2).1 ++ spW W m (rowT b (runsF q 65 0) (rowA b q o).2).2 (b + 64)) := by
  rw [rowA_go W q b m hq o]
  have h := rowT_go W q b m hq 65 0 (rowA b q o).2 (by decide) (by decide) (rowA_open b q o)
  rw [Nat.sub_zero, Nat.add_zero] at h
  rw [h]
/-- Behind the last place at which W holds nothing more is told, but what is open. -/
theorem spW_tail (W : Nat → Bool) (n p : Nat) (h : ∀ j, p ≤ j → W j = false) : spW W n none p = [] := by
  have := spW_out W n 0 p (fun j h1 _ => h j h1)
  rw [Nat.add_zero] at this
  rw [this]
  rfl
theorem spW_end (W : Nat → Bool) (n : Nat) (o : Option Nat) (p : Nat) (h : ∀ j, p ≤ j → W j = false) : spW W n o p = spW W 0 o p := by
  cases n with
  | zero => rfl
  | succ n =>
    cases o with
    | none => rw [spW_tail W _ p h]; rfl
    | some f => rw [spW_shut W n f p (h p (Nat.le_refl _)), spW_tail W _ p h]; rfl
/-- So many places, and more behind them at which W does not hold. -/
theorem spW_more (W : Nat → Bool) : ∀ (m e : Nat) (o : Option Nat) (p : Nat), (∀ j, p + m ≤ j → W j = false) → spW W (m + e) o p = spW W m o p
  | 0, e, o, p, h => by rw [Nat.zero_add]; exact spW_end W e o p h
  | m + 1, e, o, p, h => by
    rw [show m + 1 + e = (m + e) + 1 by omega]
    simp only [spW]
    rw [spW_more W m e _ (p + 1) (fun j hj => h j (by omega)), spW_more W m e _ (p + 1) (fun j hj => h j (by omega))]
end Go.Proofs.YtfihkkjkifkemaaDoorQ
end
-- Rv
section
namespace Go.Proofs.YtfihkkjkifkemaaDoorQ
open Go Go.RowKit Go.Proofs.YtfihkkjkifkemaaDoorW.PrintWords
/-- Is the place p one of a word? -/
def wrdQ (s : ByteArray) (p : Nat) : Bool := decide (p < s.size) && wdq s p
/-- The words of a text. -/
def spansW (s : ByteArray) : List (Nat × Nat) := spW (wrdQ s) s.size none 0
theorem spansW_rows (s : ByteArray) : spW (wrdQ s) (64 * nwords s.size) none 0 = spansW s := by
  unfold spansW
  have h := spW_more (wrdQ s) s.size (64 * nwords s.size - s.size) none 0 (fun j hj => by
    unfold wrdQ
    rw [decide_eq_false (by omega), Bool.false_and])
  rw [← h]
  congr 1
  unfold nwords
  omega
theorem spW_bound (W : Nat → Bool) : ∀ (m : Nat) (o : Option Nat) (p : Nat) (x : Nat × Nat), x ∈ spW W m o p → p ≤ x.2 ∧ x.2 ≤ p + m
  | 0, none, p, x, h => by simp [spW] at h
  | 0, some f, p, x, h => by
    simp only [spW, List.mem_singleton] at h
    subst h
    exact ⟨Nat.le_refl _, Nat.le_refl _⟩
  | m + 1, o, p, x, h => by
    unfold spW at h
    by_cases hw : W p = true
    · rw [if_pos hw] at h
      have := spW_bound W m _ (p + 1) x h
      omega
    · rw [if_neg hw] at h
      rcases List.mem_append.1 h with h | h
      · cases o with
        | none => cases h
        | some f =>
          simp only [List.mem_singleton] at h
          subst h
          exact ⟨Nat.le_refl _, Nat.le_add_right _ _⟩
      · have := spW_bound W m _ (p + 1) x h
        omega
theorem rows_end (s : ByteArray) (l : List (Nat × Nat)) (f : Nat) (h : l ++ spW (wrdQ s) 0 (some f) (64 * nwords s.size) = spansW s) : 64 * nwords s.size = s.size := by
  have hm : (f, 64 * nwords s.size) ∈ spansW s := by
    rw [← h]
    exact List.mem_append_right _ (by simp [spW])
  have := (spW_bound _ _ _ _ _ hm).2
  unfold nwords at this ⊢
  omega
theorem runsF_mem (q : Nat → Bool) : ∀ (fu i : Nat) (x : Nat × Nat), i ≤ 64 → x ∈ runsF q fu i → i ≤ x.1 ∧ x.1 < 64 ∧ 0 < x.2 ∧ x.1 + x.2 ≤ 64
  | 0, i, x, _, h => by cases h
  | fu + 1, i, x, hi, h => by
    unfold runsF at h
    rcases runs_at q i hi with ⟨h1, _⟩ | ⟨h1, h2, _⟩
    · rw [if_pos h1] at h
      cases h
    · rw [if_neg (by omega)] at h
      have hl := runs_len q (i + tzW (word q >>> i)) h1 h2
      have hia : i ≤ i + tzW (word q >>> i) := Nat.le_add_right _ _
      revert h hl h1 hia
      generalize i + tzW (word q >>> i) = a
      generalize tzW (~~~ (word q >>> a)) = n
      intro h h1 hl hia
      rcases List.mem_cons.1 h with rfl | h
      · exact ⟨hia, h1, hl.1, hl.2.1⟩
      · have := runsF_mem q fu (a + n) x hl.2.1 h
        omega
/-- Behind some of a row's runs: what was told of it, and what is open. -/
structure RowSt (b : Nat) (rs : List (Nat × Nat)) (o1 : Option Nat) (pre tp : List (Nat × Nat)) (op : Option Nat) : Prop where mk ::
  out : ∃ rest, rs = pre ++ rest ∧ (rowT b rs o1).1 = tp ++ (rowT b rest op).1 ∧ (rowT b rs o1).2 = (rowT b rest op).2
theorem RowSt.start (b : Nat) (rs : List (Nat × Nat)) (o1 : Option Nat) : RowSt b rs o1 [] [] o1 := ⟨rs, rfl, rfl, rfl⟩
theorem RowSt.full {b : Nat} {rs : List (Nat × Nat)} {o1 : Option Nat} {pre tp : List (Nat × Nat)} {op : Option Nat} (h : RowSt b rs o1 pre tp op) {x : Nat × Nat} (hp : pre ++ [x] <+: rs) (hx : x.1 + x.2 = 64) : rowT b rs o1 = (tp, some (op.getD (b + x.1))) := by
  obtain ⟨rest, h1, h2, h3⟩ := h.out
  obtain ⟨t, ht⟩ := hp
  have e : rest = x :: t := by
    rw [h1, List.append_assoc] at ht
    exact (List.append_cancel_left ht).symm
  subst e
  obtain ⟨i, n⟩ := x
  simp only [rowT, if_pos hx, List.append_nil] at h2 h3
  exact Prod.ext h2 h3
theorem RowSt.next {b : Nat} {rs : List (Nat × Nat)} {o1 : Option Nat} {pre tp : List (Nat × Nat)} {op : Option Nat} (h : RowSt b rs o1 pre tp op) {x : Nat × Nat} (hp : pre ++ [x] <+: rs) (hx : x.1 + x.2 ≠ 64) :
    RowSt b rs o1 (pre ++ [x]) (tp ++ [(op.getD (b + x.1), b + x.1 + x.2)]) none ∧ tp ++ [(op.getD (b + x.1), b + x.1 + x.2)] <+: (rowT b rs o1).1 := by
  obtain ⟨rest, h1, h2, h3⟩ := h.out
  obtain ⟨t, ht⟩ := hp
  have e : rest = x :: t := by
    rw [h1, List.append_assoc] at ht
    exact (List.append_cancel_left ht).symm
  subst e
  obtain ⟨i, n⟩ := x
  simp only [rowT, if_neg hx] at h2 h3
  refine ⟨⟨t, by rw [h1, List.append_assoc]; rfl, by rw [h2, List.append_assoc]; rfl, h3⟩, ?_⟩
  rw [h2]
  exact ⟨(rowT b t none).1, by rw [List.append_assoc]; rfl⟩
theorem RowSt.end_ {b : Nat} {rs : List (Nat × Nat)} {o1 : Option Nat} {tp : List (Nat × Nat)} {op : Option Nat} (h : RowSt b rs o1 rs tp op) : rowT b rs o1 = (tp, op) := by
  obtain ⟨rest, h1, h2, h3⟩ := h.out
  have e : rest = [] := by
    have := congrArg List.length h1
    rw [List.length_append] at this
    exact List.eq_nil_of_length_eq_zero (by omega)
  subst e
  simp only [rowT, List.append_nil] at h2 h3
  exact Prod.ext h2 h3
/-- The words told ahead of row k, and the beginning of the open one. -/
structure WordSt (s : ByteArray) (k : Nat) (ts : List (Nat × Nat)) (o : Option Nat) : Prop where mk ::
  out : ts ++ spW (wrdQ s) (64 * (nwords s.size - k)) o (64 * k) = spansW s
theorem WordSt.start (s : ByteArray) : WordSt s 0 [] none := ⟨by rw [List.nil_append, Nat.sub_zero, Nat.mul_zero]; exact spansW_rows s⟩
/-- The bits of row k. -/
def wrow (s : ByteArray) (k : Nat) (j : Nat) : Bool := decide (64 * k + j < s.size) && wdq s (64 * k + j)
theorem WordSt.row {s : ByteArray} {k : Nat} {ts : List (Nat × Nat)} {o : Option Nat} (h : WordSt s k ts o) (hk : k < nwords s.size) :
    ts ++ (rowA (64 * k) (wrow s k) o).1 <+: spansW s ∧
    (ts ++ (rowA (64 * k) (wrow s k) o).1) ++ (rowT (64 * k) (runsF (wrow s k) 65 0) (rowA (64 * k) (wrow s k) o).2).1 <+: spansW s ∧
    WordSt s (k + 1) ((ts ++ (rowA (64 * k) (wrow s k) o).1) ++ (rowT (64 * k) (runsF (wrow s k) 65 0) (rowA (64 * k) (wrow s k) o).2).1) (rowT (64 * k) (runsF (wrow s k) 65 0) (rowA (64 * k) (wrow s k) o).2).2 := by
  have e := h.out
  rw [show 64 * (nwords s.size - k) = 64 + 64 * (nwords s.size - (k + 1)) by omega, row_go (wrdQ s) (wrow s k) (64 * k) (64 * (nwords s.size - (k + 1))) (fun j hj => rfl) o] at e
  rw [← List.append_assoc, ← List.append_assoc] at e
  refine ⟨⟨_, (List.append_assoc _ _ _).symm.trans e⟩, ⟨_, e⟩, ⟨?_⟩⟩
  rw [show 64 * (k + 1) = 64 * k + 64 by omega]
  exact e
theorem WordSt.done {s : ByteArray} {ts : List (Nat × Nat)} (h : WordSt s (nwords s.size) ts none) : ts = spansW s := by
  have e := h.out
  rw [Nat.sub_self, Nat.mul_zero] at e
  simpa [spW] using e
theorem WordSt.last {s : ByteArray} {ts : List (Nat × Nat)} {f : Nat} (h : WordSt s (nwords s.size) ts (some f)) : ts ++ [(f, s.size)] = spansW s := by
  have e := h.out
  rw [Nat.sub_self, Nat.mul_zero] at e
  have h2 := rows_end s ts f e
  rw [h2] at e
  simpa [spW] using e
/-- Is the open one closed ahead of the row? -/
def clA (o : Option Nat) (q : Nat → Bool) : Bool := match o with
  | none => false
  | some _ => !(q 0)
theorem clA_bit (f : Nat) (q : Nat → Bool) : (bits .and .u64 (iv (word q)) 1 == 0) = clA (some f) q := by
  have h1 : ∀ i : Fin 64, (1#64).getLsbD i.val = decide (i.val = 0) := by decide
  have e : word q &&& 1#64 = word fun i => decide (i = 0) && q 0 := eq_word fun i hi => by
    rw [BitVec.getLsbD_and, word_bit, h1 ⟨i, hi⟩, decide_eq_true hi, Bool.true_and]
    by_cases g : i = 0
    · subst g
      simp
    · simp [g]
  rw [show (1 : Int) = iv 1#64 from rfl, bits_and, e]
  unfold clA
  cases h : q 0 with
  | true =>
    have e2 : word (fun i => decide (i = 0) && true) = 1#64 := by
      refine BitVec.eq_of_getLsbD_eq fun i hi => ?_
      rw [word_bit, h1 ⟨i, hi⟩, decide_eq_true hi]
      simp
    rw [e2]
    rfl
  | false =>
    have e2 : word (fun i => decide (i = 0) && false) = 0#64 := by
      refine BitVec.eq_of_getLsbD_eq fun i hi => ?_
      rw [word_bit]
      simp
    rw [e2]
    rfl
theorem rowA_shut {b : Nat} {o : Option Nat} {q : Nat → Bool} (h : clA o q = true) : ∃ f, o = some f ∧ rowA b q o = ([(f, b)], none) := by
  cases o with
  | none => cases h
  | some f =>
    refine ⟨f, rfl, ?_⟩
    have hq : q 0 = false := by simpa [clA] using h
    simp [rowA, hq]
theorem rowA_keep {b : Nat} {o : Option Nat} {q : Nat → Bool} (h : clA o q = false) : rowA b q o = ([], o) := by
  cases o with
  | none => rfl
  | some f =>
    have hq : q 0 = true := by simpa [clA] using h
    simp [rowA, hq]
theorem wrap_64k {k : Int} (h : k ≤ 17179869184) (h0 : 0 ≤ k) : wrap64 (64 * k) = 64 * k := by
  unfold wrap64
  omega
theorem wrap_64ki {k : Int} {i : Nat} (h : k ≤ 17179869184) (h0 : 0 ≤ k) (hi : i ≤ 64) : wrap64 (64 * k + (i : Int)) = 64 * k + (i : Int) := by
  unfold wrap64
  omega
theorem wrap_64kin {k : Int} {i n : Nat} (h : k ≤ 17179869184) (h0 : 0 ≤ k) (hi : i + n ≤ 64) : wrap64 (64 * k + (i : Int) + (n : Int)) = 64 * k + (i : Int) + (n : Int) := by
  unfold wrap64
  omega
theorem wrap_sum64 {i n : Nat} (h : i + n ≤ 64) : wrap64 ((i : Int) + (n : Int)) = (i : Int) + (n : Int) := by
  unfold wrap64
  omega
theorem beq_64 {i n : Nat} (h : ¬ i + n = 64) : ((i : Int) + (n : Int) == 64) = false := by
  rw [beq_eq_false_iff_ne]
  omega
theorem beq_64t {i n : Nat} (h : i + n = 64) : ((i : Int) + (n : Int) == 64) = true := by
  rw [beq_iff_eq]
  omega
theorem cast_ki (k i : Nat) : ((64 * k + i : Nat) : Int) = 64 * (k : Int) + (i : Int) := by omega
theorem cast_kin (k i n : Nat) : ((64 * k + i + n : Nat) : Int) = 64 * (k : Int) + (i : Int) + (n : Int) := by omega
theorem wrap_succ {k : Int} (h : k ≤ 17179869184) (h0 : 0 ≤ k) : wrap64 (k + 1) = k + 1 := by
  unfold wrap64
  omega
end Go.Proofs.YtfihkkjkifkemaaDoorQ
end
-- Qy
section
namespace Go.Proofs.YtfihkkjkifkemaaDoorQ
open Go Go.RowKit Go.Proofs.YtfihkkjkifkemaaDoorW.PrintWords
/-- All places below it have been looked at. -/
def endU (l : List (Nat × Nat)) : Nat := match l.getLast? with
  | none => 0
  | some x => x.2 + 1
theorem endU_nil : endU [] = 0 := rfl
theorem endU_snoc (l : List (Nat × Nat)) (x : Nat × Nat) : endU (l ++ [x]) = x.2 + 1 := by
  unfold endU
  rw [List.getLast?_append]
  rfl
structure SpanOk (s : ByteArray) (a : Nat) (x : Nat × Nat) : Prop where mk ::
  lo : a + 1 ≤ x.1
  le : x.1 ≤ x.2
  hi : x.2 ≤ s.size
  m1 : mkq s (x.1 - 1) = true
  m2 : x.2 < s.size → mkq s x.2 = true ∧ insq (mkq s) x.2 = false
  gap : ∀ j, a ≤ j → j < x.1 - 1 → mkq s j = false ∧ insq (mkq s) j = false
  mid : ∀ j, x.1 ≤ j → j < x.2 → mkq s j = false
  ins : ∀ j, x.1 - 1 ≤ j → j < x.2 → insq (mkq s) j = true
theorem prefix_snoc {α : Type} {pre l : List α} {x y : α} (h : pre ++ [x] <+: l ++ [y]) : pre ++ [x] <+: l ∨ (pre = l ∧ x = y) := by
  rcases List.prefix_concat_iff.1 h with e | e
  · have h1 := List.append_inj' e rfl
    exact .inr ⟨h1.1, by simpa using h1.2⟩
  · exact .inl e
structure StOk (s : ByteArray) (i : Nat) (st : List (Nat × Nat) × Option Nat) : Prop where mk ::
  good : ∀ pre x, pre ++ [x] <+: st.1 → SpanOk s (endU pre) x
  le : endU st.1 ≤ i
  non : st.2 = none → par (mkq s) i = false ∧ ∀ j, endU st.1 ≤ j → j < i → mkq s j = false ∧ insq (mkq s) j = false
  som : ∀ f, st.2 = some f → par (mkq s) i = true ∧ endU st.1 + 1 ≤ f ∧ f ≤ i ∧ mkq s (f - 1) = true ∧ (∀ j, endU st.1 ≤ j → j < f - 1 → mkq s j = false ∧ insq (mkq s) j = false) ∧
    (∀ j, f ≤ j → j < i → mkq s j = false) ∧ (∀ j, f - 1 ≤ j → j < i → insq (mkq s) j = true)
theorem insq_step (q : Nat → Bool) (i : Nat) : insq q i = (par q i ^^ q i) := rfl
theorem StOk.zero (s : ByteArray) : StOk s 0 ([], none) where
  good pre x h := by
    have := h.length_le
    simp at this
  le := Nat.le_refl _
  non _ := ⟨rfl, fun j _ h => absurd h (Nat.not_lt_zero _)⟩
  som f h := by cases h
theorem StOk.skip {s : ByteArray} {i : Nat} {st : List (Nat × Nat) × Option Nat} (h : StOk s i st) (hm : mkq s i = false) : StOk s (i + 1) st where
  good := h.good
  le := Nat.le_succ_of_le h.le
  non hn := by
    obtain ⟨h1, h2⟩ := h.non hn
    have h3 : insq (mkq s) i = false := by rw [insq_step, h1, hm]; rfl
    refine ⟨h3, fun j a b => ?_⟩
    rcases Nat.lt_succ_iff_lt_or_eq.1 b with b | rfl
    · exact h2 j a b
    · exact ⟨hm, h3⟩
  som f hf := by
    obtain ⟨h1, h2, h3, h4, h5, h6, h7⟩ := h.som f hf
    have h8 : insq (mkq s) i = true := by rw [insq_step, h1, hm]; rfl
    refine ⟨h8, h2, Nat.le_succ_of_le h3, h4, h5, fun j a b => ?_, fun j a b => ?_⟩
    · rcases Nat.lt_succ_iff_lt_or_eq.1 b with b | rfl
      · exact h6 j a b
      · exact hm
    · rcases Nat.lt_succ_iff_lt_or_eq.1 b with b | rfl
      · exact h7 j a b
      · exact h8
theorem StOk.step {s : ByteArray} {i : Nat} {st : List (Nat × Nat) × Option Nat} (h : StOk s i st) (hi : i < s.size) (hm : mkq s i = true) : StOk s (i + 1) (stepQ st i) := by
  obtain ⟨L, o⟩ := st
  cases o with
  | none =>
    obtain ⟨h1, h2⟩ := h.non rfl
    have h3 : insq (mkq s) i = true := by rw [insq_step, h1, hm]; rfl
    refine ⟨h.good, Nat.le_succ_of_le h.le, fun e => (by cases e), fun f hf => ?_⟩
    have hf : i + 1 = f := by
      have : some (i + 1) = some f := hf
      injection this
    subst hf
    refine ⟨h3, Nat.succ_le_succ h.le, Nat.le_refl _, hm, fun j a b => h2 j a (by omega), fun j a b => by omega, fun j a b => ?_⟩
    rw [show j = i by omega]
    exact h3
  | some f =>
    obtain ⟨h1, h2, h3, h4, h5, h6, h7⟩ := h.som f rfl
    have h8 : insq (mkq s) i = false := by rw [insq_step, h1, hm]; rfl
    have e1 : (stepQ (L, some f) i).1 = L ++ [(f, i)] := rfl
    refine ⟨fun pre x hp => ?_, ?_, fun _ => ⟨h8, fun j a b => ?_⟩, fun f hf => ?_⟩
    · rw [e1] at hp
      rcases prefix_snoc hp with hp | ⟨rfl, rfl⟩
      · exact h.good pre x hp
      · exact ⟨h2, h3, Nat.le_of_lt hi, h4, fun _ => ⟨hm, h8⟩, h5, h6, h7⟩
    · rw [e1, endU_snoc]
      exact Nat.le_refl _
    · rw [e1, endU_snoc] at a
      have a : i + 1 ≤ j := a
      omega
    · have : (none : Option Nat) = some f := hf
      cases this
def stU (s : ByteArray) (i : Nat) : List (Nat × Nat) × Option Nat := foldT ((List.range i).filter (mkq s))
theorem stU_succ (s : ByteArray) (i : Nat) : stU s (i + 1) = if mkq s i = true then stepQ (stU s i) i else stU s i := by
  unfold stU
  rw [List.range_succ, List.filter_append]
  cases h : mkq s i
  · simp [h]
  · simp only [List.filter_cons, h, if_true, List.filter_nil]
    exact foldT_snoc _ _
theorem stU_ok (s : ByteArray) : ∀ i, i ≤ s.size → StOk s i (stU s i)
  | 0, _ => StOk.zero s
  | i + 1, h => by
    have ih := stU_ok s i (by omega)
    rw [stU_succ]
    cases hm : mkq s i
    · rw [if_neg (by decide)]
      exact ih.skip hm
    · rw [if_pos rfl]
      exact ih.step (by omega) hm
theorem texts_spans (s : ByteArray) : (∀ pre x, pre ++ [x] <+: textsL s → SpanOk s (endU pre) x) ∧ (∀ j, endU (textsL s) ≤ j → j < s.size → mkq s j = false ∧ insq (mkq s) j = false) ∧ endU (textsL s) ≤ s.size + 1 := by
  have h := stU_ok s s.size (Nat.le_refl _)
  have e : textsL s = endT (stU s s.size) s.size := rfl
  rw [e]
  clear e
  generalize stU s s.size = st at h ⊢
  obtain ⟨L, o⟩ := st
  cases o with
  | none => exact ⟨h.good, (h.non rfl).2, Nat.le_succ_of_le h.le⟩
  | some f =>
    obtain ⟨h1, h2, h3, h4, h5, h6, h7⟩ := h.som f rfl
    have e1 : endT (L, some f) s.size = L ++ [(f, s.size)] := rfl
    rw [e1, endU_snoc]
    refine ⟨fun pre x hp => ?_, fun j a b => by (have a : s.size + 1 ≤ j := a); omega, Nat.le_refl _⟩
    rcases prefix_snoc hp with hp | ⟨rfl, rfl⟩
    · exact h.good pre x hp
    · exact ⟨h2, h3, Nat.le_refl _, h4, fun c => absurd c (Nat.lt_irrefl _), h5, h6, h7⟩
end Go.Proofs.YtfihkkjkifkemaaDoorQ
end
-- St
section
namespace Go.Proofs.YtfihkkjkifkemaaDoorQ
open Go Go.RowKit Go.Proofs.YtfihkkjkifkemaaDoorW.PrintWords
/-- The first place from i on at which q holds, of so many; else the one behind them. -/
def firstQ (q : Nat → Bool) : Nat → Nat → Nat
  | 0, i => i
  | d + 1, i => if q i then i else firstQ q d (i + 1)
theorem firstQ_spec (q : Nat → Bool) : ∀ (d i : Nat), i ≤ firstQ q d i ∧ firstQ q d i ≤ i + d ∧ (∀ j, i ≤ j → j < firstQ q d i → q j = false) ∧ (firstQ q d i < i + d → q (firstQ q d i) = true)
  | 0, i => ⟨Nat.le_refl _, Nat.le_refl _, fun j h1 h2 => absurd h2 (by unfold firstQ; omega), fun h => absurd h (by unfold firstQ; omega)⟩
  | d + 1, i => by
    unfold firstQ
    by_cases h : q i = true
    · rw [if_pos h]
      exact ⟨Nat.le_refl _, by omega, fun j h1 h2 => by omega, fun _ => h⟩
    · rw [if_neg h]
      obtain ⟨h1, h2, h3, h4⟩ := firstQ_spec q d (i + 1)
      refine ⟨by omega, by omega, fun j h5 h6 => ?_, fun h5 => h4 (by omega)⟩
      by_cases e : j = i
      · subst e
        simpa using h
      · exact h3 j (by omega) h6
theorem firstQ_eq {q : Nat → Bool} {d i e : Nat} (h1 : i ≤ e) (h2 : e ≤ i + d) (h3 : ∀ j, i ≤ j → j < e → q j = false) (h4 : e < i + d → q e = true) : firstQ q d i = e := by
  obtain ⟨a1, a2, a3, a4⟩ := firstQ_spec q d i
  rcases Nat.lt_trichotomy (firstQ q d i) e with h | h | h
  · have := h3 _ a1 h
    rw [a4 (by omega)] at this
    cases this
  · exact h
  · have := a3 e h1 h
    rw [h4 (by omega)] at this
    cases this
/-- Where a word ends, and where a text's closing mark stands (the length: nowhere). -/
def wordE (s : ByteArray) (p : Nat) : Nat := firstQ (fun i => !(wdq s i)) (s.size - p) p
def textE (s : ByteArray) (p : Nat) : Nat := firstQ (mkq s) (s.size - (p + 1)) (p + 1)
/-- Behind the word or the text that begins at a place; 0: none does, or it is open. -/
def endM (s : ByteArray) (p : Nat) : Nat := if opq s p then (if textE s p < s.size then textE s p + 1 else 0) else if wdq s p then wordE s p else 0
/-- The last value laid at a key. -/
def lookV (M : List (Nat × Nat)) (p : Nat) : Nat := M.foldl (fun a x => if x.1 = p then x.2 else a) 0
theorem foldl_look (p v : Nat) : ∀ (M : List (Nat × Nat)) (a : Nat), (∀ x ∈ M, x.1 = p → x.2 = v) → M.foldl (fun a x => if x.1 = p then x.2 else a) a = if (∃ x ∈ M, x.1 = p) then v else a
  | [], a, _ => by simp
  | y :: M, a, h => by
    rw [List.foldl_cons, foldl_look p v M _ (fun x hx => h x (List.mem_cons_of_mem _ hx))]
    by_cases h1 : ∃ x ∈ M, x.1 = p
    · rw [if_pos h1, if_pos]
      obtain ⟨x, hx, e⟩ := h1
      exact ⟨x, List.mem_cons_of_mem _ hx, e⟩
    · rw [if_neg h1]
      by_cases h2 : y.1 = p
      · rw [if_pos h2, if_pos ⟨y, List.mem_cons_self .., h2⟩]
        exact h y (List.mem_cons_self ..) h2
      · rw [if_neg h2, if_neg]
        rintro ⟨x, hx, e⟩
        rcases List.mem_cons.1 hx with rfl | hx
        · exact h2 e
        · exact h1 ⟨x, hx, e⟩
theorem lookV_val {M : List (Nat × Nat)} {p v : Nat} (h : ∀ x ∈ M, x.1 = p → x.2 = v) (h2 : ∃ x ∈ M, x.1 = p) : lookV M p = v := by
  unfold lookV
  rw [foldl_look p v M 0 h, if_pos h2]
theorem lookV_none {M : List (Nat × Nat)} {p : Nat} (h : ∀ x ∈ M, x.1 ≠ p) : lookV M p = 0 := by
  unfold lookV
  rw [foldl_look p 0 M 0 (fun x hx e => absurd e (h x hx)), if_neg]
  rintro ⟨x, hx, e⟩
  exact h x hx e
/-- What the program's map holds. -/
def keysT (s : ByteArray) (l : List (Nat × Nat)) : List (Nat × Nat) := (l.filter fun x => decide (x.2 < s.size)).map fun x => (x.1 - 1, x.2 + 1)
def keysM (s : ByteArray) : List (Nat × Nat) := spansW s ++ keysT s (textsL s)
/-- A run of the places of W: it stands as long as W holds. -/
theorem spW_run_mem (W : Nat → Bool) : ∀ (m : Nat) (o : Option Nat) (p : Nat) (x : Nat × Nat), (∀ f, o = some f → f < p ∧ ∀ j, f ≤ j → j < p → W j = true) → x ∈ spW W m o p →
    x.1 < x.2 ∧ x.2 ≤ p + m ∧ (∀ j, x.1 ≤ j → j < x.2 → W j = true) ∧ (x.2 < p + m → W x.2 = false)
  | 0, none, p, x, _, h => by simp [spW] at h
  | 0, some f, p, x, ho, h => by
    simp only [spW, List.mem_singleton] at h
    subst h
    have := ho f rfl
    exact ⟨this.1, Nat.le_refl _, this.2, fun h => absurd h (Nat.lt_irrefl _)⟩
  | m + 1, o, p, x, ho, h => by
    unfold spW at h
    by_cases hw : W p = true
    · rw [if_pos hw] at h
      have := spW_run_mem W m (some (o.getD p)) (p + 1) x (fun f hf => by
        cases hf
        cases o with
        | none => exact ⟨Nat.lt_succ_self _, fun j h1 h2 => by obtain rfl : j = p := (by simp at h1; omega); exact hw⟩
        | some f =>
          obtain ⟨h1, h2⟩ := ho f rfl
          refine ⟨by simp; omega, fun j h3 h4 => ?_⟩
          by_cases e : j = p
          · subst e
            exact hw
          · exact h2 j h3 (by omega)) h
      refine ⟨this.1, by omega, this.2.2.1, fun h => this.2.2.2 (by omega)⟩
    · rw [if_neg hw] at h
      rcases List.mem_append.1 h with h | h
      · cases o with
        | none => cases h
        | some f =>
          simp only [List.mem_singleton] at h
          subst h
          obtain ⟨h1, h2⟩ := ho f rfl
          exact ⟨h1, by simp, h2, fun _ => by simpa using hw⟩
      · have := spW_run_mem W m none (p + 1) x (fun f hf => by cases hf) h
        refine ⟨this.1, by omega, this.2.2.1, fun h => this.2.2.2 (by omega)⟩
/-- Where W begins to hold a run begins. -/
theorem spW_begin (W : Nat → Bool) : ∀ (m : Nat) (o : Option Nat) (p a : Nat), p ≤ a → a < p + m → W a = true → (a = p → o = none) → (p < a → W (a - 1) = false) → ∃ x ∈ spW W m o p, x.1 = a
  | 0, o, p, a, h1, h2, _, _, _ => by omega
  | m + 1, o, p, a, h1, h2, hw, ho, hp => by
    by_cases e : a = p
    · subst e
      obtain rfl := ho rfl
      unfold spW
      rw [if_pos hw]
      clear h1 h2 ho hp hw
      -- the open one is told
      have key : ∀ (m q : Nat), ∃ x ∈ spW W m (some a) q, x.1 = a := by
        intro m
        induction m with
        | zero => exact fun q => ⟨(a, q), by simp [spW], rfl⟩
        | succ m ih =>
          intro q
          unfold spW
          by_cases h : W q = true
          · rw [if_pos h]
            exact ih (q + 1)
          · rw [if_neg h]
            exact ⟨(a, q), by simp, rfl⟩
      exact key m (a + 1)
    · unfold spW
      by_cases h : W p = true
      · rw [if_pos h]
        refine spW_begin W m (some (o.getD p)) (p + 1) a (by omega) (by omega) hw (fun c => ?_) (fun c => hp (by omega))
        have := hp (by omega)
        rw [c, Nat.add_sub_cancel, h] at this
        cases this
      · rw [if_neg h]
        obtain ⟨x, hx, e2⟩ := spW_begin W m none (p + 1) a (by omega) (by omega) hw (fun _ => rfl) (fun c => hp (by omega))
        exact ⟨x, List.mem_append_right _ hx, e2⟩
section
variable {s : ByteArray}
theorem wd_facts {p : Nat} (h : wdq s p = true) : mkq s p = false ∧ insS s p = false ∧ sgq s p = false ∧ opq s p = false ∧ blq s p = false := by
  unfold wdq at h
  simp only [Bool.and_eq_true, Bool.not_eq_true'] at h
  obtain ⟨⟨h1, h2⟩, h3⟩ := h
  unfold outq at h1
  have hm : mkq s p = false := by cases hm : mkq s p <;> simp_all
  have hi : insS s p = false := by cases hi : insS s p <;> simp_all
  exact ⟨hm, hi, h2, by unfold opq; rw [hm]; rfl, h3⟩
theorem op_facts {p : Nat} (h : opq s p = true) : mkq s p = true ∧ insS s p = true ∧ sgq s p = false ∧ wdq s p = false ∧ blq s p = false := by
  unfold opq at h
  simp only [Bool.and_eq_true] at h
  have ho : outq s p = false := by unfold outq; rw [h.1]; rfl
  refine ⟨h.1, h.2, ?_, ?_, ?_⟩
  · unfold sgq; rw [ho, Bool.and_false]
  · unfold wdq; rw [ho]; rfl
  · unfold blq; rw [ho, Bool.and_false]
theorem spans_mem {x : Nat × Nat} (h : x ∈ spansW s) : x.1 < x.2 ∧ x.2 ≤ s.size ∧ (∀ j, x.1 ≤ j → j < x.2 → wdq s j = true) ∧ x.2 = wordE s x.1 := by
  obtain ⟨h1, h2, h3, h4⟩ := spW_run_mem (wrdQ s) s.size none 0 x (fun f hf => by cases hf) h
  have h5 : ∀ j, x.1 ≤ j → j < x.2 → wdq s j = true := fun j a b => by
    have := h3 j a b
    unfold wrdQ at this
    simp only [Bool.and_eq_true] at this
    exact this.2
  refine ⟨h1, by omega, h5, (firstQ_eq (by omega) (by omega) (fun j a b => by rw [h5 j a b]; rfl) (fun c => ?_)).symm⟩
  have := h4 (by omega)
  unfold wrdQ at this
  rw [decide_eq_true (by omega), Bool.true_and] at this
  rw [this]
  rfl
theorem texts_mem {x : Nat × Nat} (h : x ∈ textsL s) : ∃ a, SpanOk s a x := by
  obtain ⟨pre, t, e⟩ := List.append_of_mem h
  exact ⟨_, (texts_spans s).1 pre x ⟨t, by rw [e]; simp⟩⟩
theorem span_end {a : Nat} {x : Nat × Nat} (h : SpanOk s a x) : opq s (x.1 - 1) = true ∧ x.2 = textE s (x.1 - 1) ∧ x.1 - 1 < s.size := by
  have h1 := h.lo
  have h2 := h.le
  have h3 := h.hi
  have hp : x.1 - 1 < x.2 := by omega
  refine ⟨?_, ?_, by omega⟩
  · unfold opq insS
    rw [h.m1, h.ins (x.1 - 1) (Nat.le_refl _) hp]
    rfl
  · unfold textE
    rw [show x.1 - 1 + 1 = x.1 by omega]
    exact (firstQ_eq h2 (by omega) h.mid (fun c => (h.m2 (by omega)).1)).symm
/-- Each opening mark begins one of the texts. -/
theorem texts_at {p : Nat} (hp : p < s.size) (h : opq s p = true) : ∃ x ∈ textsL s, x.1 - 1 = p := by
  obtain ⟨hm, hi, _⟩ := op_facts h
  obtain ⟨h1, h2, h3⟩ := texts_spans s
  -- the least prefix whose end lies behind p
  have key : ∀ (t pre : List (Nat × Nat)), pre ++ t = textsL s → endU pre ≤ p → ∃ x ∈ textsL s, x.1 - 1 = p := by
    intro t
    induction t with
    | nil =>
      intro pre e he
      rw [List.append_nil] at e
      rw [e] at he
      have := (h2 p he hp).1
      rw [hm] at this
      cases this
    | cons x t ih =>
      intro pre e he
      have hx : pre ++ [x] <+: textsL s := ⟨t, by rw [← e]; simp⟩
      have ok := h1 pre x hx
      have a1 := ok.lo
      have a2 := ok.le
      rcases Nat.lt_trichotomy p (x.1 - 1) with c | c | c
      · have := (ok.gap p he c).1
        rw [hm] at this
        cases this
      · exact ⟨x, by rw [← e]; simp, c.symm⟩
      · rcases Nat.lt_trichotomy p x.2 with d | d | d
        · have := ok.mid p (by omega) d
          rw [hm] at this
          cases this
        · subst d
          have := (ok.m2 hp).2
          rw [show insq (mkq s) x.2 = insS s x.2 from rfl, hi] at this
          cases this
        · refine ih (pre ++ [x]) (by rw [← e]; simp) ?_
          rw [endU_snoc]
          omega
  exact key (textsL s) [] rfl (by rw [endU_nil]; omega)
theorem look_eq {p : Nat} (hp : p < s.size) (hb : begq s p = true) (hs : sgq s p = false) : lookV (keysM s) p = endM s p := by
  unfold begq at hb
  rw [hs, Bool.false_or] at hb
  unfold endM keysM keysT
  by_cases ho : opq s p = true
  · rw [if_pos ho]
    obtain ⟨hm, hi, _, hw, _⟩ := op_facts ho
    have hsp : ∀ x ∈ spansW s, x.1 ≠ p := fun x hx e => by
      have := (spans_mem hx)
      have := this.2.2.1 x.1 (Nat.le_refl _) this.1
      rw [e, hw] at this
      cases this
    by_cases ht : textE s p < s.size
    · rw [if_pos ht]
      refine lookV_val (fun x hx e => ?_) ?_
      · rcases List.mem_append.1 hx with hx | hx
        · exact absurd e (hsp x hx)
        · obtain ⟨y, hy, rfl⟩ := List.mem_map.1 hx
          obtain ⟨a, ok⟩ := texts_mem (List.mem_filter.1 hy).1
          have := (span_end ok).2.1
          simp only at e ⊢
          rw [e] at this
          rw [this]
      · obtain ⟨x, hx, e⟩ := texts_at hp ho
        obtain ⟨a, ok⟩ := texts_mem hx
        have := (span_end ok).2.1
        rw [e] at this
        exact ⟨(x.1 - 1, x.2 + 1), List.mem_append_right _ (List.mem_map.2 ⟨x, List.mem_filter.2 ⟨hx, by rw [this]; exact decide_eq_true ht⟩, rfl⟩), e⟩
    · rw [if_neg ht]
      refine lookV_none fun x hx e => ?_
      rcases List.mem_append.1 hx with hx | hx
      · exact hsp x hx e
      · obtain ⟨y, hy, rfl⟩ := List.mem_map.1 hx
        obtain ⟨a, ok⟩ := texts_mem (List.mem_filter.1 hy).1
        have h1 := (span_end ok).2.1
        have h2 := of_decide_eq_true (List.mem_filter.1 hy).2
        simp only at e
        rw [e] at h1
        omega
  · have hof : opq s p = false := by simpa using ho
    rw [hof, Bool.false_or] at hb
    rw [if_neg ho]
    simp only [Bool.and_eq_true] at hb
    rw [if_pos hb.1]
    obtain ⟨hm, hi, _, _, _⟩ := wd_facts hb.1
    refine lookV_val (fun x hx e => ?_) ?_
    · rcases List.mem_append.1 hx with hx | hx
      · have := (spans_mem hx).2.2.2
        rw [e] at this
        exact this
      · obtain ⟨y, hy, rfl⟩ := List.mem_map.1 hx
        obtain ⟨a, ok⟩ := texts_mem (List.mem_filter.1 hy).1
        have h1 := (span_end ok).1
        simp only at e
        rw [e, hof] at h1
        cases h1
    · obtain ⟨x, hx, e⟩ := spW_begin (wrdQ s) s.size none 0 p (Nat.zero_le _) (by omega) (by unfold wrdQ; rw [decide_eq_true hp, hb.1]; rfl) (fun _ => rfl) (fun h0 => by
        have h2 := hb.2
        rw [decide_eq_true h0, Bool.true_and] at h2
        unfold wrdQ
        rw [decide_eq_true (by omega), Bool.true_and]
        simpa using h2)
      exact ⟨x, List.mem_append_left _ hx, e⟩
end
end Go.Proofs.YtfihkkjkifkemaaDoorQ
end
-- Mm
section
namespace Go.Proofs.YtfihkkjkifkemaaDoorM
open Go Go.RowKit Go.Lib Go.Maps Go.Proofs.YtfihkkjkifkemaaDoorQ Go.Proofs.YtfihkkjkifkemaaDoorW.PrintWords Go.Proofs.YtfihkkjkifkemaaDoorW.PrintLast Go.Proofs.YtfihkkjkifkemaaDoorW.PrintMore
/-- The map as it reads: the pairs are laid one behind the other. -/
def mapD (L : List (Nat × Nat)) : DataW Unit := L.foldl (fun D x => D.put (.int .i64 (x.1 : Int)) (.lit (.int .i64 (x.2 : Int)))) (.map [])
theorem mapD_snoc (L : List (Nat × Nat)) (x : Nat × Nat) : mapD (L ++ [x]) = (mapD L).put (.int .i64 (x.1 : Int)) (.lit (.int .i64 (x.2 : Int))) := by
  unfold mapD
  rw [List.foldl_append]
  rfl
theorem put_isMap {D : DataW Unit} {k : Lit} {d : DataW Unit} (h : IsMap D) : IsMap (D.put k d) := by
  obtain ⟨es, rfl⟩ := h
  exact ⟨_, rfl⟩
theorem mapD_foldl (p : Nat) : ∀ (L : List (Nat × Nat)) (D : DataW Unit) (a : Nat), IsMap D → D.atKey (.int .i64 (p : Int)) (.lit (.int .i64 0)) = .lit (.int .i64 (a : Int)) →
    (L.foldl (fun D x => D.put (.int .i64 (x.1 : Int)) (.lit (.int .i64 (x.2 : Int)))) D).atKey (.int .i64 (p : Int)) (.lit (.int .i64 0)) = .lit (.int .i64 ((L.foldl (fun a x => if x.1 = p then x.2 else a) a : Nat) : Int))
  | [], D, a, _, h => h
  | x :: L, D, a, hD, h => by
    rw [List.foldl_cons, List.foldl_cons]
    refine mapD_foldl p L _ _ (put_isMap hD) ?_
    by_cases e : x.1 = p
    · rw [if_pos e, e]
      exact atKey_put_same hD (by trivial) _ _
    · rw [if_neg e]
      rw [atKey_put_other (by intro c; injection c with _ c; omega)]
      exact h
theorem mapD_at (L : List (Nat × Nat)) (p : Nat) : (mapD L).atKey (.int .i64 (p : Int)) (.lit (.int .i64 0)) = .lit (.int .i64 ((lookV L p : Nat) : Int)) :=
  mapD_foldl p L _ 0 ⟨[], rfl⟩ rfl
theorem ownsMap_same {H : Type} {P : Program} {k : TypeId} {R : Value → Option (DataW H × List MemPlace)} {b n : Nat} {D : DataW H} {W W' : World} (h : W.ownsMap P k R b n D) (e : W'.heap[b]? = W.heap[b]?) : W'.ownsMap P k R b n D := by
  obtain ⟨es, clock, hb, F, hs, hD⟩ := h
  exact ⟨es, clock, e.trans hb, F, hs, hD⟩
theorem ownsMap_ne {H : Type} {P : Program} {k : TypeId} {R : Value → Option (DataW H × List MemPlace)} {b n : Nat} {D : DataW H} {W : World} (h : W.ownsMap P k R b n D) {g t : Nat} {cs : Array Value} (B : Blk W g cs t) : g ≠ b := fun e => by
  subst e
  obtain ⟨es, clock, hb, _⟩ := h
  have := B.out
  rw [hb] at this
  cases this
/-- 'make(map[K]V)'. -/
theorem ev_makeMapIn {F : Fence} {n : Nat} {P : Program} {ops : Array Oper} {rest : List Oper} {o : Oper} {a : Act} {Q : Exit → Act → World → Prop} {W w : World} (HB : BelowH w W) (hgd : o.guard = none) (t : TypeId) (hop : o.op = .makeMap t none) (k : TypeId) (R : Value → Option (DataW Unit × List MemPlace))
    (h : ∀ b w1, Aside0 (W.heap.size ≤ b) → w1.ownsMap P k R b 0 (mapD []) → BelowH w w1 → Aside0 (Below W.heap.size W w1) → Aside0 (KeepsOthers W w1) → wpListIn F n P ops Q rest (a.put o.dst (.map (some b))) w1) : wpListIn F n P ops Q (o :: rest) a W := by
  refine event_runIn (by simp [Oper.plainOp, hop]) hgd (v := .map (some W.heap.size)) (w1 := W.alloc (.map #[] 0)) ?_ (h _ _ ⟨Nat.le_refl _⟩ (World.ownsMap_made W P k R) (HB.step (below_alloc (Below.refl _ _) _)) ⟨below_alloc (Below.refl _ _) _⟩ ⟨KeepsOthers.alloc W _⟩)
  unfold execOp
  simp [hop, run_makeMap, Result.andThen]
end Go.Proofs.YtfihkkjkifkemaaDoorM
end
-- Su
section
namespace Go.Proofs.YtfihkkjkifkemaaDoorQ
open Go Go.RowKit Go.Proofs.YtfihkkjkifkemaaDoorW.PrintWords
/-- The places from i on, so many, at which something begins. -/
def idxD (s : ByteArray) : Nat → Nat → List Nat
  | 0, _ => []
  | d + 1, i => if begq s i then i :: idxD s d (i + 1) else idxD s d (i + 1)
theorem idxD_succ (s : ByteArray) (d i : Nat) : idxD s (d + 1) i = if begq s i then i :: idxD s d (i + 1) else idxD s d (i + 1) := rfl
theorem idxD_range (s : ByteArray) : ∀ d i, idxD s d i = (List.range' i d).filter (begq s)
  | 0, i => rfl
  | d + 1, i => by
    rw [List.range'_succ, List.filter_cons]
    unfold idxD
    rw [idxD_range s d (i + 1)]
theorem idxD_all (s : ByteArray) : idxL s s.size = (idxD s s.size 0).map fun i => ((i : Nat) : Int) := by
  rw [idxL_all s _ (Nat.le_refl _), idxD_range, List.range_eq_range']
theorem idxD_skip (s : ByteArray) {n a b : Nat} (hab : a ≤ b) (hb : b ≤ n) (h : ∀ i, a ≤ i → i < b → begq s i = false) : idxD s (n - a) a = idxD s (n - b) b := by
  obtain ⟨k, rfl⟩ : ∃ k, b = a + k := ⟨b - a, by omega⟩
  clear hab
  induction k generalizing a with
  | zero => rfl
  | succ k ih =>
    rw [show n - a = (n - (a + 1)) + 1 by omega, idxD_succ, if_neg (by rw [h a (Nat.le_refl _) (by omega)]; decide)]
    have := ih (a := a + 1) (by omega) (fun i h1 h2 => h i (by omega) (by omega))
    rw [this, show a + 1 + k = a + (k + 1) by omega]
def opensB (c : Int) : Bool := c == 123 || c == 91
def closesB (c : Int) : Bool := c == 125 || c == 93
/-- The program's walk. -/
def progF (s : ByteArray) : List Nat → List (Nat × Nat) → Nat → Nat → List (Nat × Nat) × Int
  | [], out, deep, fr => if deep = 0 then (out, -1) else (out, (fr : Int))
  | p :: L, out, deep, fr =>
    let f := if deep = 0 then p else fr
    if opensB (bt s (p : Int)) then progF s L out (deep + 1) f
    else if closesB (bt s (p : Int)) || bt s (p : Int) == 58 || bt s (p : Int) == 44 then
      if deep = 0 then (out, (p : Int))
      else if closesB (bt s (p : Int)) then (if deep = 1 then progF s L (out ++ [(f, p + 1)]) 0 f else progF s L out (deep - 1) f)
      else progF s L out deep f
    else if deep = 0 then (if endM s p = 0 then (out, (p : Int)) else progF s L (out ++ [(f, endM s p)]) 0 f)
    else progF s L out deep f
/-- Behind the bracket that closes what is open; from i on, so many places. -/
def brkR (s : ByteArray) : Nat → Nat → Nat → Option Nat
  | 0, _, _ => none
  | d + 1, i, o =>
    let o1 := if sgq s i && opensB (bt s (i : Int)) then o + 1 else o
    let o2 := if sgq s i && closesB (bt s (i : Int)) then o1 - 1 else o1
    if o2 = 0 then some (i + 1) else brkR s d (i + 1) o2
theorem brkR_succ (s : ByteArray) (d i o : Nat) : brkR s (d + 1) i o =
    (if (if sgq s i && closesB (bt s (i : Int)) then (if sgq s i && opensB (bt s (i : Int)) then o + 1 else o) - 1 else if sgq s i && opensB (bt s (i : Int)) then o + 1 else o) = 0 then some (i + 1)
      else brkR s d (i + 1) (if sgq s i && closesB (bt s (i : Int)) then (if sgq s i && opensB (bt s (i : Int)) then o + 1 else o) - 1 else if sgq s i && opensB (bt s (i : Int)) then o + 1 else o)) := rfl
/-- Behind the document that begins at a place. -/
def endR (s : ByteArray) (a : Nat) : Option Nat :=
  if opensB (bt s (a : Int)) then brkR s (s.size - a) a 0
  else if sgq s a then none
  else if opq s a then (if textE s a < s.size then some (textE s a + 1) else none)
  else some (wordE s a)
/-- The reference's walk. -/
def refF (s : ByteArray) : Nat → Nat → List (Nat × Nat) → List (Nat × Nat) × Int
  | 0, _, out => (out, -1)
  | f + 1, a, out => if a < s.size then (if blq s a then refF s f (a + 1) out else match endR s a with
      | none => (out, (a : Int))
      | some e => refF s f e (out ++ [(a, e)])) else (out, -1)
/-- A document may begin there. -/
def Free (s : ByteArray) (a : Nat) : Prop := a < s.size → par (mkq s) a = false ∧ (wdq s a = true → begq s a = true)
section
variable {s : ByteArray}
theorem free_zero : Free s 0 := fun _ => ⟨rfl, fun h => by unfold begq; rw [h]; simp⟩
theorem free_next {a : Nat} (h : insS s a = false) (hw : wdq s a = false) : Free s (a + 1) := fun _ => ⟨h, fun h2 => by unfold begq; rw [h2, Nat.add_sub_cancel, hw]; simp⟩
theorem sg_facts {p : Nat} (h : sgq s p = true) : mkq s p = false ∧ insS s p = false ∧ wdq s p = false ∧ opq s p = false ∧ blq s p = false ∧ begq s p = true ∧ sgx (bt s (p : Int)).toNat = true := by
  have h0 := h
  unfold sgq at h
  simp only [Bool.and_eq_true] at h
  have ho := h.2
  unfold outq at ho
  have hm : mkq s p = false := by cases hm : mkq s p <;> simp_all
  have hi : insS s p = false := by cases hi : insS s p <;> simp_all
  refine ⟨hm, hi, ?_, by unfold opq; rw [hm]; rfl, ?_, by unfold begq; rw [h0]; simp, h.1⟩
  · unfold wdq; rw [h0]; simp
  · unfold blq; rw [blx_of_sgx h.1]; rfl
theorem bl_facts {p : Nat} (h : blq s p = true) : insS s p = false ∧ wdq s p = false ∧ sgq s p = false ∧ opq s p = false ∧ begq s p = false := by
  have h0 := h
  unfold blq at h
  simp only [Bool.and_eq_true] at h
  have ho := h.2
  unfold outq at ho
  have hm : mkq s p = false := by cases hm : mkq s p <;> simp_all
  have hi : insS s p = false := by cases hi : insS s p <;> simp_all
  have hw : wdq s p = false := by unfold wdq; rw [h0]; simp
  have hs : sgq s p = false := by
    unfold sgq
    cases hx : sgx (bt s (p : Int)).toNat
    · rfl
    · rw [blx_of_sgx hx] at h
      cases h.1
  have ho : opq s p = false := by unfold opq; rw [hm]; rfl
  refine ⟨hi, hw, hs, ho, ?_⟩
  unfold begq
  rw [hs, ho, hw]
  rfl
/-- What stands at a place at which something begins: a sign's byte, a mark, or a byte that is no sign. -/
theorem sgx_bytes {c : Int} (h0 : 0 ≤ c) : sgx c.toNat = (opensB c || (closesB c || c == 58 || c == 44)) := by
  unfold sgx opensB closesB
  rw [Bool.eq_iff_iff]
  simp only [Bool.or_eq_true, beq_iff_eq]
  omega
theorem bt_nn (s : ByteArray) (i : Nat) : 0 ≤ bt s (i : Int) := by
  unfold bt
  split <;> omega
theorem other_bytes {p : Nat} (hs : sgq s p = false) (h : opq s p = true ∨ wdq s p = true) : opensB (bt s (p : Int)) = false ∧ (closesB (bt s (p : Int)) || bt s (p : Int) == 58 || bt s (p : Int) == 44) = false := by
  have hx : sgx (bt s (p : Int)).toNat = false := by
    rcases h with h | h
    · have hm := (op_facts h).1
      unfold mkq at hm
      simp only [Bool.and_eq_true, decide_eq_true_eq] at hm
      rw [hm.1]
      rfl
    · have hw := h
      unfold wdq at hw
      simp only [Bool.and_eq_true] at hw
      have ho := hw.1.1
      unfold sgq at hs
      rw [ho, Bool.and_true] at hs
      exact hs
  rw [sgx_bytes (bt_nn s p)] at hx
  simpa [Bool.or_eq_false_iff] using hx
theorem free_kind {a : Nat} (ha : a < s.size) (h : Free s a) : blq s a = true ∨ sgq s a = true ∨ opq s a = true ∨ wdq s a = true := by
  obtain ⟨h1, h2⟩ := h ha
  by_cases hm : mkq s a = true
  · right; right; left
    unfold opq insS
    rw [hm, show insq (mkq s) a = par (mkq s) (a + 1) from rfl, par_succ, h1, hm]
    rfl
  · have hm' : mkq s a = false := by simpa using hm
    have hi : insS s a = false := by
      show par (mkq s) (a + 1) = false
      rw [par_succ, h1, hm']
      rfl
    have ho : outq s a = true := by unfold outq; rw [hm', hi]; rfl
    cases hb : blq s a
    · right
      cases hs : sgq s a
      · right; right
        unfold wdq
        rw [ho, hs, hb]
        rfl
      · exact .inl rfl
    · exact .inl rfl
theorem idxD_at {n a : Nat} (ha : a < n) : idxD s (n - a) a = if begq s a then a :: idxD s (n - (a + 1)) (a + 1) else idxD s (n - (a + 1)) (a + 1) := by
  rw [show n - a = (n - (a + 1)) + 1 by omega]
  rfl
/-- Within brackets. -/
theorem prog_brk (fr : Nat) : ∀ (d i deep : Nat) (out : List (Nat × Nat)), i + d = s.size → 0 < deep →
    progF s (idxD s d i) out deep fr = (match brkR s d i deep with
      | none => (out, (fr : Int))
      | some e => progF s (idxD s (s.size - e) e) (out ++ [(fr, e)]) 0 fr) ∧ ∀ e, brkR s d i deep = some e → i < e ∧ e ≤ s.size ∧ Free s e
  | 0, i, deep, out, hi, hd => by
    unfold idxD brkR progF
    rw [if_neg (by omega)]
    exact ⟨rfl, fun e he => by cases he⟩
  | d + 1, i, deep, out, hi, hd => by
    have hsz : s.size - (i + 1) = d := by omega
    rw [idxD_succ, brkR_succ]
    by_cases hs : sgq s i = true
    · obtain ⟨hm, hins, hw, ho, hb, hbg, hx⟩ := sg_facts hs
      rw [if_pos hbg, hs]
      simp only [Bool.true_and]
      rw [progF]
      simp only [if_neg (show ¬ deep = 0 by omega)]
      by_cases h1 : opensB (bt s (i : Int)) = true
      · have h2 : closesB (bt s (i : Int)) = false := by
          unfold opensB at h1
          unfold closesB
          simp only [Bool.or_eq_true, beq_iff_eq] at h1
          rw [Bool.or_eq_false_iff, beq_eq_false_iff_ne, beq_eq_false_iff_ne]
          omega
        rw [if_pos h1, if_pos h1, h2]
        simp only [Bool.false_eq_true, if_false]
        rw [if_neg (by omega)]
        obtain ⟨a1, a2⟩ := prog_brk fr d (i + 1) (deep + 1) out (by omega) (by omega)
        exact ⟨a1, fun e he => by have := a2 e he; exact ⟨by omega, this.2⟩⟩
      · rw [if_neg h1, if_neg h1]
        have hr : (closesB (bt s (i : Int)) || bt s (i : Int) == 58 || bt s (i : Int) == 44) = true := by
          rw [sgx_bytes (bt_nn s i)] at hx
          cases hc : opensB (bt s (i : Int))
          · rw [hc, Bool.false_or] at hx
            exact hx
          · exact absurd hc h1
        rw [if_pos hr]
        by_cases h2 : closesB (bt s (i : Int)) = true
        · rw [if_pos h2, if_pos h2]
          by_cases h3 : deep = 1
          · subst h3
            rw [if_pos rfl, if_pos (by omega)]
            refine ⟨by show _ = progF s (idxD s (s.size - (i + 1)) (i + 1)) _ 0 fr; rw [hsz], fun e he => ?_⟩
            cases he
            exact ⟨by omega, by omega, free_next hins hw⟩
          · rw [if_neg h3, if_neg (by omega)]
            obtain ⟨a1, a2⟩ := prog_brk fr d (i + 1) (deep - 1) out (by omega) (by omega)
            exact ⟨a1, fun e he => by have := a2 e he; exact ⟨by omega, this.2⟩⟩
        · rw [if_neg h2, if_neg h2, if_neg (by omega)]
          obtain ⟨a1, a2⟩ := prog_brk fr d (i + 1) deep out (by omega) (by omega)
          exact ⟨a1, fun e he => by have := a2 e he; exact ⟨by omega, this.2⟩⟩
    · have hs' : sgq s i = false := by simpa using hs
      rw [hs']
      simp only [Bool.false_and, Bool.false_eq_true, if_false]
      rw [if_neg (show ¬ deep = 0 by omega)]
      obtain ⟨a1, a2⟩ := prog_brk fr d (i + 1) deep out (by omega) hd
      have a2' : ∀ e, brkR s d (i + 1) deep = some e → i < e ∧ e ≤ s.size ∧ Free s e := fun e he => by have := a2 e he; exact ⟨by omega, this.2⟩
      by_cases hb : begq s i = true
      · rw [if_pos hb, progF]
        simp only [if_neg (show ¬ deep = 0 by omega)]
        have hk : opq s i = true ∨ wdq s i = true := by
          unfold begq at hb
          rw [hs', Bool.false_or, Bool.or_eq_true, Bool.and_eq_true] at hb
          exact hb.imp id (fun h => h.1)
        obtain ⟨h1, h2⟩ := other_bytes hs' hk
        rw [h1, h2]
        simp only [Bool.false_eq_true, if_false]
        exact ⟨a1, a2'⟩
      · rw [if_neg hb]
        exact ⟨a1, a2'⟩
/-- The same documents. -/
theorem prog_ref : ∀ (f a fr : Nat) (out : List (Nat × Nat)), s.size < a + f → a ≤ s.size → Free s a → refF s f a out = progF s (idxD s (s.size - a) a) out 0 fr
  | 0, a, fr, out, hf, ha, _ => by omega
  | f + 1, a, fr, out, hf, ha, hfree => by
    unfold refF
    by_cases hlt : a < s.size
    · rw [if_pos hlt, idxD_at hlt]
      rcases free_kind hlt hfree with hb | hs | ho | hw
      · obtain ⟨hi, hw, _, _, hbg⟩ := bl_facts hb
        rw [if_pos hb, if_neg (by rw [hbg]; decide)]
        exact prog_ref f (a + 1) fr out (by omega) (by omega) (free_next hi hw)
      · obtain ⟨hm, hins, hw, ho, hb, hbg, hx⟩ := sg_facts hs
        rw [if_neg (by rw [hb]; decide), if_pos hbg, progF]
        unfold endR
        simp only [if_true]
        by_cases h1 : opensB (bt s (a : Int)) = true
        · rw [if_pos h1, if_pos h1, show s.size - a = (s.size - (a + 1)) + 1 by omega, brkR_succ]
          have h2 : closesB (bt s (a : Int)) = false := by
            unfold opensB at h1
            unfold closesB
            simp only [Bool.or_eq_true, beq_iff_eq] at h1
            rw [Bool.or_eq_false_iff, beq_eq_false_iff_ne, beq_eq_false_iff_ne]
            omega
          rw [hs, h1, h2]
          simp only [Bool.true_and, if_true, Bool.false_eq_true, if_false, Nat.zero_add, Nat.one_ne_zero]
          obtain ⟨a1, a2⟩ := prog_brk (s := s) a (s.size - (a + 1)) (a + 1) 1 out (by omega) (by omega)
          rw [a1]
          cases he : brkR s (s.size - (a + 1)) (a + 1) 1 with
          | none => rfl
          | some e =>
            obtain ⟨e1, e2, e3⟩ := a2 e he
            exact prog_ref f e a _ (by omega) e2 e3
        · rw [if_neg h1, if_neg h1, if_pos hs]
          have hr : (closesB (bt s (a : Int)) || bt s (a : Int) == 58 || bt s (a : Int) == 44) = true := by
            rw [sgx_bytes (bt_nn s a)] at hx
            cases hc : opensB (bt s (a : Int))
            · rw [hc, Bool.false_or] at hx
              exact hx
            · exact absurd hc h1
          rw [if_pos hr]
      · obtain ⟨hm, hins, hs, hw, hb⟩ := op_facts ho
        obtain ⟨h1, h2⟩ := other_bytes hs (.inl ho)
        have hbg : begq s a = true := by unfold begq; rw [hs, ho]; rfl
        rw [if_neg (by rw [hb]; decide), if_pos hbg, progF]
        unfold endR endM
        simp only [if_true]
        rw [h1, h2, hs, ho]
        simp only [Bool.false_eq_true, if_false, if_true]
        obtain ⟨t1, t2, t3, t4⟩ := firstQ_spec (mkq s) (s.size - (a + 1)) (a + 1)
        have et : firstQ (mkq s) (s.size - (a + 1)) (a + 1) = textE s a := rfl
        rw [et] at t1 t2 t3 t4
        by_cases ht : textE s a < s.size
        · rw [if_pos ht, if_pos ht, if_neg (Nat.succ_ne_zero _)]
          have hmk := t4 (by omega)
          have hin : ∀ j, a ≤ j → j < textE s a → insS s j = true := fun j h3 h4 => by
            obtain ⟨k, rfl⟩ : ∃ k, j = a + k := ⟨j - a, by omega⟩
            clear h3
            induction k with
            | zero => exact hins
            | succ k ih =>
              show par (mkq s) (a + (k + 1) + 1) = true
              rw [par_succ, t3 (a + (k + 1)) (by omega) h4, Bool.xor_false]
              exact ih (by omega)
          have hpe : par (mkq s) (textE s a) = true := by
            have := hin (textE s a - 1) (by omega) (by omega)
            rw [show insS s (textE s a - 1) = par (mkq s) (textE s a - 1 + 1) from rfl, show textE s a - 1 + 1 = textE s a by omega] at this
            exact this
          have hie : insS s (textE s a) = false := by
            show par (mkq s) (textE s a + 1) = false
            rw [par_succ, hpe, hmk]
            rfl
          have hoe : outq s (textE s a) = false := by unfold outq; rw [hmk]; rfl
          have hskip : idxD s (s.size - (a + 1)) (a + 1) = idxD s (s.size - (textE s a + 1)) (textE s a + 1) := idxD_skip s (by omega) (by omega) fun i h3 h4 => by
            by_cases e : i = textE s a
            · subst e
              unfold begq sgq opq wdq
              rw [hoe, hie]
              simp
            · have hi := hin i (by omega) (by omega)
              have hmi := t3 i (by omega) (by omega)
              have hoi : outq s i = false := by unfold outq; rw [hi]; simp
              unfold begq sgq opq wdq
              rw [hoi, hmi]
              simp
          rw [hskip]
          exact prog_ref f _ a _ (by omega) (by omega) (free_next hie (by unfold wdq; rw [hoe]; rfl))
        · rw [if_neg ht, if_neg ht, if_pos rfl]
      · obtain ⟨hm, hins, hs, ho, hb⟩ := wd_facts hw
        obtain ⟨h1, h2⟩ := other_bytes hs (.inr hw)
        have hbg := (hfree hlt).2 hw
        rw [if_neg (by rw [hb]; decide), if_pos hbg, progF]
        unfold endR endM
        simp only [if_true]
        rw [h1, h2, hs, ho, hw]
        simp only [Bool.false_eq_true, if_false, if_true]
        obtain ⟨t1, t2, t3, t4⟩ := firstQ_spec (fun i => !(wdq s i)) (s.size - a) a
        have et : firstQ (fun i => !(wdq s i)) (s.size - a) a = wordE s a := rfl
        rw [et] at t1 t2 t3 t4
        have hgt : a < wordE s a := by
          apply Classical.byContradiction
          intro c
          have e : wordE s a = a := by omega
          rw [e] at t4
          have := t4 (by omega)
          rw [hw] at this
          cases this
        rw [if_neg (by omega)]
        have hwd : ∀ j, a ≤ j → j < wordE s a → wdq s j = true := fun j h3 h4 => by simpa using t3 j h3 h4
        have hskip : idxD s (s.size - (a + 1)) (a + 1) = idxD s (s.size - wordE s a) (wordE s a) := idxD_skip s (by omega) (by omega) fun i h3 h4 => by
          obtain ⟨_, _, q1, q2, _⟩ := wd_facts (hwd i (by omega) h4)
          unfold begq
          rw [q1, q2, hwd i (by omega) h4, decide_eq_true (show 0 < i by omega), hwd (i - 1) (by omega) (by omega)]
          rfl
        rw [hskip]
        refine prog_ref f _ a _ (by omega) (by omega) fun he => ?_
        have hl := (wd_facts (hwd (wordE s a - 1) (by omega) (by omega))).2.1
        refine ⟨?_, fun c => ?_⟩
        · rw [show insS s (wordE s a - 1) = par (mkq s) (wordE s a - 1 + 1) from rfl, show wordE s a - 1 + 1 = wordE s a by omega] at hl
          exact hl
        · have := t4 (by omega)
          rw [c] at this
          cases this
    · have e : a = s.size := by omega
      subst e
      rw [if_neg hlt, Nat.sub_self]
      unfold idxD progF
      rfl
end
end Go.Proofs.YtfihkkjkifkemaaDoorQ
end
-- Qb
section
namespace Go.Proofs.YtfihkkjkifkemaaDoorQ
open Go Go.RowKit

/-- Eight lanes of a word. -/
def laneN (g : Nat → Nat) : Nat → Nat
  | 0 => 0
  | n + 1 => laneN g n + g n * 256 ^ n
theorem pow256 (n : Nat) : 256 ^ n = 2 ^ (8 * n) := by rw [show (256 : Nat) = 2 ^ 8 from rfl, ← Nat.pow_mul]
theorem laneN_lt (g : Nat → Nat) (hg : ∀ j, g j < 256) : ∀ n, laneN g n < 256 ^ n
  | 0 => by simp [laneN]
  | n + 1 => by
    have := laneN_lt g hg n
    have := Nat.mul_le_mul_right (256 ^ n) (Nat.le_of_lt_succ (hg n))
    unfold laneN
    rw [Nat.pow_succ]
    omega
theorem laneN_congr {g h : Nat → Nat} : ∀ n, (∀ j, j < n → g j = h j) → laneN g n = laneN h n
  | 0, _ => rfl
  | n + 1, e => by
    unfold laneN
    rw [laneN_congr n fun j hj => e j (by omega), e n (by omega)]
theorem laneN_add (g h : Nat → Nat) : ∀ n, laneN g n + laneN h n = laneN (fun j => g j + h j) n
  | 0 => rfl
  | n + 1 => by
    unfold laneN
    rw [← laneN_add g h n, Nat.add_mul]
    omega
/-- A bit of a lane. -/
theorem laneN_bit (g : Nat → Nat) (hg : ∀ j, g j < 256) (i : Nat) : ∀ n, (laneN g n).testBit i = (decide (i < 8 * n) && (g (i / 8)).testBit (i % 8))
  | 0 => by simp [laneN]
  | n + 1 => by
    have hl := laneN_lt g hg n
    have ih := laneN_bit g hg i n
    unfold laneN
    rw [pow256, Nat.add_comm, Nat.mul_comm, Nat.two_pow_add_eq_or_of_lt (by rw [← pow256]; exact hl), Nat.testBit_or, ih, Nat.testBit_two_pow_mul]
    by_cases h : i < 8 * n
    · simp [h, show ¬ 8 * n ≤ i by omega, show i < 8 * (n + 1) by omega]
    · by_cases h2 : i < 8 * (n + 1)
      · have e1 : i / 8 = n := by omega
        have e2 : i - 8 * n = i % 8 := by omega
        simp [h, h2, show 8 * n ≤ i by omega, e1, e2]
      · have h3 : (g n).testBit (i - 8 * n) = false := Nat.testBit_lt_two_pow (Nat.lt_of_lt_of_le (hg n) (show 2 ^ 8 ≤ 2 ^ (i - 8 * n) from Nat.pow_le_pow_right (by omega) (by omega)))
        simp [h, h2, h3]
theorem lane_xor (g h : Nat → Nat) (hg : ∀ j, g j < 256) (hh : ∀ j, h j < 256) (n : Nat) : laneN g n ^^^ laneN h n = laneN (fun j => g j ^^^ h j) n := by
  apply Nat.eq_of_testBit_eq
  intro i
  rw [Nat.testBit_xor, laneN_bit g hg, laneN_bit h hh, laneN_bit _ (fun j => Nat.xor_lt_two_pow (n := 8) (hg j) (hh j)), Nat.testBit_xor]
  cases decide (i < 8 * n) <;> simp
theorem lane_or (g h : Nat → Nat) (hg : ∀ j, g j < 256) (hh : ∀ j, h j < 256) (n : Nat) : laneN g n ||| laneN h n = laneN (fun j => g j ||| h j) n := by
  apply Nat.eq_of_testBit_eq
  intro i
  rw [Nat.testBit_or, laneN_bit g hg, laneN_bit h hh, laneN_bit _ (fun j => Nat.or_lt_two_pow (n := 8) (hg j) (hh j)), Nat.testBit_or]
  cases decide (i < 8 * n) <;> simp
theorem lane_and (g h : Nat → Nat) (hg : ∀ j, g j < 256) (hh : ∀ j, h j < 256) (n : Nat) : laneN g n &&& laneN h n = laneN (fun j => g j &&& h j) n := by
  apply Nat.eq_of_testBit_eq
  intro i
  rw [Nat.testBit_and, laneN_bit g hg, laneN_bit h hh, laneN_bit _ (fun j => Nat.and_lt_two_pow (n := 8) _ (hh j)), Nat.testBit_and]
  cases decide (i < 8 * n) <;> simp
theorem loadN_lane (f : Nat → Int) (n : Nat) : loadN f n = laneN (fun j => (f j).toNat) n := by
  induction n with
  | zero => rfl
  | succ n ih => unfold loadN laneN; rw [ih]

theorem fill_lane (c : Nat) : 72340172838076673 * c = laneN (fun _ => c) 8 := by
  simp only [laneN]
  omega
theorem bits_andNot_u64_nat (a b : Nat) (ha : a < 18446744073709551616) (hb : b < 18446744073709551616) :
    bits .andNot .u64 (a : Int) (b : Int) = ((a &&& (18446744073709551615 - b) : Nat) : Int) := by
  have e1 : (a : Int) = iv (BitVec.ofNat 64 a) := by unfold iv; rw [BitVec.toNat_ofNat]; omega
  have e2 : (b : Int) = iv (BitVec.ofNat 64 b) := by unfold iv; rw [BitVec.toNat_ofNat]; omega
  rw [e1, e2, bits_andNot]
  unfold iv
  rw [BitVec.toNat_and, BitVec.toNat_not, BitVec.toNat_ofNat, BitVec.toNat_ofNat, Nat.mod_eq_of_lt (by omega), Nat.mod_eq_of_lt (by omega)]
theorem bits_not_u64_nat (a : Nat) (ha : a < 18446744073709551616) :
    bits .xor .u64 18446744073709551615 (a : Int) = ((18446744073709551615 - a : Nat) : Int) := by
  have e1 : (a : Int) = iv (BitVec.ofNat 64 a) := by unfold iv; rw [BitVec.toNat_ofNat]; omega
  have e2 : (18446744073709551615 : Int) = iv (BitVec.allOnes 64) := by decide
  rw [e1, e2, bits_xor, BitVec.allOnes_xor]
  unfold iv
  rw [BitVec.toNat_not, BitVec.toNat_ofNat, Nat.mod_eq_of_lt (by omega)]
/-- The product that brings eight bits beside one another. -/
theorem gather_sum (x0 x1 x2 x3 x4 x5 x6 x7 : Nat) :
    (x0 + x1 * 256 + x2 * 65536 + x3 * 16777216 + x4 * 4294967296 + x5 * 1099511627776 + x6 * 281474976710656 + x7 * 72057594037927936) * 72624976668147840 =
      (x0 * 128 + (x0 * 64 + x1 * 128) * 256 + (x0 * 32 + x1 * 64 + x2 * 128) * 65536 + (x0 * 16 + x1 * 32 + x2 * 64 + x3 * 128) * 16777216 + (x0 * 8 + x1 * 16 + x2 * 32 + x3 * 64 + x4 * 128) * 4294967296
        + (x0 * 4 + x1 * 8 + x2 * 16 + x3 * 32 + x4 * 64 + x5 * 128) * 1099511627776 + (x0 * 2 + x1 * 4 + x2 * 8 + x3 * 16 + x4 * 32 + x5 * 64 + x6 * 128) * 281474976710656)
      + 72057594037927936 * (x0 + x1 * 2 + x2 * 4 + x3 * 8 + x4 * 16 + x5 * 32 + x6 * 64 + x7 * 128)
      + 18446744073709551616 * ((x1 + x2 * 2 + x3 * 4 + x4 * 8 + x5 * 16 + x6 * 32 + x7 * 64) + (x2 + x3 * 2 + x4 * 4 + x5 * 8 + x6 * 16 + x7 * 32) * 256 + (x3 + x4 * 2 + x5 * 4 + x6 * 8 + x7 * 16) * 65536 + (x4 + x5 * 2 + x6 * 4 + x7 * 8) * 16777216
        + (x5 + x6 * 2 + x7 * 4) * 4294967296 + (x6 + x7 * 2) * 1099511627776 + x7 * 281474976710656) := by omega
theorem gather_low {x0 x1 x2 x3 x4 x5 x6 : Nat} (h0 : x0 ≤ 1) (h1 : x1 ≤ 1) (h2 : x2 ≤ 1) (h3 : x3 ≤ 1) (h4 : x4 ≤ 1) (h5 : x5 ≤ 1) (h6 : x6 ≤ 1) :
    (x0 * 128 + (x0 * 64 + x1 * 128) * 256 + (x0 * 32 + x1 * 64 + x2 * 128) * 65536 + (x0 * 16 + x1 * 32 + x2 * 64 + x3 * 128) * 16777216 + (x0 * 8 + x1 * 16 + x2 * 32 + x3 * 64 + x4 * 128) * 4294967296
        + (x0 * 4 + x1 * 8 + x2 * 16 + x3 * 32 + x4 * 64 + x5 * 128) * 1099511627776 + (x0 * 2 + x1 * 4 + x2 * 8 + x3 * 16 + x4 * 32 + x5 * 64 + x6 * 128) * 281474976710656) < 72057594037927936 := by omega
theorem gather_mid {x0 x1 x2 x3 x4 x5 x6 x7 : Nat} (h0 : x0 ≤ 1) (h1 : x1 ≤ 1) (h2 : x2 ≤ 1) (h3 : x3 ≤ 1) (h4 : x4 ≤ 1) (h5 : x5 ≤ 1) (h6 : x6 ≤ 1) (h7 : x7 ≤ 1) :
    x0 + x1 * 2 + x2 * 4 + x3 * 8 + x4 * 16 + x5 * 32 + x6 * 64 + x7 * 128 < 256 := by omega
theorem gather_top (A B C : Nat) (hA : A < 72057594037927936) (hB : B < 256) : (((A + 72057594037927936 * B + 18446744073709551616 * C) % 18446744073709551616 : Nat) : Int) / 72057594037927936 % 256 = (B : Int) := by omega
/-- The highest bits of eight lanes, beside one another. -/
def topsN (x : Int) : Int := ((IntKind.u64.wrap (((bits .and .u64 x 9259542123273814144) / 128) * 72624976668147840)) / 72057594037927936) % 256
theorem tops_lane (g : Nat → Nat) (hg : ∀ j, g j < 256) : topsN ((laneN g 8 : Nat) : Int) = ((wordN (fun j => decide (128 ≤ g j)) 8 : Nat) : Int) := by
  have hl : laneN g 8 < 18446744073709551616 := laneN_lt g hg 8
  have eh : (9259542123273814144 : Nat) = laneN (fun _ => 128) 8 := by decide
  have e1 : bits .and .u64 ((laneN g 8 : Nat) : Int) 9259542123273814144 = ((laneN (fun j => g j &&& 128) 8 : Nat) : Int) := by
    have := bits_and_u64_nat (laneN g 8) 9259542123273814144 hl (by decide)
    rw [eh, lane_and g _ hg (fun _ => by decide)] at this
    rw [← this]
    rfl
  have e2 : ∀ j, g j &&& 128 = 128 * (if 128 ≤ g j then 1 else 0) := by
    intro j
    have : ∀ x : Fin 256, x.val &&& 128 = 128 * (if 128 ≤ x.val then 1 else 0) := by decide +kernel
    exact this ⟨g j, hg j⟩
  unfold topsN
  rw [e1, laneN_congr 8 fun j _ => e2 j]
  obtain ⟨b, hb⟩ : ∃ b : Nat → Nat, b = fun j => if 128 ≤ g j then 1 else 0 := ⟨_, rfl⟩
  have hb1 : ∀ j, b j ≤ 1 := fun j => by rw [hb]; dsimp only; split <;> omega
  have hw : wordN (fun j => decide (128 ≤ g j)) 8 = b 0 + b 1 * 2 + b 2 * 4 + b 3 * 8 + b 4 * 16 + b 5 * 32 + b 6 * 64 + b 7 * 128 := by
    have : ∀ j k : Nat, (if decide (128 ≤ g j) = true then k else 0) = b j * k := fun j k => by
      rw [hb]
      dsimp only
      by_cases h : 128 ≤ g j <;> simp [h]
    simp only [wordN, this]
    omega
  have hlane : laneN (fun j => 128 * if 128 ≤ g j then 1 else 0) 8 = 128 * (b 0 + b 1 * 256 + b 2 * 65536 + b 3 * 16777216 + b 4 * 4294967296 + b 5 * 1099511627776 + b 6 * 281474976710656 + b 7 * 72057594037927936) := by
    have : ∀ j, (if 128 ≤ g j then 1 else 0) = b j := fun j => by rw [hb]
    simp only [laneN, this]
    omega
  rw [hw, hlane]
  have h0 := hb1 0
  have h1 := hb1 1
  have h2 := hb1 2
  have h3 := hb1 3
  have h4 := hb1 4
  have h5 := hb1 5
  have h6 := hb1 6
  have h7 := hb1 7
  generalize b 0 = x0 at *
  generalize b 1 = x1 at *
  generalize b 2 = x2 at *
  generalize b 3 = x3 at *
  generalize b 4 = x4 at *
  generalize b 5 = x5 at *
  generalize b 6 = x6 at *
  generalize b 7 = x7 at *
  have e3 : ∀ S : Nat, ((128 * S : Nat) : Int) / 128 = (S : Int) := fun S => by omega
  have e4 : ∀ S : Nat, ((S : Int) * 72624976668147840) = ((S * 72624976668147840 : Nat) : Int) := fun S => by rw [Int.natCast_mul]; rfl
  rw [e3, e4, gather_sum, wrap_nat]
  exact gather_top _ _ _ (gather_low h0 h1 h2 h3 h4 h5 h6) (gather_mid h0 h1 h2 h3 h4 h5 h6 h7)
/-- Which of the eight bytes are one byte. -/
theorem equal_lanes (f : Nat → Int) (hf : ∀ i, 0 ≤ f i ∧ f i < 256) (c : Int) (h0 : 0 ≤ c) (h1 : c < 256) :
    topsN (bits .xor .u64 18446744073709551615 (bits .or .u64 (IntKind.u64.wrap (bits .andNot .u64 (bits .xor .u64 ((loadN f 8 : Nat) : Int) (IntKind.u64.wrap (72340172838076673 * IntKind.u64.wrap c))) 9259542123273814144 + 9187201950435737471))
      (bits .xor .u64 ((loadN f 8 : Nat) : Int) (IntKind.u64.wrap (72340172838076673 * IntKind.u64.wrap c))))) = ((wordN (fun j => decide (f j = c)) 8 : Nat) : Int) := by
  obtain ⟨d, rfl⟩ : ∃ d : Nat, c = d := ⟨c.toNat, by omega⟩
  have hd : d < 256 := by omega
  have hg : ∀ j, (f j).toNat < 256 := fun j => by have := hf j; omega
  have e1 : IntKind.u64.wrap (72340172838076673 * IntKind.u64.wrap (d : Int)) = ((laneN (fun _ => d) 8 : Nat) : Int) := by
    rw [wrap_nat, Nat.mod_eq_of_lt (by omega), ← fill_lane]
    have := wrap_nat (72340172838076673 * d)
    rw [Nat.mod_eq_of_lt (by omega), Int.natCast_mul] at this
    rw [Int.natCast_mul, ← this]
    rfl
  have hl1 : laneN (fun j => (f j).toNat) 8 < 18446744073709551616 := laneN_lt _ hg 8
  have hl2 : laneN (fun _ => d) 8 < 18446744073709551616 := laneN_lt _ (fun _ => hd) 8
  obtain ⟨x, hx⟩ : ∃ x : Nat → Nat, x = fun j => (f j).toNat ^^^ d := ⟨_, rfl⟩
  have hx256 : ∀ j, x j < 256 := fun j => by rw [hx]; exact Nat.xor_lt_two_pow (n := 8) (hg j) hd
  have e2 : bits .xor .u64 ((loadN f 8 : Nat) : Int) ((laneN (fun _ => d) 8 : Nat) : Int) = ((laneN x 8 : Nat) : Int) := by
    rw [loadN_lane, bits_xor_u64_nat _ _ hl1 hl2, lane_xor _ _ hg (fun _ => hd), hx]
  have hl3 : laneN x 8 < 18446744073709551616 := laneN_lt _ hx256 8
  have e3 : bits .andNot .u64 ((laneN x 8 : Nat) : Int) 9259542123273814144 = ((laneN (fun j => x j % 128) 8 : Nat) : Int) := by
    have := bits_andNot_u64_nat (laneN x 8) 9259542123273814144 hl3 (by decide)
    rw [show (18446744073709551615 - 9259542123273814144 : Nat) = laneN (fun _ => 127) 8 by decide, lane_and x _ hx256 (fun _ => by decide)] at this
    have e : ∀ j, x j &&& 127 = x j % 128 := fun j => Nat.and_two_pow_sub_one_eq_mod (x j) 7
    rw [laneN_congr 8 fun j _ => e j] at this
    rw [← this]
    rfl
  have e4 : IntKind.u64.wrap (((laneN (fun j => x j % 128) 8 : Nat) : Int) + 9187201950435737471) = ((laneN (fun j => x j % 128 + 127) 8 : Nat) : Int) := by
    have h : laneN (fun j => x j % 128) 8 + 9187201950435737471 = laneN (fun j => x j % 128 + 127) 8 := by
      rw [show (9187201950435737471 : Nat) = laneN (fun _ => 127) 8 by decide, laneN_add]
    have hl4 : laneN (fun j => x j % 128 + 127) 8 < 18446744073709551616 := laneN_lt _ (fun j => by omega) 8
    have := wrap_nat (laneN (fun j => x j % 128) 8 + 9187201950435737471)
    rw [Nat.mod_eq_of_lt (by rw [h]; exact hl4), Int.natCast_add] at this
    rw [← h, Int.natCast_add, ← this]
    rfl
  have hl4 : laneN (fun j => x j % 128 + 127) 8 < 18446744073709551616 := laneN_lt _ (fun j => by omega) 8
  have hy : ∀ j, (x j % 128 + 127) ||| x j < 256 := fun j => Nat.or_lt_two_pow (n := 8) (by omega) (hx256 j)
  have hl5 : laneN (fun j => (x j % 128 + 127) ||| x j) 8 < 18446744073709551616 := laneN_lt _ hy 8
  have e5 : 18446744073709551615 - laneN (fun j => (x j % 128 + 127) ||| x j) 8 = laneN (fun j => 255 - ((x j % 128 + 127) ||| x j)) 8 := by
    have h := laneN_add (fun j => (x j % 128 + 127) ||| x j) (fun j => 255 - ((x j % 128 + 127) ||| x j)) 8
    rw [laneN_congr (h := fun _ => 255) 8 fun j _ => Nat.add_sub_of_le (Nat.le_of_lt_succ (hy j))] at h
    have : laneN (fun _ => 255) 8 = 18446744073709551615 := by decide
    omega
  rw [e1, e2, e3, e4, bits_or_u64_nat _ _ hl4 hl3, lane_or _ _ (fun j => by omega) hx256, bits_not_u64_nat _ hl5, e5, tops_lane _ (fun j => by omega)]
  have : ∀ j, decide (128 ≤ 255 - ((x j % 128 + 127) ||| x j)) = decide (f j = (d : Int)) := by
    intro j
    have hz : ∀ z : Fin 256, (decide (128 ≤ 255 - ((z.val % 128 + 127) ||| z.val)) = decide (z.val = 0)) := by decide +kernel
    have h := hz ⟨x j, hx256 j⟩
    dsimp only at h
    rw [h]
    have hfj := hf j
    have : x j = 0 ↔ f j = (d : Int) := by
      rw [hx]
      dsimp only
      constructor
      · intro e
        have : (f j).toNat = d := by
          have h := congrArg (· ^^^ d) e
          simpa [Nat.xor_assoc] using h
        omega
      · intro e
        have : (f j).toNat = d := by omega
        rw [this, Nat.xor_self]
    simp [this]
  have hfun : (fun j => decide (128 ≤ 255 - ((x j % 128 + 127) ||| x j))) = fun j => decide (f j = (d : Int)) := funext this
  rw [hfun]
end Go.Proofs.YtfihkkjkifkemaaDoorQ
end
-- WTab
section
namespace Go.Proofs.YtfihkkjkifkemaaDoorW.PrintLast
open Go.Proofs.YtfihkkjkifkemaaDoorW.PrintWords (Aside0)
def needsOf (md : Region.Mode) (o : Oper) : List Nat := (o.after.toList.filter (fun e => Region.binds md e)).map (fun e => e.on)
def clashOf (md : Region.Mode) (ops : Array Oper) (i : Nat) (oi : Oper) : List Nat := (List.range ops.size).filter fun j => !(j == i) && match ops[j]? with
  | some oj => !(oj.after.any (fun e => Region.binds md e && e.on == i) || oi.apart ops oj)
  | none => false
/-- No select in it; for each operation: what must have come up before it, and what may not come up behind it if it is taken first. -/
def rtab (md : Region.Mode) (ops : Array Oper) : Bool × List (List Nat × List Nat) := (Region.noSelect ops, (List.range ops.size).map fun i => match ops[i]? with
  | some o => (needsOf md o, clashOf md ops i o)
  | none => ([], []))
def readyAt (T : List (List Nat × List Nat)) (l : List Bool) (i : Nat) : Bool := !l.getD i true && match T[i]? with
  | some r => r.1.all (fun j => l.getD j false)
  | none => false
def readyT (T : List (List Nat × List Nat)) (l : List Bool) : List Nat := (List.range T.length).filter (readyAt T l)
def freeT (T : List (List Nat × List Nat)) (l : List Bool) (i : Nat) : Bool := match T[i]? with
  | some r => r.2.all (fun j => l.getD j true)
  | none => false
def closedT (T : List (List Nat × List Nat)) (l : List Bool) : Bool := (List.range T.length).all fun j => !l.getD j false || match T[j]? with
  | some r => r.1.all (fun k => l.getD k false)
  | none => true
def reachT (T : List (List Nat × List Nat)) (i : Nat) : Nat → Nat → Bool
  | 0, _ => false
  | fuel + 1, d => match T[d]? with
    | some r => r.1.any fun j => j == i || reachT T i fuel j
    | none => false
def lastT (T : List (List Nat × List Nat)) (l : List Bool) (ds : List Nat) (i : Nat) : Bool := ds.all fun d => l.getD d true || reachT T i T.length d
section
variable {md : Region.Mode} {ops : Array Oper} {T : Bool × List (List Nat × List Nat)} {l l' li lj lk : Array Bool} {ds : List Nat} {i j k : Nat}
theorem gd (l : Array Bool) (j : Nat) (b : Bool) : l.getD j b = l.toList.getD j b := by simp [Array.getD_eq_getD_getElem?, List.getD_eq_getElem?_getD]
theorem needs_all (o : Oper) (p : Nat → Bool) : o.after.all (fun e => !Region.binds md e || p e.on) = (needsOf md o).all p := by
  unfold needsOf
  rw [← Array.all_toList]
  induction o.after.toList with
  | nil => rfl
  | cons e r ih =>
    rw [List.all_cons, ih, List.filter_cons]
    cases h : Region.binds md e <;> simp
theorem needs_any (o : Oper) (p : Nat → Bool) : o.after.any (fun e => Region.binds md e && p e.on) = (needsOf md o).any p := by
  unfold needsOf
  rw [← Array.any_toList]
  induction o.after.toList with
  | nil => rfl
  | cons e r ih =>
    rw [List.any_cons, ih, List.filter_cons]
    cases h : Region.binds md e <;> simp
theorem rtab_length : (rtab md ops).2.length = ops.size := by simp [rtab]
theorem rtab_some {o : Oper} (h : ops[i]? = some o) : (rtab md ops).2[i]? = some (needsOf md o, clashOf md ops i o) := by
  have hi := (Array.getElem?_eq_some_iff.1 h).1
  unfold rtab
  rw [List.getElem?_map, List.getElem?_range hi, Option.map_some, h]
theorem rtab_none (h : ops[i]? = none) : (rtab md ops).2[i]? = none := by
  have hi : ops.size ≤ i := Array.getElem?_eq_none_iff.1 h
  exact List.getElem?_eq_none (by rw [rtab_length]; exact hi)
theorem readyAt_eq : readyAt (rtab md ops).2 l.toList i = (!l.getD i true && ((ops[i]?).map (·.after.all fun e => !Region.binds md e || l.getD e.on false)).getD false) := by
  unfold readyAt
  rw [gd]
  cases h : ops[i]? with
  | none => rw [rtab_none h]; rfl
  | some o =>
    rw [rtab_some h]
    simp only [Option.map_some, Option.getD_some]
    rw [← needs_all]
    simp only [gd]
theorem ready_eq : Region.ready md ops l = readyT (rtab md ops).2 l.toList := by
  unfold Region.ready readyT
  rw [rtab_length]
  refine List.filter_congr (fun i _ => ?_)
  rw [readyAt_eq]
theorem free_eq : Region.free md ops l i = freeT (rtab md ops).2 l.toList i := by
  unfold Region.free freeT
  cases h : ops[i]? with
  | none => rw [rtab_none h]
  | some oi =>
    rw [rtab_some h]
    simp only [clashOf]
    rw [List.all_filter]
    congr 1
    funext j
    rw [gd]
    cases hj : ops[j]? with
    | none => cases (j == i) <;> cases (l.toList.getD j true) <;> simp
    | some oj =>
      cases (j == i) <;> cases (l.toList.getD j true) <;> cases (oj.after.any (fun e => Region.binds md e && e.on == i) || oi.apart ops oj) <;> simp_all
theorem closed_eq : Region.closedB md ops l = closedT (rtab md ops).2 l.toList := by
  unfold Region.closedB closedT
  rw [rtab_length]
  congr 1
  funext j
  rw [gd]
  cases h : ops[j]? with
  | none => rw [rtab_none h]
  | some o =>
    rw [rtab_some h]
    simp only
    rw [← needs_all]
    simp only [gd]
theorem reach_eq : ∀ (fuel d : Nat), Region.reachB md ops i fuel d = reachT (rtab md ops).2 i fuel d
  | 0, _ => rfl
  | fuel + 1, d => by
    unfold Region.reachB reachT
    cases h : ops[d]? with
    | none => rw [rtab_none h]
    | some o =>
      rw [rtab_some h]
      simp only
      rw [← needs_any]
      congr 1
      funext e
      rw [reach_eq fuel]
theorem last_eq : Region.lastB md ops l ds i = lastT (rtab md ops).2 l.toList ds i := by
  unfold Region.lastB lastT
  rw [rtab_length]
  congr 1
  funext d
  rw [gd, reach_eq]
theorem readyAt_mem (h : readyAt T.2 l.toList i = true) (hT : rtab md ops = T) : (Region.ready md ops l).contains i = true := by
  subst hT
  rw [ready_eq]
  unfold readyT
  rw [List.contains_iff_mem, List.mem_filter, List.mem_range]
  refine ⟨?_, h⟩
  unfold readyAt at h
  rw [Bool.and_eq_true] at h
  cases hq : (rtab md ops).2[i]? with
  | none => rw [hq] at h; simp at h
  | some r => exact (List.getElem?_eq_some_iff.1 hq).1
theorem set_of (h : (l.toList.set i true == l'.toList) = true) : (l.setIfInBounds i true == l') = true := by
  rw [beq_iff_eq] at h ⊢
  apply Array.ext'
  rw [Array.toList_setIfInBounds]
  exact h
def anyT (T : Bool × List (List Nat × List Nat)) (l l' : List Bool) (i : Nat) : Bool := T.1 && freeT T.2 l i && readyAt T.2 l i && (l.set i true == l')
/-- pure_'s condition out of the table. -/
theorem any_of (hT : rtab md ops = T) (h : anyT T l.toList l'.toList i = true) : anyB md ops l l' i = true := by
  simp only [anyT, Bool.and_eq_true] at h
  obtain ⟨⟨⟨h1, h2⟩, h3⟩, h4⟩ := h
  have h5 := readyAt_mem h3 hT
  have h6 := set_of h4
  subst hT
  simp only [anyB, Bool.and_eq_true]
  exact ⟨⟨⟨h1, by rw [free_eq]; exact h2⟩, h5⟩, h6⟩
def takeT (T : Bool × List (List Nat × List Nat)) (ds : List Nat) (l l' : List Bool) (i : Nat) : Bool := T.1 && freeT T.2 l i && readyAt T.2 l i && closedT T.2 l && lastT T.2 l ds i && (l.set i true == l')
/-- take_'s. -/
theorem take_of (hT : rtab md ops = T) (h : takeT T ds l.toList l'.toList i = true) : takeB md ops ds l l' i = true := by
  simp only [takeT, Bool.and_eq_true] at h
  obtain ⟨⟨⟨⟨⟨h1, h2⟩, h3⟩, h4⟩, h5⟩, h6⟩ := h
  have h7 := readyAt_mem h3 hT
  have h8 := set_of h6
  subst hT
  simp only [takeB, Bool.and_eq_true]
  exact ⟨⟨⟨⟨⟨h1, by rw [free_eq]; exact h2⟩, h7⟩, by rw [closed_eq]; exact h4⟩, by rw [last_eq]; exact h5⟩, h8⟩
/-- one_'s and last_'s. -/
theorem one_of (hT : rtab md ops = T) (h : (readyT T.2 l.toList == [i] && l.toList.set i true == l'.toList) = true) : readyB md ops l l' i = true := by
  simp only [Bool.and_eq_true] at h
  obtain ⟨h1, h2⟩ := h
  subst hT
  simp only [readyB, Bool.and_eq_true]
  exact ⟨by rw [ready_eq]; exact h1, set_of h2⟩
/-- done_'s. -/
theorem done_of (hT : rtab md ops = T) (h : (readyT T.2 l.toList == []) = true) : (Region.ready md ops l == []) = true := by
  subst hT
  rw [ready_eq]
  exact h
/-- What d waits for, as_ bits: told in the table (B), checked in one pass: each bit is a need of d, or a bit of an earlier need's. -/
def upM (B : List Nat) (d : Nat) : List Nat → Nat
  | [] => 0
  | n :: r => (2 ^ n ||| (if n < d then B.getD n 0 else 0)) ||| upM B d r
def waitsOk (T : List (List Nat × List Nat)) (B : List Nat) : Bool := (List.range T.length).all fun d => match T[d]? with
  | some r => (B.getD d 0 ||| upM B d r.1) == upM B d r.1
  | none => false
theorem upM_bit {B : List Nat} {d i : Nat} : ∀ {ns : List Nat}, (upM B d ns).testBit i = true → ∃ n ∈ ns, n = i ∨ (n < d ∧ (B.getD n 0).testBit i = true)
  | [], h => by simp [upM] at h
  | n :: r, h => by
    unfold upM at h
    rw [Nat.testBit_or, Nat.testBit_or, Bool.or_eq_true, Bool.or_eq_true] at h
    rcases h with (h | h) | h
    · rw [Nat.testBit_two_pow] at h
      exact ⟨n, List.mem_cons_self, .inl (by simpa using h)⟩
    · by_cases hn : n < d
      · rw [if_pos hn] at h
        exact ⟨n, List.mem_cons_self, .inr ⟨hn, h⟩⟩
      · rw [if_neg hn] at h
        simp at h
    · obtain ⟨m, hm, h2⟩ := upM_bit h
      exact ⟨m, List.mem_cons_of_mem _ hm, h2⟩
theorem reach_bit {T : List (List Nat × List Nat)} {B : List Nat} (hB : waitsOk T B = true) : ∀ (fuel d : Nat), d < fuel → d < T.length → (B.getD d 0).testBit i = true → reachT T i fuel d = true
  | 0, d, h, _, _ => by omega
  | fuel + 1, d, h, hd, hb => by
    have h1 := List.all_eq_true.1 hB d (List.mem_range.2 hd)
    cases hr : T[d]? with
    | none => rw [hr] at h1; simp at h1
    | some r =>
      rw [hr] at h1
      simp only [beq_iff_eq] at h1
      have h2 : (upM B d r.1).testBit i = true := by rw [← h1, Nat.testBit_or, hb, Bool.true_or]
      obtain ⟨n, hn, h3⟩ := upM_bit h2
      unfold reachT
      rw [hr]
      simp only
      rw [List.any_eq_true]
      refine ⟨n, hn, ?_⟩
      rcases h3 with rfl | ⟨h4, h5⟩
      · simp
      · rw [reach_bit hB fuel n (by omega) (by omega) h5, Bool.or_true]
def lastW (T : List (List Nat × List Nat)) (B : List Nat) (l : List Bool) (ds : List Nat) (i : Nat) : Bool := ds.all fun d => l.getD d true || (decide (d < T.length) && (B.getD d 0).testBit i)
def takeW (T : Bool × List (List Nat × List Nat)) (B : List Nat) (ds : List Nat) (l l' : List Bool) (i : Nat) : Bool := T.1 && freeT T.2 l i && readyAt T.2 l i && closedT T.2 l && lastW T.2 B l ds i && (l.set i true == l')
/-- take_'s, by the bits. -/
theorem take_ofW {B : List Nat} (hT : rtab md ops = T) (hB : waitsOk T.2 B = true) (h : takeW T B ds l.toList l'.toList i = true) : takeB md ops ds l l' i = true := by
  refine take_of hT ?_
  simp only [takeW, takeT, Bool.and_eq_true] at h ⊢
  obtain ⟨⟨⟨⟨⟨h1, h2⟩, h3⟩, h4⟩, h5⟩, h6⟩ := h
  refine ⟨⟨⟨⟨⟨h1, h2⟩, h3⟩, h4⟩, ?_⟩, h6⟩
  unfold lastW at h5
  unfold lastT
  rw [List.all_eq_true] at h5 ⊢
  intro d hd
  have h7 := h5 d hd
  rw [Bool.or_eq_true, Bool.and_eq_true, decide_eq_true_eq] at h7
  rcases h7 with h7 | ⟨h8, h9⟩
  · rw [h7, Bool.true_or]
  · rw [reach_bit hB _ d h8 h8 h9, Bool.or_true]
theorem with_tabW {P : Program} {Q : Exit → Act → World → Prop} {S : World → Prop} {n : Nat} {a : Act} {w : World} {B : List Nat} (hT : rtab md ops = T) (hB : waitsOk T.2 B = true) (h : Aside0 (rtab md ops = T) → Aside0 (waitsOk T.2 B = true) → wpAnyLast P md ops Q S ds n l a w) : wpAnyLast P md ops Q S ds n l a w := h ⟨hT⟩ ⟨hB⟩
end
/-- The operations of a region, by its number. -/
def opsIn : Code → Nat → Option (Array Oper)
  | .region id ops _, k => if id == k then some ops else none
  | .seq a b, k => match opsIn a k with
    | some o => some o
    | none => opsIn b k
  | .cond _ a b, k => match opsIn a k with
    | some o => some o
    | none => opsIn b k
  | .block _ c, k => opsIn c k
  | .loop c, k => opsIn c k
  | .scope c, k => opsIn c k
  | .rangeFunc _ _ a b, k => match opsIn a k with
    | some o => some o
    | none => opsIn b k
  | _, _ => none
def opsOf (f : Func) (k : Nat) : Array Oper := ((f.body.bind fun c => opsIn c k)).getD #[]
end Go.Proofs.YtfihkkjkifkemaaDoorW.PrintLast
end
-- WRepsOne
section
namespace Go.Proofs.YtfihkkjkifkemaaDoorW.PrintWords
/-- One cell an element. -/
theorem Reps.one {α : Type} {R : α → List Value → Prop} {ps : List α} {cs : List Value} {p : α} {v : Value} (hp : R p [v]) (h : Reps R 1 ps cs) : Reps R 1 (p :: ps) (v :: cs) := by
  refine ⟨by simp [h.1], fun j q hq => ?_⟩
  cases j with
  | zero =>
    simp only [List.getElem?_cons_zero, Option.some.injEq] at hq
    subst hq
    simpa using hp
  | succ j =>
    simp only [List.getElem?_cons_succ] at hq
    have h1 := h.2 j q hq
    simpa [Nat.mul_one] using h1
/-- More cells an element: told apart by the cells' list. -/
theorem Reps.front {α : Type} {R : α → List Value → Prop} {size : Nat} {ps : List α} {cs c all : List Value} {p : α} (hp : R p c) (hc : c.length = size) (h : Reps R size ps cs) (ha : c ++ cs = all) : Reps R size (p :: ps) all := by
  subst ha
  refine ⟨by rw [List.length_append, hc, h.1, List.length_cons, Nat.succ_mul, Nat.add_comm], fun j q hq => ?_⟩
  cases j with
  | zero =>
    simp only [List.getElem?_cons_zero, Option.some.injEq] at hq
    subst hq
    rw [Nat.zero_mul, List.drop_zero, List.take_append_of_le_length (by omega), List.take_of_length_le (by omega)]
    exact hp
  | succ j =>
    simp only [List.getElem?_cons_succ] at hq
    have h1 := h.2 j q hq
    rw [Nat.succ_mul, List.drop_append, List.drop_of_length_le (by rw [hc]; exact Nat.le_add_left _ _), List.nil_append, hc, Nat.add_sub_cancel]
    exact h1
theorem Reps.c2 {α : Type} {R : α → List Value → Prop} {ps : List α} {cs : List Value} {p : α} {va vb : Value} (hp : R p [va, vb]) (h : Reps R 2 ps cs) : Reps R 2 (p :: ps) (va :: vb :: cs) := Reps.front hp rfl h rfl
theorem Reps.c3 {α : Type} {R : α → List Value → Prop} {ps : List α} {cs : List Value} {p : α} {va vb vc : Value} (hp : R p [va, vb, vc]) (h : Reps R 3 ps cs) : Reps R 3 (p :: ps) (va :: vb :: vc :: cs) := Reps.front hp rfl h rfl
theorem Reps.c4 {α : Type} {R : α → List Value → Prop} {ps : List α} {cs : List Value} {p : α} {va vb vc vd : Value} (hp : R p [va, vb, vc, vd]) (h : Reps R 4 ps cs) : Reps R 4 (p :: ps) (va :: vb :: vc :: vd :: cs) := Reps.front hp rfl h rfl
theorem Reps.c5 {α : Type} {R : α → List Value → Prop} {ps : List α} {cs : List Value} {p : α} {va vb vc vd ve : Value} (hp : R p [va, vb, vc, vd, ve]) (h : Reps R 5 ps cs) : Reps R 5 (p :: ps) (va :: vb :: vc :: vd :: ve :: cs) := Reps.front hp rfl h rfl
theorem Reps.c6 {α : Type} {R : α → List Value → Prop} {ps : List α} {cs : List Value} {p : α} {va vb vc vd ve vf : Value} (hp : R p [va, vb, vc, vd, ve, vf]) (h : Reps R 6 ps cs) : Reps R 6 (p :: ps) (va :: vb :: vc :: vd :: ve :: vf :: cs) := Reps.front hp rfl h rfl
theorem Reps.c7 {α : Type} {R : α → List Value → Prop} {ps : List α} {cs : List Value} {p : α} {va vb vc vd ve vf vg : Value} (hp : R p [va, vb, vc, vd, ve, vf, vg]) (h : Reps R 7 ps cs) : Reps R 7 (p :: ps) (va :: vb :: vc :: vd :: ve :: vf :: vg :: cs) := Reps.front hp rfl h rfl
theorem Reps.c8 {α : Type} {R : α → List Value → Prop} {ps : List α} {cs : List Value} {p : α} {va vb vc vd ve vf vg vh : Value} (hp : R p [va, vb, vc, vd, ve, vf, vg, vh]) (h : Reps R 8 ps cs) : Reps R 8 (p :: ps) (va :: vb :: vc :: vd :: ve :: vf :: vg :: vh :: cs) := Reps.front hp rfl h rfl
theorem Reps.c9 {α : Type} {R : α → List Value → Prop} {ps : List α} {cs : List Value} {p : α} {va vb vc vd ve vf vg vh vi : Value} (hp : R p [va, vb, vc, vd, ve, vf, vg, vh, vi]) (h : Reps R 9 ps cs) : Reps R 9 (p :: ps) (va :: vb :: vc :: vd :: ve :: vf :: vg :: vh :: vi :: cs) := Reps.front hp rfl h rfl
theorem Reps.c10 {α : Type} {R : α → List Value → Prop} {ps : List α} {cs : List Value} {p : α} {va vb vc vd ve vf vg vh vi vj : Value} (hp : R p [va, vb, vc, vd, ve, vf, vg, vh, vi, vj]) (h : Reps R 10 ps cs) : Reps R 10 (p :: ps) (va :: vb :: vc :: vd :: ve :: vf :: vg :: vh :: vi :: vj :: cs) := Reps.front hp rfl h rfl
end Go.Proofs.YtfihkkjkifkemaaDoorW.PrintWords
end
-- WInv
section
namespace Go.Proofs.YtfihkkjkifkemaaDoorW.PrintLast
/-- Number i is listed too. -/
def up (b : Nat → Bool) (i : Nat) : Nat → Bool := fun j => if j = i then true else b j
section
variable {P : Program} {ops : Array Oper} {Q : Exit → Act → World → Prop} {md : Region.Mode} {T : Bool × List (List Nat × List Nat)} {B : List Nat} {O : List Nat} {b : Nat → Bool} {i j n : Nat}
end
end Go.Proofs.YtfihkkjkifkemaaDoorW.PrintLast
end
-- WGuard
section
namespace Go.Proofs.YtfihkkjkifkemaaDoorW.PrintWords
open Go.RowKit
section
variable {P : Program} {ops : Array Oper} {rest : List Oper} {o : Oper} {a : Act} {Q : Exit → Act → World → Prop} {W : World}
/-- The gate takes the guard off (hw: 'by rfl', 'by kernel_rfl': the guard's slot holds what is wanted). -/
theorem gate_guard (hw : Region.wanted o (yielded ops a.tmps) = true) (h : wpList P ops Q ({ o with guard := none } :: rest) a W) : wpList P ops Q (o :: rest) a W := by
  have h1 : Region.wanted { o with guard := none } (yielded ops a.tmps) = true := rfl
  unfold wpList at h ⊢
  rw [if_pos h1] at h
  rw [if_pos hw]
  exact h
end
end Go.Proofs.YtfihkkjkifkemaaDoorW.PrintWords
end
-- PSx0
section
namespace Go.Proofs.YtfihkkjkifkemaaDoor.PS
open Go.RowKit Go.Proofs.YtfihkkjkifkemaaDoorW.PrintWords Go.Proofs.YtfihkkjkifkemaaDoorW.PrintLast Go.Proofs.YtfihkkjkifkemaaDoorW.PrintMore
attribute [local go_sem] max2_int min2_int max_two min_two max_three min_three max_four min_four   -- for this text's walks alone
set_option linter.unusedVariables false
set_option linter.unusedSimpArgs false



def errW : Option Int → Value
  | none => .nilIface
  | some c => .iface 0 (.int .i64 c)
theorem errW_none : errW none = .nilIface := rfl
theorem errW_some (c : Int) : errW (some c) = .iface 0 (.int .i64 c) := rfl

theorem info3 : (Tryd.prog.info? 3).map (fun i => (i.zero, i.size, i.bytes)) = some (some (.int .i64 0), 1, 8) := by kernel_rfl
theorem info4 : (Tryd.prog.info? 4).map (fun i => (i.zero, i.size, i.bytes)) = some (some (.bool false), 1, 1) := by kernel_rfl
theorem info36 : (Tryd.prog.info? 36).map (fun i => (i.zero, i.size, i.bytes)) = some (some (.agg #[(.int .i64 0), (.int .i64 0)]), 2, 16) := by kernel_rfl
structure S95 where
  f0 : Int
  f1 : (List Int)
structure S81 where
  f0 : Int
  f1 : Int
  f2 : Int
  f3 : Int
def k81 : Kd S81 := Kd.iso (Kd.pair (Kd.int .u64) (Kd.pair (Kd.int .u64) (Kd.pair (Kd.int .u64) (Kd.int .u64)))) (fun x : S81 => (x.f0, x.f1, x.f2, x.f3))
theorem k81_mkM (w : World) (base : Nat) (ok : Nat → Prop) (x : S81)  : k81.M w base ok x [.int .u64 x.f0, .int .u64 x.f1, .int .u64 x.f2, .int .u64 x.f3] := ⟨[.int .u64 x.f0], [.int .u64 x.f1, .int .u64 x.f2, .int .u64 x.f3], rfl, rfl, ⟨[.int .u64 x.f1], [.int .u64 x.f2, .int .u64 x.f3], rfl, rfl, ⟨[.int .u64 x.f2], [.int .u64 x.f3], rfl, rfl, rfl⟩⟩⟩
structure S36 where
  f0 : Int
  f1 : Int
def z36 : S36 := ⟨(0 : Int), (0 : Int)⟩
def k36 : Kd S36 := Kd.iso (Kd.pair (Kd.int .i64) (Kd.int .i64)) (fun x : S36 => (x.f0, x.f1))
theorem k36_open {w : World} {x : S36} {cs : List Value} (h : k36.K w x cs) : cs = [.int .i64 x.f0, .int .i64 x.f1] := by
  obtain ⟨_, _, rfl, rfl, rfl⟩ := h
  exact rfl
theorem k36_mkM (w : World) (base : Nat) (ok : Nat → Prop) (x : S36)  : k36.M w base ok x [.int .i64 x.f0, .int .i64 x.f1] := ⟨[.int .i64 x.f0], [.int .i64 x.f1], rfl, rfl, rfl⟩
def rd_T36 (xs : List S36) (i : Int) : S36 := xs.getD i.toNat z36
theorem at_T36 {w : World} {A : Option Addr} {n : Nat} {xs : List S36} (h : Kd.C k36 w A n xs) (i : Int) (h0 : 0 ≤ i) (h1 : i < n) : ∃ ad , A = some ad ∧ w.cell? (ad.add (i.toNat * 2)) = some (.int .i64 (rd_T36 xs i).f0) ∧ w.cell? ⟨(ad.add (i.toNat * 2)).block, (ad.add (i.toNat * 2)).off + 1, none⟩ = some (.int .i64 (rd_T36 xs i).f1) := by
  obtain ⟨ad, c, e, _, hK, hc0⟩ := Kd.C_get h z36 i h0 h1
  have hc : ∀ j u, c[j]? = some u → w.cell? (ad.add (i.toNat * 2 + j)) = some u := hc0
  obtain rfl := k36_open hK
  exact ⟨ad, e, hc 0 _ rfl, by rw [← add_field _ _ 1 (by omega)]; exact hc 1 _ rfl⟩

end Go.Proofs.YtfihkkjkifkemaaDoor.PS
end
-- PSx1
section
namespace Go.Proofs.YtfihkkjkifkemaaDoor.PS
open Go.RowKit Go.Proofs.YtfihkkjkifkemaaDoorW.PrintWords Go.Proofs.YtfihkkjkifkemaaDoorW.PrintLast Go.Proofs.YtfihkkjkifkemaaDoorW.PrintMore
attribute [local go_sem] max2_int min2_int max_two min_two max_three min_three max_four min_four   -- for this text's walks alone
set_option linter.unusedVariables false
set_option linter.unusedSimpArgs false

theorem eqA36 (d : Nat) (w : World) (x0 y0 : Int) (x1 y1 : Int) :
    (Op.equalIn (d + 2) 36 (.agg #[.int .i64 x0, .int .i64 x1]) (.agg #[.int .i64 y0, .int .i64 y1])).run Tryd.prog w = .ok (x0 == y0 && (x1 == y1)) w := by
  refine eqA_of Tryd.underlying36 (by kernel_rfl) ?_
  refine eqf_cons (by rfl) (by go_simp; rfl) (by go_simp; rfl) (by go_simp) ?_
  exact eqf_last (by rfl) (by go_simp; rfl) (by go_simp; rfl) (by go_simp)
end Go.Proofs.YtfihkkjkifkemaaDoor.PS
end
-- PSx2
section
namespace Go.Proofs.YtfihkkjkifkemaaDoor.PS
open Go.RowKit Go.Proofs.YtfihkkjkifkemaaDoorW.PrintWords Go.Proofs.YtfihkkjkifkemaaDoorW.PrintLast Go.Proofs.YtfihkkjkifkemaaDoorW.PrintMore
attribute [local go_sem] max2_int min2_int max_two min_two max_three min_three max_four min_four   -- for this text's walks alone
set_option linter.unusedVariables false
set_option linter.unusedSimpArgs false

open Go.Proofs.YtfihkkjkifkemaaDoorQ Go.Proofs.YtfihkkjkifkemaaDoorM in
set_option maxHeartbeats 4000000 in
set_option maxRecDepth 100000 in
theorem block_filled.calls (x : Int) (w : World) :
    Calls Tryd.prog 77 #[.int .u8 x] w fun e w' => e = .returned (.agg (blkA fun _ => x)) ∧ Below w.heap.size w w' := by
  have HB := BelowH.refl w
  go_enter Tryd.func77, Tryd.ntmps77
  go_wp2_with (first | ((with_reducible refine gate_dst (N := 2) rfl ?_); refine ev_alloc HB rfl (blkA fun _ => 0) 106 ?hr ?_; (case hr => (rw [← blkA_zero]; go_simp; rfl)); intro g0 w1 G_g0 GE_g0 B_g0 HBn K_g0; clear HB; have HB := HBn; clear HBn) | ((with_reducible refine gate_dst (N := 3) rfl ?_); refine ev_alloc HB rfl (blkA fun _ => 0) 106 ?hr ?_; (case hr => (rw [← blkA_zero]; go_simp; rfl)); intro g1 w2 G_g1 GE_g1 B_g1 HBn K_g1; clear HB; have HB := HBn; clear HBn))
  have B0 := B_g0.below K_g1.out
  have NE := Aside0.mk (show g0 ≠ g1 by have := B_g0.lt; have := G_g1.out; omega)
  go_loopw [5] (fun v wr => ∃ i : Nat, i ≤ 64 ∧ v = .int .i64 i ∧ Blk wr g1 (blkA fun j => if j < i then x else 0) 106 ∧ Blk wr g0 (blkA fun _ => 0) 106 ∧ BelowH w wr) (fun v _ => 64 - (intOf v).toNat)
  case atStart => exact ⟨0, by omega, rfl, by simpa using B_g1, B0, HB⟩
  case round =>
    clear B0 B_g1 B_g0 HB
    obtain ⟨i, hi, rfl, B1, B0, HB⟩ := hrel
    by_cases hlt : i < 64
    · have hc := B1.cell (blkA_get _ hlt)
      have hf := B1.frozen i
      go_wp2
      go_roundw
      case rel =>
        refine ⟨i + 1, by omega, by go_num, ?_, B0.far NE.out _ _, HB.set GE_g1.out _ _⟩
        exact (B1.set i (.int .u8 x)).eqA (blkA_set hlt (by simp) (fun j hj => by
          by_cases h : j < i
          · rw [if_pos h, if_pos (by omega)]
          · rw [if_neg h, if_neg (by omega)]))
      case measure => simp [intOf]; omega
    · have E : Blk wr g1 (blkA fun _ => x) 106 := B1.eqA (blkA_congr fun j hj => by rw [if_pos (by omega)])
      clear B1
      go_wp2_with (first | ((with_reducible refine gate_dst (N := 12) rfl ?_); refine ev_load E rfl 106 _ rfl rfl Tryd.underlying106 (size64' _) ?_) | ((with_reducible refine gate_ (Op.store 106 (.tmp 2) (.tmp 12)) rfl ?_); refine ev_store HB B0 GE_g0 rfl 106 _ _ rfl rfl rfl (size64' _) (by rw [blkA_size, blkA_size]) (blkA_one _) ?_; intro w3 B3 HBn K_w3; clear HB; have HB := HBn; clear HBn))
      refine bodyPost_ret (results_cell_row rfl _ _ g0 106 _ (0, 0) _ rfl B3.out Tryd.underlying106 rfl (size64' _)) rfl ?_
      exact ⟨rfl, HB.out⟩


open Go.Proofs.YtfihkkjkifkemaaDoorQ Go.Proofs.YtfihkkjkifkemaaDoorM in
set_option maxHeartbeats 4000000 in
set_option maxRecDepth 100000 in
theorem block_Cut.calls_out (s : ByteArray) (at_ pad : Int) (w : World) (h : at_ < 0 ∨ (s.size : Int) ≤ at_) :
    Calls Tryd.prog 70 #[.string s, .int .i64 at_, .int .u8 pad] w fun e w' => e = .returned (.tuple #[.agg (blkA (cutF s at_ pad)), .int .i64 0]) ∧ Below w.heap.size w w' := by
  have HB := BelowH.refl w
  have E : (blkA fun _ => pad) = blkA (cutF s at_ pad) := blkA_congr fun i _ => by unfold cutF; rw [if_neg (by omega)]
  have HE := Aside0.mk E
  clear E
  rcases h with h | h
  · go_enter Tryd.func70, Tryd.ntmps70
    go_wp2_with (first | ((with_reducible refine gate_dst (N := 6) rfl ?_); refine ev_alloc HB rfl (blkA fun _ => 0) 106 ?hr ?_; (case hr => (rw [← blkA_zero]; go_simp; rfl)); intro g0 w1 G_g0 GE_g0 B_g0 HBn K_g0; clear HB; have HB := HBn; clear HBn) | (go_at_call 77; refine (block_filled.calls pad _).mono ?_; rintro e w2 ⟨rfl, hb2⟩; have B2 := B_g0.below hb2; have HB2 := HB.step hb2; clear HB; have HB := HB2; clear HB2 hb2) | ((with_reducible refine gate_ (Op.store 106 (.tmp 6) (.tmp 19)) rfl ?_); refine ev_store HB B2 GE_g0 rfl 106 _ _ rfl rfl rfl (size64' _) (by rw [blkA_size, blkA_size]) (blkA_one _) ?_; intro w3 B3 HBn K_w3; clear HB; have HB := HBn; clear HBn))
    refine bodyPost_ret (results_row_tmp rfl _ _ g0 106 _ _ rfl B3 Tryd.underlying106 rfl (size64' _)) rfl ?_
    exact ⟨by rw [HE.out]; rfl, HB.out⟩
  · by_cases h0 : at_ < 0
    · omega
    go_enter Tryd.func70, Tryd.ntmps70
    go_wp2_with (first | ((with_reducible refine gate_dst (N := 6) rfl ?_); refine ev_alloc HB rfl (blkA fun _ => 0) 106 ?hr ?_; (case hr => (rw [← blkA_zero]; go_simp; rfl)); intro g0 w1 G_g0 GE_g0 B_g0 HBn K_g0; clear HB; have HB := HBn; clear HBn) | (go_at_call 77; refine (block_filled.calls pad _).mono ?_; rintro e w2 ⟨rfl, hb2⟩; have B2 := B_g0.below hb2; have HB2 := HB.step hb2; clear HB; have HB := HB2; clear HB2 hb2) | ((with_reducible refine gate_ (Op.store 106 (.tmp 6) (.tmp 19)) rfl ?_); refine ev_store HB B2 GE_g0 rfl 106 _ _ rfl rfl rfl (size64' _) (by rw [blkA_size, blkA_size]) (blkA_one _) ?_; intro w3 B3 HBn K_w3; clear HB; have HB := HBn; clear HBn))
    refine bodyPost_ret (results_row_tmp rfl _ _ g0 106 _ _ rfl B3 Tryd.underlying106 rfl (size64' _)) rfl ?_
    exact ⟨by rw [HE.out]; rfl, HB.out⟩
open Go.Proofs.YtfihkkjkifkemaaDoorQ Go.Proofs.YtfihkkjkifkemaaDoorM in
set_option maxHeartbeats 4000000 in
set_option maxRecDepth 100000 in
theorem block_Cut.calls_full (s : ByteArray) (at_ pad : Int) (w : World) (hs : s.size ≤ 281474976702464) (h0 : 0 ≤ at_) (h1 : at_ + 64 ≤ s.size) :
    Calls Tryd.prog 70 #[.string s, .int .i64 at_, .int .u8 pad] w fun e w' => e = .returned (.tuple #[.agg (blkA (cutF s at_ pad)), .int .i64 64]) ∧ Below w.heap.size w w' := by
  obtain ⟨n, rfl⟩ : ∃ n : Nat, at_ = n := ⟨at_.toNat, by omega⟩
  have HB := BelowH.refl w
  have d1 : ¬ ((n : Int) < 0) := by omega
  have d2 : ¬ ((s.size : Int) ≤ n) := by omega
  have d3 : (64 : Int) ≤ (s.size : Int) - n := by omega
  have H1 := Aside0.mk h1
  have EX := Aside0.mk (show ∀ j : Nat, j < 64 → bt (s.extract n (n + 64)) (j : Int) = cutF s n pad j by
    intro j hj
    unfold cutF
    rw [if_pos (by omega), bt_extract s n (n + 64) j (by omega) (by omega)]
    norm_cast)
  have EZ : (s.extract n (n + 64)).size = 64 := by rw [ByteArray.size_extract]; omega
  have HZ := Aside0.mk EZ
  clear EZ
  go_enter Tryd.func70, Tryd.ntmps70
  go_wp2_with (first
    | ((with_reducible refine gate_dst (N := 6) rfl ?_); refine ev_alloc HB rfl (blkA fun _ => 0) 106 ?hr ?_; (case hr => (rw [← blkA_zero]; go_simp; rfl)); intro g0 w1 G_g0 GE_g0 B_g0 HBn K_g0; clear HB; have HB := HBn; clear HBn)
    | ((with_reducible refine gate_dst (N := 30) rfl ?_); refine ev_bytes HB rfl 9 54 _ rfl _ 64 HZ.out rfl Tryd.underlying9 Tryd.underlying54 Tryd.underlying5 ?_; intro g2 cap w2 G_g2 HBn K_g2 C2; clear HB; have HB := HBn; clear HBn)
    | ((with_reducible refine gate_dst (N := 31) rfl ?_); refine ev_arrayAt rfl 106 _ rfl ⟨g2, 0, none⟩ 64 cap 64 5 rfl Tryd.underlying106 (Nat.le_refl _) ?_)
    | ((with_reducible refine gate_dst (N := 32) rfl ?_); refine ev_load_mid rfl 106 _ rfl g2 0 rfl (blkA (cutF s n pad)) (fun j hj => by rw [blkA_size] at hj; rw [Nat.zero_add, C2.out j hj, blkA_get _ hj, EX.out j hj]) Tryd.underlying106 (size64' _) ?_; have B2 := B_g0.below K_g2.out)
    | ((with_reducible refine gate_ (Op.store 106 (.tmp 6) (.tmp 32)) rfl ?_); refine ev_store HB B2 GE_g0 rfl 106 _ _ rfl rfl rfl (size64' _) (by rw [blkA_size, blkA_size]) (blkA_one _) ?_; intro w3 B3 HBn K_w3; clear HB; have HB := HBn; clear HBn))
  refine bodyPost_ret (results_row_tmp rfl _ _ g0 106 _ _ rfl B3 Tryd.underlying106 rfl (size64' _)) rfl ?_
  exact ⟨rfl, HB.out⟩
open Go.Proofs.YtfihkkjkifkemaaDoorQ Go.Proofs.YtfihkkjkifkemaaDoorM in
set_option maxHeartbeats 4000000 in
set_option maxRecDepth 100000 in
theorem block_Cut.calls_part (s : ByteArray) (at_ pad : Int) (w : World) (hs : s.size ≤ 281474976702464) (h0 : 0 ≤ at_) (h1 : at_ < s.size) (h2 : s.size < at_ + 64) :
    Calls Tryd.prog 70 #[.string s, .int .i64 at_, .int .u8 pad] w fun e w' => e = .returned (.tuple #[.agg (blkA (cutF s at_ pad)), .int .i64 (s.size - at_)]) ∧ Below w.heap.size w w' := by
  obtain ⟨n, rfl⟩ : ∃ n : Nat, at_ = n := ⟨at_.toNat, by omega⟩
  have HB := BelowH.refl w
  have d1 : ¬ ((n : Int) < 0) := by omega
  have d2 : ¬ ((s.size : Int) ≤ n) := by omega
  have d3 : ¬ ((64 : Int) ≤ (s.size : Int) - n) := by omega
  have d4 : (n : Int) ≤ s.size := by omega
  have d5 : n ≤ s.size := by omega
  go_enter Tryd.func70, Tryd.ntmps70
  go_wp2_with (first
    | ((with_reducible refine gate_dst (N := 6) rfl ?_); refine ev_alloc HB rfl (blkA fun _ => 0) 106 ?hr ?_; (case hr => (rw [← blkA_zero]; go_simp; rfl)); intro g0 w1 G_g0 GE_g0 B_g0 HBn K_g0; clear HB; have HB := HBn; clear HBn)
    | (go_at_call 77; refine (block_filled.calls pad _).mono ?_; rintro e w2 ⟨rfl, hb2⟩; have B2 := B_g0.below hb2; have HB2 := HB.step hb2; clear HB; have HB := HB2; clear HB2 hb2)
    | ((with_reducible refine gate_dst (N := 8) rfl ?_); refine ev_alloc HB rfl (blkA fun _ => 0) 106 ?hr ?_; (case hr => (rw [← blkA_zero]; go_simp; rfl)); intro g8 w3 G_g8 GE_g8 B_g8 HBn K_g8; clear HB; have HB := HBn; clear HBn)
    | ((with_reducible refine gate_ (Op.store 106 (.tmp 8) (.tmp 34)) rfl ?_); refine ev_store HB B_g8 GE_g8 rfl 106 _ _ rfl rfl rfl (size64' _) (by rw [blkA_size, blkA_size]) (blkA_one _) ?_; intro w4 B8 HBn K_w4; clear HB; have HB := HBn; clear HBn))
  have NE := Aside0.mk (show g0 ≠ g8 by have := B2.lt; have := G_g8.out; omega)
  go_still_tail 4, (by kernel_rfl)
  change wpList _ _ _ _ _ w4.drew
  have B8' := B8.drew
  have HB' := HB.drew
  have B0 := (((B2.below K_g8.out).other K_w4 NE.out).drew)
  have EZ := Aside0.mk (show (s.extract n s.size).size = s.size - n by rw [ByteArray.size_extract]; omega)
  clear HB
  go_wp2_with (first
    | ((with_reducible refine gate_dst (N := 39) rfl ?_); refine ev_copy64 HB' B8' GE_g8 rfl _ _ 54 9 5 rfl _ (s.size - n) EZ.out (by omega) rfl rfl Tryd.underlying54 (by kernel_rfl) ?_; intro w5 B9 HB K_w5)
    | ((with_reducible refine gate_dst (N := 40) rfl ?_); refine ev_load B9 rfl 106 _ rfl rfl Tryd.underlying106 (size64' _) ?_)
    | ((with_reducible refine gate_ (Op.store 106 (.tmp 6) (.tmp 40)) rfl ?_); have B1 := B0.other K_w5 NE.out; refine ev_store HB B1 GE_g0 rfl 106 _ _ rfl rfl rfl (size64' _) (by rw [blkA_size, blkA_size]) (blkA_one _) ?_; intro w6 B6 HBn K_w6; clear HB; have HB := HBn; clear HBn))
  have E : (blkA fun j => if j < s.size - n then bt (s.extract n s.size) (j : Int) else pad) = blkA (cutF s n pad) := blkA_congr fun j hj => by
    unfold cutF
    by_cases h : j < s.size - n
    · rw [if_pos h, if_pos (by omega), bt_extract s n s.size j (by omega) (by omega)]
      norm_cast
    · rw [if_neg h, if_neg (by omega)]
  refine bodyPost_ret (results_row_tmp rfl _ _ g0 106 _ _ rfl B6 Tryd.underlying106 rfl (size64' _)) rfl ?_
  refine ⟨?_, HB.out⟩
  rw [E, show (s.size : Int) - n = ((s.size - n : Nat) : Int) by omega]
  rfl
open Go.Proofs.YtfihkkjkifkemaaDoorQ Go.Proofs.YtfihkkjkifkemaaDoorM in
theorem block_Cut.calls (s : ByteArray) (at_ pad : Int) (w : World) (hs : s.size ≤ 281474976702464) :
    Calls Tryd.prog 70 #[.string s, .int .i64 at_, .int .u8 pad] w fun e w' => e = .returned (.tuple #[.agg (blkA (cutF s at_ pad)), .int .i64 (cutN s at_)]) ∧ Below w.heap.size w w' := by
  unfold cutN
  by_cases h : at_ < 0 ∨ (s.size : Int) ≤ at_
  · rw [if_pos h]
    exact block_Cut.calls_out s at_ pad w h
  · rw [if_neg h]
    by_cases h2 : 64 ≤ (s.size : Int) - at_
    · rw [if_pos h2]
      exact block_Cut.calls_full s at_ pad w hs (by omega) (by omega)
    · rw [if_neg h2]
      exact block_Cut.calls_part s at_ pad w hs (by omega) (by omega) (by omega)


section
open Go.Proofs.YtfihkkjkifkemaaDoorQ Go.Proofs.YtfihkkjkifkemaaDoorM Go.Shelf
attribute [local go_sem] Oper.semAt_some
/-- What Blocks tells of the k-th block. -/
def blkEnc (s : ByteArray) (pad : Int) (k : Nat) : Array Value := #[.int .i64 (64 * (k : Int)), .agg (blkA (cutF s (64 * (k : Int)) pad))]
set_option maxHeartbeats 4000000 in
set_option maxRecDepth 100000 in
theorem block_Blocks_1.walk (F : Fence) (HF : Aside0 (F = Fence.wide)) (n : Nat) (hn : 3 ≤ n) (l g1 g2 : Nat) (s : ByteArray) (pad : Int) (hs : s.size ≤ 281474976702464) (J Jx : List (Fin (nwords s.size)) → World → Prop) (W0 : World)
    (hJ : ∀ pre A B, J pre A → Below A.heap.size A B → J pre B)
    (hY : ∀ pre x W, J pre W → pre.length < nwords s.size → YieldAt F (n - 1) Tryd.prog l (blkEnc s pad x.val) W fun e W' =>
      (e = .returned (.bool true) ∧ J (pre ++ [x]) W' ∧ Keep2 g1 g2 W W') ∨ (e = .returned (.bool false) ∧ Jx (pre ++ [x]) W'))
    (B1 : Blk W0 g1 #[.string s] 9) (B2 : Blk W0 g2 #[.int .u8 pad] 5) (h0 : J [] W0) :
    CallsIn F n Tryd.prog 69 #[.func (.yield l) #[] #[], .pointer (some ⟨g1, 0, none⟩), .pointer (some ⟨g2, 0, none⟩)] W0 fun e W' => (∃ v, e = .returned v) ∧
      ((∃ ys, ys = List.finRange (nwords s.size) ∧ J ys W') ∨ (∃ pre, pre <+: List.finRange (nwords s.size) ∧ Jx pre W')) := by
  have HJ := Aside0.mk hJ
  have HY := Aside0.mk hY
  have HJ0 := Aside0.mk h0
  clear hJ hY h0
  have f0 := wide_fn HF 70
  have n1 : 1 ≤ n := by omega
  have n2 : 1 ≤ n - 1 := by omega
  have hro := wide_round HF
  refine callsIn_of_wp Tryd.func69 rfl (wide_fn HF _) ?_ (wide_round HF)
  simp only [Tryd.ntmps69, List.size_toArray, List.length_cons, List.length_nil, Nat.reduceAdd, Nat.reduceSub, Array.replicate_succ, Array.replicate_zero, List.push_toArray, List.append_toArray, List.nil_append, List.cons_append]
  gi_wp2
  gi_loopw [4] (fun v wr => ∃ k : Nat, v = .int .i64 (64 * (k : Int)) ∧ Aside0 (k ≤ nwords s.size) ∧ Aside0 (J ((List.finRange (nwords s.size)).take k) wr) ∧ Blk wr g1 #[.string s] 9 ∧ Blk wr g2 #[.int .u8 pad] 5) (fun v _ => 64 * nwords s.size - (intOf v).toNat)
  case atStart => exact ⟨0, rfl, ⟨Nat.zero_le _⟩, HJ0, B1, B2⟩
  case round =>
    clear B1 B2 HJ0
    obtain ⟨k, rfl, HK, HJk, B1, B2⟩ := hrel
    have c1 := B1.cell (i := 0) rfl
    have c2 := B2.cell (i := 0) rfl
    have HB := BelowH.refl wr
    by_cases hlt : 64 * (k : Int) < s.size
    · have K1 : Aside0 (64 * (k : Int) < s.size) := ⟨hlt⟩
      have KN : Aside0 (k < nwords s.size) := ⟨by unfold nwords; omega⟩
      have KT := Aside0.mk (finRange_take (nwords s.size) k KN.out)
      gi_wp2_with (first
        | (gi_at_call 70; refine (callsIn_of HF (block_Cut.calls s (64 * (k : Int)) pad _ hs)).mono ?_; rintro e w3 ⟨rfl, hb3⟩; have D1 := B1.below hb3; have D2 := B2.below hb3; have HB3 := HB.step hb3; clear hb3)
        | ((with_reducible refine gate_dstIn (N := 5) rfl ?_); refine ev_allocIn HB3 rfl rfl (blkA fun _ => 0) 106 ?hr ?_; (case hr => (rw [← blkA_zero]; go_simp; rfl)); intro g5 w4 G_g5 GE_g5 B_g5 HB4 K_g5 KO5; have E1 := D1.below K_g5.out; have E2 := D2.below K_g5.out)
        | ((with_reducible refine gate_In (Op.store 106 (.tmp 5) (.tmp 18)) rfl ?_); refine ev_storeIn HB4 B_g5 GE_g5 rfl 106 _ _ rfl rfl rfl (size64' _) (by rw [blkA_size, blkA_size]) (blkA_one _) ?_; intro w5 B5 HB5 K_w5 KO_w5; have N1 := Aside0.mk (show g1 ≠ g5 by have := D1.lt; have := G_g5.out; omega); have N2 := Aside0.mk (show g2 ≠ g5 by have := D2.lt; have := G_g5.out; omega); have F1 := E1.other K_w5 N1.out; have F2 := E2.other K_w5 N2.out)
        | ((with_reducible refine gate_dstIn (N := 22) rfl ?_); refine ev_loadIn B5 rfl 106 _ rfl rfl Tryd.underlying106 (size64' _) ?_; have HJ5 := Aside0.mk (HJ.out _ _ _ HJk.out HB5.out); obtain ⟨fn, tmps, assign, body, hy, hR⟩ := HY.out ((List.finRange (nwords s.size)).take k) ⟨k, KN.out⟩ _ HJ5.out (by rw [List.length_take, List.length_finRange]; have := KN.out; omega); have HR := Aside0.mk hR; clear hR; dsimp only [blkEnc] at hy))
      refine HR.out.mono ?_
      rintro e W6 (⟨rfl, hJ6, hk6⟩ | ⟨rfl, hJx6⟩)
      · have G1 : Blk W6 g1 #[.string s] 9 := ⟨hk6.1.trans F1.out⟩
        have G2 : Blk W6 g2 #[.int .u8 pad] 5 := ⟨hk6.2.1.trans F2.out⟩
        have HJ6 := Aside0.mk (show J ((List.finRange (nwords s.size)).take (k + 1)) W6 by rw [KT.out]; exact hJ6)
        clear hJ6 hk6
        gi_wp2
        go_roundw
        case rel => exact ⟨k + 1, by simp; omega, ⟨by unfold nwords; have := K1.out; omega⟩, HJ6, G1, G2⟩
        case measure => simp [intOf, nwords]; have := K1.out; omega
      · have HJ6 := Aside0.mk hJx6
        clear hJx6
        gi_wp2
        refine bodyPost_ret (results_none rfl _ _ _) rfl ?_
        refine ⟨⟨_, rfl⟩, .inr ⟨_, ?_, HJ6.out⟩⟩
        rw [← KT.out]
        exact List.take_prefix _ _
    · have EK : k = nwords s.size := by
        have h1 := HK.out
        unfold nwords at *
        omega
      have HE := Aside0.mk EK
      clear EK
      gi_wp2
      go_end0
      have h := HJk.out
      rw [HE.out, List.take_of_length_le (by rw [List.length_finRange]; exact Nat.le_refl _)] at h
      exact ⟨⟨_, rfl⟩, .inl h⟩
/-- What Blocks hands back tells the blocks, in order. -/
theorem block_Blocks_1.stops (F : Fence) (HF : Aside0 (F = Fence.wide)) (n : Nat) (hn : 3 ≤ n) (g1 g2 : Nat) (s : ByteArray) (pad : Int) (hs : s.size ≤ 281474976702464) (w : World)
    (B1 : Blk w g1 #[.string s] 9) (B2 : Blk w g2 #[.int .u8 pad] 5) :
    SeqStopsK F n Tryd.prog 69 #[.pointer (some ⟨g1, 0, none⟩), .pointer (some ⟨g2, 0, none⟩)] (fun x : Fin (nwords s.size) => blkEnc s pad x.val) (Keep2 g1 g2) (fun ys => ys = List.finRange (nwords s.size)) (fun pre => pre <+: List.finRange (nwords s.size)) (nwords s.size) w := by
  intro l J Jx W hW hJ _ hY h0
  exact block_Blocks_1.walk F HF n hn l g1 g2 s pad hs J Jx W
    (fun pre A B hA hb => hJ pre A B none hA ⟨hb.os, hb.tape, hb.output, hb.size, fun k hk _ => hb.block k hk⟩ (fun r e => by cases e))
    hY (B1.below hW) (B2.below hW) h0
end


open Go.Proofs.YtfihkkjkifkemaaDoorQ Go.Proofs.YtfihkkjkifkemaaDoorM in
set_option maxHeartbeats 4000000 in
set_option maxRecDepth 100000 in
theorem block_Blocks.calls (s : ByteArray) (pad : Int) (w : World) :
    Calls Tryd.prog 52 #[.string s, .int .u8 pad] w fun e w' => ∃ g1 g2 : Nat, e = .returned (.func (.func 69) #[] #[.pointer (some ⟨g1, 0, none⟩), .pointer (some ⟨g2, 0, none⟩)]) ∧
      w.heap.size ≤ g1 ∧ w.heap.size ≤ g2 ∧ Blk w' g1 #[.string s] 9 ∧ Blk w' g2 #[.int .u8 pad] 5 ∧ BelowH w w' := by
  have HB := BelowH.refl w
  go_enter Tryd.func52, Tryd.ntmps52
  go_wp2_with (first | ((with_reducible refine gate_dst (N := 2) rfl ?_); refine ev_alloc HB rfl (#[.string s]) 9 ?hr ?_; (case hr => first | (go_simp; done) | (go_simp; rfl)); intro g1 w1 G_g1 GE_g1 B_g1 HBn K_g1; clear HB; have HB := HBn; clear HBn) | ((with_reducible refine gate_dst (N := 3) rfl ?_); refine ev_alloc HB rfl (#[.int .u8 pad]) 5 ?hr ?_; (case hr => first | (go_simp; done) | (go_simp; rfl)); intro g2 w2 G_g2 GE_g2 B_g2 HBn K_g2; clear HB; have HB := HBn; clear HBn))
  go_ret
  exact ⟨g1, g2, rfl, GE_g1.out, GE_g2.out, B_g1.below K_g2.out, B_g2, HB⟩


open Go.Proofs.YtfihkkjkifkemaaDoorQ Go.Proofs.YtfihkkjkifkemaaDoorM in
set_option maxHeartbeats 4000000 in
set_option maxRecDepth 100000 in
theorem lanes_Load.calls (f : Nat → Int) (hf : ∀ i, 0 ≤ f i ∧ f i < 256) (w : World) :
    Calls Tryd.prog 72 #[.agg (arrA 8 f)] w fun e w' => e = .returned (.int .u64 (loadN f 8 : Nat)) ∧ Below w.heap.size w w' := by
  have HB := BelowH.refl w
  have HF := Aside0.mk fun i => hf i
  clear hf
  go_enter Tryd.func72, Tryd.ntmps72
  go_wp2_with (first
    | ((with_reducible refine gate_dst (N := 1) rfl ?_); refine ev_alloc HB rfl (arrA 8 f) 126 ?hr ?_; (case hr => first | (go_simp; done) | (go_simp; rfl)); intro g1 w1 G_g1 GE_g1 B_g1 HBn K_g1; clear HB; have HB := HBn; clear HBn))
  go_loopw [3, 6] (fun v3 v6 wr => ∃ i : Nat, i ≤ 8 ∧ v6 = .int .i64 i ∧ v3 = .int .u64 (loadN f i : Nat) ∧ Blk wr g1 (arrA 8 f) 126 ∧ BelowH w wr) (fun _ v6 _ => 8 - (intOf v6).toNat)
  case atStart => exact ⟨0, by omega, rfl, rfl, B_g1, HB⟩
  case round =>
    clear B_g1 HB
    obtain ⟨i, hi, rfl, rfl, B1, HB⟩ := hrel
    by_cases hlt : i < 8
    · have hc := B1.cell (arrA_get 8 f hlt)
      have h1 : (i : Int) < 8 := by omega
      go_wp2
      go_quiet (fail)
      go_wp2
      go_roundw
      case rel =>
        refine ⟨i + 1, by omega, by go_num, ?_, B1.drewN _, HB.drewN _⟩
        rw [load_step f HF.out hlt]
      case measure => simp [intOf]; omega
    · go_wp2
      go_ret
      obtain rfl : i = 8 := by omega
      exact ⟨rfl, HB.out⟩


def lanes_Fill.f (a0 : Int) : Option (Int) := some (IntKind.u64.wrap (72340172838076673 * (IntKind.u64.wrap (a0))))
set_option maxHeartbeats 8000000 in
set_option maxRecDepth 100000 in
theorem lanes_Fill.calls (a0 : Int) (r : Int) (w : World) (h : lanes_Fill.f a0 = some r) :
    Calls Tryd.prog 78 #[.int .u8 a0] w fun e w' => e = .returned (.int .u64 r) ∧ Drawn0 w w' := by
  have H : (some (IntKind.u64.wrap (72340172838076673 * (IntKind.u64.wrap (a0))))) = some r := h
  clear h
  obtain rfl := Option.some.inj H
  go_enter Tryd.func78, Tryd.ntmps78
  go_wp2
  go_ret
  exact ⟨by first | rfl | (simp; done) | (simp [*]; done), by repeat (first | exact Drawn0.refl _ | apply Drawn0.step)⟩

def lanes_tops.f (a0 : Int) : Option (Int) := some (((IntKind.u64.wrap (((Go.bits .and .u64 a0 9259542123273814144) / 128) * 72624976668147840)) / 72057594037927936) % 256)
set_option maxHeartbeats 8000000 in
set_option maxRecDepth 100000 in
theorem lanes_tops.calls (a0 : Int) (r : Int) (w : World) (h : lanes_tops.f a0 = some r) :
    Calls Tryd.prog 79 #[.int .u64 a0] w fun e w' => e = .returned (.int .u8 r) ∧ Drawn0 w w' := by
  have H : (some (((IntKind.u64.wrap (((Go.bits .and .u64 a0 9259542123273814144) / 128) * 72624976668147840)) / 72057594037927936) % 256)) = some r := h
  clear h
  obtain rfl := Option.some.inj H
  go_enter Tryd.func79, Tryd.ntmps79
  go_wp2
  go_ret
  exact ⟨by first | rfl | (simp; done) | (simp [*]; done), by repeat (first | exact Drawn0.refl _ | apply Drawn0.step)⟩

open Go.Proofs.YtfihkkjkifkemaaDoorQ Go.Proofs.YtfihkkjkifkemaaDoorM in
set_option maxHeartbeats 4000000 in
set_option maxRecDepth 100000 in
theorem lanes_Equal.calls (f : Nat → Int) (hf : ∀ i, 0 ≤ f i ∧ f i < 256) (c : Int) (h0 : 0 ≤ c) (h1 : c < 256) (w : World) :
    Calls Tryd.prog 73 #[.int .u64 (loadN f 8 : Nat), .int .u8 c] w fun e w' => e = .returned (.int .u8 (wordN (fun j => decide (f j = c)) 8 : Nat)) ∧ Drawn0 w w' := by
  have E := Aside0.mk (equal_lanes f hf c h0 h1)
  clear hf h0 h1
  obtain ⟨x, hx⟩ : ∃ x : Int, x = ((loadN f 8 : Nat) : Int) := ⟨_, rfl⟩
  rw [← hx] at E ⊢
  clear hx
  go_enter Tryd.func73, Tryd.ntmps73
  go_wp2_with (first
    | (go_at_call 78; refine (lanes_Fill.calls c _ _ rfl).mono ?_; rintro e w' ⟨rfl, ⟨nd, rfl⟩⟩)
    | (go_at_call 79; refine (lanes_tops.calls _ _ _ rfl).mono ?_; rintro e w' ⟨rfl, ⟨nd2, rfl⟩⟩))
  go_ret
  refine ⟨?_, ?_⟩
  · rw [← E.out]; rfl
  · repeat (first | exact Drawn0.refl _ | apply Drawn0.step)


open Go.Proofs.YtfihkkjkifkemaaDoorQ Go.Proofs.YtfihkkjkifkemaaDoorM in
theorem size8' (f : Nat → Int) : (Tryd.prog.info? 126).map (·.size) = some (arrA 8 f).size := by
  rw [arrA_size]
  kernel_rfl
open Go.Proofs.YtfihkkjkifkemaaDoorQ Go.Proofs.YtfihkkjkifkemaaDoorM in
set_option maxHeartbeats 4000000 in
set_option maxRecDepth 100000 in
theorem block_Equal.calls (f : Nat → Int) (hf : ∀ i, 0 ≤ f i ∧ f i < 256) (c : Int) (h0 : 0 ≤ c) (h1 : c < 256) (w : World) :
    Calls Tryd.prog 61 #[.agg (blkA f), .int .u8 c] w fun e w' => e = .returned (.int .u64 (iv (word fun j => decide (f j = c)))) ∧ Below w.heap.size w w' := by
  have HB := BelowH.refl w
  have HF := Aside0.mk fun i => hf i
  have H0 := Aside0.mk h0
  have H1 := Aside0.mk h1
  clear hf h0 h1
  go_enter Tryd.func61, Tryd.ntmps61
  go_wp2_with (first | ((with_reducible refine gate_dst (N := 2) rfl ?_); refine ev_alloc HB rfl (blkA f) 106 ?hr ?_; (case hr => first | (go_simp; done) | (go_simp; rfl)); intro g1 w1 G_g1 GE_g1 B_g1 HBn K_g1; clear HB; have HB := HBn; clear HBn))
  go_loopw [5, 6] (fun v5 v6 wr => ∃ i : Nat, i ≤ 8 ∧ v6 = .int .i64 (8 * (i : Int)) ∧ v5 = .int .u64 (wordN (fun j => decide (f j = c)) (8 * i) : Nat) ∧ Blk wr g1 (blkA f) 106 ∧ BelowH w wr) (fun _ v6 _ => 64 - (intOf v6).toNat)
  case atStart => exact ⟨0, by omega, rfl, rfl, B_g1, HB⟩
  case round =>
    clear B_g1 HB
    obtain ⟨i, hi, rfl, rfl, B1, HB⟩ := hrel
    by_cases hlt : i < 8
    · have k1 : 8 * (i : Int) < 64 := by omega
      have KI := Aside0.mk hlt
      have K2 : Aside0 (∀ j, j < 8 → (blkA f)[8 * i + j]? = some (.int .u8 (f (8 * i + j)))) := ⟨fun j hj => blkA_get f (by omega)⟩
      have K3 : Aside0 (∀ j, 0 ≤ f (8 * i + j) ∧ f (8 * i + j) < 256) := ⟨fun j => HF.out _⟩
      go_wp2_with (first
        | ((with_reducible refine gate_dst (N := 15) rfl ?_); refine ev_sliceArr rfl 106 _ _ _ rfl g1 (8 * i) (8 * i + 8) 64 _ _ 5 rfl rfl rfl (by omega) (by omega) Tryd.underlying106 (by kernel_rfl) (by omega) (by omega) (by omega) ?_)
        | ((with_reducible refine gate_dst (N := 16) rfl ?_); refine ev_arrayAt rfl 126 _ rfl ⟨g1, 8 * i, none⟩ _ _ 8 5 rfl Tryd.underlying126 (by omega) ?_)
        | ((with_reducible refine gate_dst (N := 17) rfl ?_); refine ev_load_mid rfl 126 _ rfl g1 (8 * i) rfl (arrA 8 fun j => f (8 * i + j)) (fun j hj => by rw [arrA_size] at hj; rw [blk_cell B1.out, K2.out j hj, arrA_get 8 _ hj]) Tryd.underlying126 (size8' _) ?_)
        | (go_at_call 72; refine (lanes_Load.calls _ K3.out _).mono ?_; rintro e w2 ⟨rfl, hb2⟩; have B2 := B1.below hb2; have HB2 := HB.step hb2; clear hb2)
        | (go_at_call 73; refine (lanes_Equal.calls _ K3.out c H0.out H1.out _).mono ?_; rintro e w3 ⟨rfl, ⟨nd, rfl⟩⟩))
      go_roundw
      case rel =>
        refine ⟨i + 1, by omega, by simp; omega, ?_, B2.drewN _, HB2.drewN _⟩
        rw [← eight_step _ KI.out]
      case measure => simp [intOf]; omega
    · obtain rfl : i = 8 := by omega
      go_wp2
      go_ret
      exact ⟨by rw [iv_word]; rfl, HB.out⟩


def words_Escaped.f (a0 : Int) (a1 : Bool) : Option (Int × Bool) := if a1 = true then (some (Go.bits .xor .u64 (Go.bits .xor .u64 (IntKind.u64.wrap ((Go.bits .or .u64 (IntKind.u64.wrap ((Go.bits .andNot .u64 a0 1) * 2)) 12297829382473034410) - (Go.bits .andNot .u64 a0 1))) 12297829382473034410) (Go.bits .or .u64 a0 1), (((Go.bits .and .u64 (Go.bits .xor .u64 (IntKind.u64.wrap ((Go.bits .or .u64 (IntKind.u64.wrap ((Go.bits .andNot .u64 a0 1) * 2)) 12297829382473034410) - (Go.bits .andNot .u64 a0 1))) 12297829382473034410) a0) / 9223372036854775808) != 0))) else (some (Go.bits .xor .u64 (Go.bits .xor .u64 (IntKind.u64.wrap ((Go.bits .or .u64 (IntKind.u64.wrap ((Go.bits .andNot .u64 a0 0) * 2)) 12297829382473034410) - (Go.bits .andNot .u64 a0 0))) 12297829382473034410) (Go.bits .or .u64 a0 0), (((Go.bits .and .u64 (Go.bits .xor .u64 (IntKind.u64.wrap ((Go.bits .or .u64 (IntKind.u64.wrap ((Go.bits .andNot .u64 a0 0) * 2)) 12297829382473034410) - (Go.bits .andNot .u64 a0 0))) 12297829382473034410) a0) / 9223372036854775808) != 0)))
set_option maxHeartbeats 8000000 in
set_option maxRecDepth 100000 in
theorem words_Escaped.calls (a0 : Int) (a1 : Bool) (r1 : Int) (r2 : Bool) (w : World) (h : words_Escaped.f a0 a1 = some (r1, r2)) :
    Calls Tryd.prog 71 #[.int .u64 a0, .bool a1] w fun e w' => e = .returned (.tuple #[.int .u64 r1, .bool r2]) ∧ Drawn0 w w' := by
  have H : (if a1 = true then (some (Go.bits .xor .u64 (Go.bits .xor .u64 (IntKind.u64.wrap ((Go.bits .or .u64 (IntKind.u64.wrap ((Go.bits .andNot .u64 a0 1) * 2)) 12297829382473034410) - (Go.bits .andNot .u64 a0 1))) 12297829382473034410) (Go.bits .or .u64 a0 1), (((Go.bits .and .u64 (Go.bits .xor .u64 (IntKind.u64.wrap ((Go.bits .or .u64 (IntKind.u64.wrap ((Go.bits .andNot .u64 a0 1) * 2)) 12297829382473034410) - (Go.bits .andNot .u64 a0 1))) 12297829382473034410) a0) / 9223372036854775808) != 0))) else (some (Go.bits .xor .u64 (Go.bits .xor .u64 (IntKind.u64.wrap ((Go.bits .or .u64 (IntKind.u64.wrap ((Go.bits .andNot .u64 a0 0) * 2)) 12297829382473034410) - (Go.bits .andNot .u64 a0 0))) 12297829382473034410) (Go.bits .or .u64 a0 0), (((Go.bits .and .u64 (Go.bits .xor .u64 (IntKind.u64.wrap ((Go.bits .or .u64 (IntKind.u64.wrap ((Go.bits .andNot .u64 a0 0) * 2)) 12297829382473034410) - (Go.bits .andNot .u64 a0 0))) 12297829382473034410) a0) / 9223372036854775808) != 0)))) = some (r1, r2) := h
  clear h
  by_cases c3 : a1 = true
  · subst c3
    have H1 : (some (Go.bits .xor .u64 (Go.bits .xor .u64 (IntKind.u64.wrap ((Go.bits .or .u64 (IntKind.u64.wrap ((Go.bits .andNot .u64 a0 1) * 2)) 12297829382473034410) - (Go.bits .andNot .u64 a0 1))) 12297829382473034410) (Go.bits .or .u64 a0 1), (((Go.bits .and .u64 (Go.bits .xor .u64 (IntKind.u64.wrap ((Go.bits .or .u64 (IntKind.u64.wrap ((Go.bits .andNot .u64 a0 1) * 2)) 12297829382473034410) - (Go.bits .andNot .u64 a0 1))) 12297829382473034410) a0) / 9223372036854775808) != 0))) = some (r1, r2) := by rw [if_pos rfl] at H; exact H
    clear H
    have H := H1
    clear H1
    simp only [Option.some.injEq, Prod.mk.injEq] at H
    obtain ⟨rfl, rfl⟩ := H
    go_enter Tryd.func71, Tryd.ntmps71
    go_wp2
    go_ret2
    exact ⟨by first | rfl | (simp; done) | (simp [*]; done), by repeat (first | exact Drawn0.refl _ | apply Drawn0.step)⟩
  · replace c3 := Bool.eq_false_iff.mpr c3
    subst c3
    have H1 : (some (Go.bits .xor .u64 (Go.bits .xor .u64 (IntKind.u64.wrap ((Go.bits .or .u64 (IntKind.u64.wrap ((Go.bits .andNot .u64 a0 0) * 2)) 12297829382473034410) - (Go.bits .andNot .u64 a0 0))) 12297829382473034410) (Go.bits .or .u64 a0 0), (((Go.bits .and .u64 (Go.bits .xor .u64 (IntKind.u64.wrap ((Go.bits .or .u64 (IntKind.u64.wrap ((Go.bits .andNot .u64 a0 0) * 2)) 12297829382473034410) - (Go.bits .andNot .u64 a0 0))) 12297829382473034410) a0) / 9223372036854775808) != 0))) = some (r1, r2) := by rw [if_neg (show ¬ (false = true) by decide)] at H; exact H
    clear H
    have H := H1
    clear H1
    simp only [Option.some.injEq, Prod.mk.injEq] at H
    obtain ⟨rfl, rfl⟩ := H
    go_enter Tryd.func71, Tryd.ntmps71
    go_wp2
    go_ret2
    exact ⟨by first | rfl | (simp; done) | (simp [*]; done), by repeat (first | exact Drawn0.refl _ | apply Drawn0.step)⟩

section
open Go.Proofs.YtfihkkjkifkemaaDoorQ Go.Proofs.YtfihkkjkifkemaaDoorM Go.Shelf
theorem words_Escaped.tells (q : Nat → Bool) (c : Bool) : words_Escaped.f (iv (word q)) c = some (iv (word (escW q c)), escW q c 64) := by
  have e1 : (12297829382473034410 : Int) = iv oddsW := by decide
  have e2 : (1 : Int) = iv 1#64 := by decide
  have e3 : (0 : Int) = iv 0#64 := by decide
  have e4 : ∀ v : BitVec 64, iv v / (9223372036854775808 : Int) = iv (v >>> 63) := fun v => shr_iv v 63
  have e5 : ∀ v : BitVec 64, IntKind.u64.wrap (iv v * 2) = iv (v <<< 1) := fun v => wrap_shl v 1
  have e6 : ∀ v w : BitVec 64, (iv v != iv w) = (v != w) := fun v w => by
    rw [Bool.eq_iff_iff, bne_iff_ne, bne_iff_ne, ne_eq, ne_eq, iv_inj]
  have h1 := escaped_word q c
  have h2 := escaped_carry q c
  unfold words_Escaped.f
  cases c
  · simp only [Bool.false_eq_true, if_false] at h1 h2 ⊢
    rw [e1, e3, bits_andNot, e5, bits_or, wrap_sub, bits_xor, bits_or, bits_xor, bits_and, e4, e6, h1, h2]
  · simp only [if_true] at h1 h2 ⊢
    rw [e1, e2, e3, bits_andNot, e5, bits_or, wrap_sub, bits_xor, bits_or, bits_xor, bits_and, e4, e6, h1, h2]

attribute [local go_sem] Oper.semAt_some
/-- Between two blocks. -/
structure EscI (s : ByteArray) (w : World) (L : List (Nat × Array Value × Nat)) (m g3 g4 : Nat) {n : Nat} (pre : List (Fin n)) (W : World) : Prop where mk ::
  bs : Blks L W
  b4 : Blk W g4 #[.bool (foldE s pre).1] 4
  row : ∃ v, Blk W g3 #[.int .i64 s.size, v] 95 ∧ W.ownsRow w.heap.size 79 1 v pre.length ((foldE s pre).2.map (Value.int .u64))
  hb : BelowH w W
  sz : m ≤ W.heap.size
theorem EscI.kept {s : ByteArray} {w W W' : World} {L : List (Nat × Array Value × Nat)} {m g3 g4 n : Nat} {pre : List (Fin n)} (h : EscI s w L m g3 g4 pre W) {B : Nat} (hB : w.heap.size ≤ B) {row : Option Nat} (hg : W.grownBy W' row) (hr : ∀ r, row = some r → B ≤ r ∧ ∃ o : Obj, W.heap[r]? = some o ∧ o.isCells = false) : EscI s w L m g3 g4 pre W' := by
  have hr' : ∀ r, row = some r → ∃ o : Obj, W.heap[r]? = some o ∧ o.isCells = false := fun r e => (hr r e).2
  obtain ⟨v, b3, hrow⟩ := h.row
  exact ⟨h.bs.kept hg hr', h.b4.kept hg hr', ⟨v, b3.kept hg hr', row_kept hrow hg hr'⟩, h.hb.kept hg hB (fun r e => (hr r e).1), Nat.le_trans h.sz hg.size⟩
def escape_Escaped.f (a0 : ByteArray) : Option (Int × List Int) := if a0.size ≤ 281474976702464 then some ((a0.size : Int), wordsOf a0.size (esc a0 false)) else none
set_option maxHeartbeats 4000000 in
set_option maxRecDepth 100000 in
theorem escape_Escaped.walk (s : ByteArray) (w : World) (hs : s.size ≤ 281474976702464) :
    Calls Tryd.prog 60 #[.string s] w fun e w' => ∃ v1_ : Value, e = .returned (.agg #[.int .i64 s.size, v1_]) ∧ w'.ownsRow w.heap.size 79 1 v1_ (nwords s.size) ((wordsOf s.size (esc s false)).map (Value.int .u64)) ∧ Below w.heap.size w w' := by
  obtain ⟨F, hF⟩ : ∃ F, F = Fence.wide := ⟨_, rfl⟩
  have HF := Aside0.mk hF
  refine (callsIn_wide (n := 9)).1 ?_
  rw [← hF]
  clear hF
  have hro := wide_round HF
  have HB := BelowH.refl w
  have f1 := wide_fn HF 52
  have f2 := wide_fn HF 69
  have f3 := wide_fn HF 61
  have f4 := wide_fn HF 71
  refine callsIn_of_wp_marks Tryd.func60 rfl (wide_fn HF _) ?_ hro
  simp only [Tryd.ntmps60, List.size_toArray, List.length_cons, List.length_nil, Nat.reduceAdd, Nat.reduceSub, Array.replicate_succ, Array.replicate_zero, List.push_toArray, List.append_toArray, List.nil_append, List.cons_append]
  gi_wp2_with (first
    | ((with_reducible refine gate_dstIn (N := 1) rfl ?_); refine ev_allocIn HB rfl rfl (#[.string s]) 9 ?hr ?_; (case hr => first | (go_simp; done) | (go_simp; rfl)); intro g1 w1 G_g1 GE_g1 B_g1 HBn K_g1 KO_w1; clear HB; have HB := HBn; clear HBn)
    | ((with_reducible refine gate_dstIn (N := 2) rfl ?_); refine ev_allocIn HB rfl rfl (#[.int .i64 0, .slice none 0 0]) 95 ?hr ?_; (case hr => first | (go_simp; done) | (go_simp; rfl)); intro g2 w2 G_g2 GE_g2 B_g2 HBn K_g2 KO_w2; clear HB; have HB := HBn; clear HBn))
  refine wpIn_scope HF ?_
  have c1 := (B_g1.below K_g2.out).cell (i := 0) rfl
  gi_wp2_with (first
    | ((with_reducible refine gate_dstIn (N := 3) rfl ?_); refine ev_allocIn HB rfl rfl (#[.int .i64 0, .slice none 0 0]) 95 ?hr ?_; (case hr => first | (go_simp; done) | (go_simp; rfl)); intro g3 w3 G_g3 GE_g3 B_g3 HBn K_g3 KO_w3; clear HB; have HB := HBn; clear HBn)
    | ((with_reducible refine gate_In (Op.store 95 (.tmp 3) (.tmp 12)) rfl ?_); refine ev_storeIn HB B_g3 GE_g3 rfl 95 _ _ rfl rfl rfl (by kernel_rfl) rfl (by simp [Value.oneCell']) ?_; intro w4 B3 HBn K_w4 KO_w4; clear HB; have HB := HBn; clear HBn)
    | ((with_reducible refine gate_dstIn (N := 4) rfl ?_); refine ev_allocIn HB rfl rfl (#[.bool false]) 4 ?hr ?_; (case hr => first | (go_simp; done) | (go_simp; rfl)); intro g4 w5 G_g4 GE_g4 B_g4 HBn K_g4 KO_w5; clear HB; have HB := HBn; clear HBn)
    | ((with_reducible refine gate_In (Op.store 4 (.tmp 4) (.const (.bool false))) rfl ?_); refine ev_store1In (i := 0) HB B_g4 GE_g4 rfl 4 _ _ rfl rfl (.bool false) rfl (by simp) (by kernel_rfl) rfl ?_; intro w6 B4 HBn K_w6 KO_w6; clear HB; have HB := HBn; clear HBn))
  refine wpIn_label ?_
  have N13 := Aside0.mk (show g1 < g3 by have := B_g1.lt; have := G_g2.out; have := G_g3.out; have := B_g2.lt; omega)
  have N23 := Aside0.mk (show g2 < g3 by have := G_g3.out; have := B_g2.lt; omega)
  have N34 := Aside0.mk (show g3 < g4 by have := G_g4.out; have := B3.lt; omega)
  have B1 := ((((B_g1.below K_g2.out).below K_g3.out).other K_w4 (Nat.ne_of_lt N13.out)).below K_g4.out).other K_w6 (Nat.ne_of_lt (Nat.lt_trans N13.out N34.out))
  have B2 := (((B_g2.below K_g3.out).other K_w4 (Nat.ne_of_lt N23.out)).below K_g4.out).other K_w6 (Nat.ne_of_lt (Nat.lt_trans N23.out N34.out))
  have D3 := (B3.below K_g4.out).other K_w6 (Nat.ne_of_lt N34.out)
  clear c1 B_g1 B_g2 B_g3 B_g4 B3 K_g1 K_g2 K_g3 K_g4 K_w4 K_w6 KO_w1 KO_w2 KO_w3 KO_w4 KO_w5 KO_w6
  have c1 := B1.cell (i := 0) rfl
  gi_wp2_with (first
    | (gi_at_call 52; refine (callsIn_of HF (block_Blocks.calls s 32 _)).mono ?_; rintro e w7 ⟨h1, h2, rfl, GE1, GE2, A1, A2, HB7⟩))
  obtain ⟨L, hL⟩ : ∃ L : List (Nat × Array Value × Nat), L = [(g1, #[.string s], 9), (g2, #[.int .i64 0, .slice none 0 0], 95), (h1, #[.string s], 9), (h2, #[.int .u8 32], 5)] := ⟨_, rfl⟩
  have CL : Blks L w7 := ⟨by
    rw [hL]
    intro b m
    simp at m
    rcases m with rfl | rfl | rfl | rfl
    · exact B1.below HB7.out
    · exact B2.below HB7.out
    · exact A1
    · exact A2⟩
  have C3 := D3.below HB7.out
  have C4 := B4.below HB7.out
  have L3 := C3.lt
  have L4 := C4.lt
  have LL : ∀ b ∈ L, b.1 < w7.heap.size := fun b m => (CL.out b m).lt
  have LT : ∀ b ∈ L, b.2.2 ≠ 79 := by
    rw [hL]
    intro b m
    simp at m
    rcases m with rfl | rfl | rfl | rfl <;> (dsimp only; decide)
  have LN3 : ∀ b ∈ L, b.1 ≠ g3 := by
    have := D3.lt
    have := N13.out
    have := N23.out
    rw [hL]
    intro b m
    simp at m
    rcases m with rfl | rfl | rfl | rfl <;> (dsimp only; omega)
  have LN4 : ∀ b ∈ L, b.1 ≠ g4 := by
    have := B4.lt
    have := N13.out
    have := N23.out
    have := N34.out
    rw [hL]
    intro b m
    simp at m
    rcases m with rfl | rfl | rfl | rfl <;> (dsimp only; omega)
  have M1 : (g1, #[.string s], 9) ∈ L := by rw [hL]; simp
  have M2 : (g2, #[.int .i64 0, .slice none 0 0], 95) ∈ L := by rw [hL]; simp
  have M3 : (h1, #[.string s], 9) ∈ L := by rw [hL]; simp
  have M4 : (h2, #[.int .u8 32], 5) ∈ L := by rw [hL]; simp
  have HBW := HB.step HB7.out
  have LH1 := A1.lt
  have LH2 := A2.lt
  have N34' := N34.out
  have PL := Aside0.mk (And.intro LL (And.intro LT (And.intro LN3 LN4)))
  have PM := Aside0.mk (And.intro M1 (And.intro M2 (And.intro M3 M4)))
  clear B1 B2 D3 B4 HB7 HB c1 f1 hL LL LT LN3 LN4 M1 M2 M3 M4 N13 N23 N34
  refine wpIn_rangeFunc_ownH hro (by decide) (gf := 69) (lb := #[.pointer (some ⟨h1, 0, none⟩), .pointer (some ⟨h2, 0, none⟩)]) rfl f2 (enters_of Tryd.func69 (by kernel_rfl) rfl)
    (block_Blocks_1.stops F HF (9 - 1) (by decide) h1 h2 s 32 hs w7 A1 A2) Keep2.trans (fun W l o o' hl ho hc hw => Keep2.putObj LH1 LH2 W l o o' hl ho hc hw) (Below.refl _ _) (fun _ => rfl)
    (EscI s w L w7.heap.size g3 g4) (fun _ _ _ => False)
    (fun pre A B row hs hg hr => hs.kept HBW.le hg hr)
    (fun _ _ _ _ _ hs _ _ => hs)
    ⟨CL, C4, ⟨_, C3, World.ownsRow_nil _ _ _ _⟩, HBW, Nat.le_refl _⟩
    (fun x a' W => ∃ gb, w7.heap.size ≤ gb ∧ Blk W gb (blkA (cutF s (64 * ((x.val : Nat) : Int)) 32)) 106 ∧ a' = { tmps := #[.string s, .pointer (some ⟨g1, 0, none⟩), .pointer (some ⟨g2, 0, none⟩), .pointer (some ⟨g3, 0, none⟩), .pointer (some ⟨g4, 0, none⟩), .int .i64 (64 * ((x.val : Nat) : Int)), .pointer (some ⟨gb, 0, none⟩), undef, undef, undef, .string s, .int .i64 s.size, .agg #[.int .i64 s.size, .slice none 0 0], .string s, .func (.func 69) #[] #[.pointer (some ⟨h1, 0, none⟩), .pointer (some ⟨h2, 0, none⟩)], .int .i64 (64 * ((x.val : Nat) : Int)), .agg (blkA (cutF s (64 * ((x.val : Nat) : Int)) 32)), undef, undef, undef, undef, undef, undef, undef, undef, undef, undef, undef, undef, undef, undef, undef, undef, undef, undef, undef, undef, undef, undef, undef, undef, undef, undef, undef, undef, undef, undef, undef, undef, undef, undef, undef, undef, undef], defers := [] })
    (fun x a' pre A B row hs hg hr => by
      obtain ⟨gb, h1, h2, h3⟩ := hs
      exact ⟨gb, h1, h2.kept hg (fun r e => (hr r e).2), h3⟩)
    ?assign ?body ?done ?stop
  case assign =>
    intro l pre x W K hI hK
    have HB := hI.hb
    have SZ := Aside0.mk hI.sz
    dsimp only [blkEnc]
    gi_wp2_with (first
      | ((with_reducible refine gate_dstIn (N := 6) rfl ?_); refine ev_allocIn HB rfl rfl (blkA fun _ => 0) 106 ?hr ?_; (case hr => (rw [← blkA_zero]; go_simp; rfl)); intro gb w8 G_gb GE_gb B_gb HBn K_gb KO_w8; clear HB; have HB := HBn; clear HBn)
      | ((with_reducible refine gate_In (Op.store 106 (.tmp 6) (.tmp 16)) rfl ?_); refine ev_storeIn HB B_gb GE_gb rfl 106 _ _ rfl rfl rfl (size64' _) (by rw [blkA_size, blkA_size]) (blkA_one _) ?_; intro w9 B9 HBn K_w9 KO_w9; clear HB; have HB := HBn; clear HBn))
    have hKO := KO_w8.out.trans KO_w9.out
    refine hK _ _ (hKO.from _) ?_ ?_ ⟨gb, Nat.le_trans SZ.out G_gb.out, B9, rfl⟩
    · exact (Keep2.below K_gb.out (by have := SZ.out; omega) (by have := SZ.out; omega)).trans (Keep2.other K_w9 (by have := SZ.out; have := G_gb.out; omega) (by have := SZ.out; have := G_gb.out; omega))
    · have N : ∀ g, g < w7.heap.size → g ≠ gb := fun g h => by have := SZ.out; have := G_gb.out; omega
      obtain ⟨v, b3, hrow⟩ := hI.row
      exact ⟨(hI.bs.below K_gb.out).other K_w9 (fun b m => N _ (PL.out.1 b m)), (hI.b4.below K_gb.out).other K_w9 (N _ L4), ⟨v, (b3.below K_gb.out).other K_w9 (N _ L3), row_other (row_below hrow K_gb.out) B_gb (by decide) K_w9⟩, HB, Nat.le_trans SZ.out (Nat.le_trans K_gb.out.size K_w9.out.1)⟩
  case body =>
    rintro l pre x a' W hl ⟨r, hr⟩ hI ⟨gb, hgb, BX, rfl⟩ hlt
    have HB := hI.hb
    obtain ⟨v, b3, hrow⟩ := hI.row
    have RB := Aside0.mk hr
    clear hr
    have hx : 64 * x.val < s.size := by have := x.isLt; unfold nwords at this; omega
    obtain ⟨q, hq⟩ : ∃ q : Nat → Bool, q = fun j => decide (cutF s (64 * ((x.val : Nat) : Int)) 32 j = 92) := ⟨_, rfl⟩
    obtain ⟨c, hc⟩ : ∃ c, c = (foldE s pre).1 := ⟨_, rfl⟩
    have EQ : ∀ w, Calls Tryd.prog 61 #[.agg (blkA (cutF s (64 * ((x.val : Nat) : Int)) 32)), .int .u8 92] w fun e w' => e = .returned (.int .u64 (iv (word q))) ∧ Below w.heap.size w w' := fun w => by
      rw [hq]
      exact block_Equal.calls _ (fun i => cutF_range s _ 32 (by decide) i) 92 (by decide) (by decide) w
    have b4 := hI.b4
    rw [← hc] at b4
    have HQ := Aside0.mk hq
    have HC := Aside0.mk hc
    have HX := Aside0.mk hx
    have HL : Aside0 ((pre.length + 1) * 8 ≤ 140737488355328) := ⟨by have := nwords_room hs; omega⟩
    clear hq hc hx hlt
    by_cases h0 : iv (word q) = 0 ∧ c = false
    · obtain ⟨h0, rfl⟩ := h0
      have c4 := b4.cell (i := 0) rfl
      have hz : (iv (word q) == 0) = true := by rw [h0]; rfl
      have H0 := Aside0.mk h0
      clear h0
      have c31 := b3.cell (i := 1) rfl
      gi_wp2_with (first
        | ((with_reducible refine gate_dstIn (N := 17) rfl ?_); refine ev_loadIn BX rfl 106 _ rfl rfl Tryd.underlying106 (size64' _) ?_)
        | (gi_at_call 61; refine (CallsIn.inRound l (callsIn_of HF (EQ _))).mono ?_; rintro e w8 ⟨rfl, hb8⟩; have HK8 := Aside0.mk hb8; have d4 := b4.below hb8; have d3 := b3.below hb8; have e4 := d4.cell (i := 0) rfl; have e31 := d3.cell (i := 1) rfl; have hrow8 := row_below hrow hb8; have HB8 := HB.step hb8; clear hb8)
        | ((with_reducible refine gate_dstIn (N := 27) rfl ?_); refine ev_lit1In HB8 rfl rfl (.int .u64 0) 79 ?hr ?_; (case hr => first | (go_simp; done) | (go_simp; rfl)); intro gl w9 G_gl B_gl HB9 K_gl KO9; have hrow9 := row_below hrow8 K_gl.out; have d3' := d3.below K_gl.out)
        | ((with_reducible refine gate_dstIn (N := 28) rfl ?_); refine ev_append1In HB9 rfl _ _ 93 79 (.int .u64 0) 8 rfl Tryd.underlying93 (by kernel_rfl) rfl (by decide) v pre.length _ rfl hrow9 gl (.int .u64 0) rfl B_gl rfl HL.out ?_; intro v1 w10 hrow10 HB10 K10 KO10 FV1; obtain ⟨g', cap', rfl⟩ := FV1.out; have f3' := d3'.appended (by decide) hrow9 K10)
        | ((with_reducible refine gate_In (Op.store 93 (.tmp 29) (.tmp 28)) rfl ?_); refine ev_store1In (i := 1) HB10 f3' GE_g3 rfl 93 _ _ rfl rfl _ rfl (by simp) (by kernel_rfl) rfl ?_; intro w11 B11 HB11 K11 KO11))
      have E8 := hI.bs.below HK8.out
      have E9 := E8.below K_gl.out
      have E10 := E9.appended PL.out.2.1 hrow9 K10
      have E11 := E10.other K11 PL.out.2.2.1
      have d49 := d4.below K_gl.out
      have d410 := d49.appended (by decide) hrow9 K10
      have d411 := d410.other K11 (Nat.ne_of_gt N34')
      have hsz : W.heap.size ≤ w11.heap.size := Nat.le_trans HK8.out.size (Nat.le_trans K_gl.out.size (Nat.le_trans K10.out.1 K11.out.1))
      refine ⟨(((keepsOthers_below HK8.out).trans KO9.out).trans (KO10.out.trans KO11.out)).from _, Keep2.of_blk (hI.bs.out _ PM.out.2.2.1) (hI.bs.out _ PM.out.2.2.2) (E11.out _ PM.out.2.2.1) (E11.out _ PM.out.2.2.2) hsz, E11, ?_, ⟨_, B11, ?_⟩, HB11, Nat.le_trans hI.sz hsz⟩
      · rw [foldE_snoc, (zero_step s _ x.val HQ.out H0.out HC.out.symm).1]
        exact d411
      · rw [foldE_snoc, (zero_step s _ x.val HQ.out H0.out HC.out.symm).2, List.length_append, List.map_append]
        exact row_other hrow10 f3' (by decide) K11
    · have hz : ((iv (word q) == 0) && !c) = false := by
        cases c
        · simp at h0
          simp [h0]
        · simp
      have c4 := b4.cell (i := 0) rfl
      have c31 := b3.cell (i := 1) rfl
      have c1 := (hI.bs.out _ PM.out.1).cell (i := 0) rfl
      clear h0
      have WE := Aside0.mk (words_Escaped.tells q c)
      have hs1 : (s.size : Int) ≤ 281474976702464 := by omega
      have HX' := HX.out
      have hx1 : 64 * ((x.val : Nat) : Int) < s.size := by omega
      have LD : ∀ w, (Calls Tryd.prog 71 #[.int .u64 (iv (word q)), .bool c] w fun e w' => e = .returned (.tuple #[.int .u64 (iv (word (escW q c))), .bool (escW q c 64)]) ∧ Drawn0 w w') := fun w => words_Escaped.calls _ _ _ _ w WE.out
      obtain ⟨cc, hcc⟩ : ∃ cc, cc = escW q c 64 := ⟨_, rfl⟩
      obtain ⟨ww, hww⟩ : ∃ ww, ww = iv (word (escW q c)) := ⟨_, rfl⟩
      rw [← hcc, ← hww] at LD
      have HCC := Aside0.mk hcc
      have HWW := Aside0.mk hww
      clear hcc hww HX' WE
      have LDh := Aside0.mk LD
      clear LD
      have key : (∃ z, (iv (word q) == 0) = z ∧ (z = true → c = true)) := ⟨_, rfl, fun h => by
        cases c
        · simp [h] at hz
        · rfl⟩
      clear hz
      obtain ⟨z, hz0, hzc⟩ := key
      have HZC := Aside0.mk hzc
      clear hzc
      by_cases hfull : (s.size : Int) - 64 * ((x.val : Nat) : Int) < 64
      · have STEP := Aside0.mk (part_step s (foldE s pre) x.val HQ.out HC.out HX.out (by omega))
        rw [← HWW.out] at STEP
        cases z
        · gi_wp2_with (first
            | ((with_reducible refine gate_dstIn (N := 17) rfl ?_); refine ev_loadIn BX rfl 106 _ rfl rfl Tryd.underlying106 (size64' _) ?_)
            | (gi_at_call 61; refine (CallsIn.inRound l (callsIn_of HF (EQ _))).mono ?_; rintro e w8 ⟨rfl, hb8⟩; have HK8 := Aside0.mk hb8; have E8 := hI.bs.below hb8; have e1 := (E8.out _ PM.out.1).cell (i := 0) rfl; have d4 := b4.below hb8; have d3 := b3.below hb8; have e4 := d4.cell (i := 0) rfl; have e31 := d3.cell (i := 1) rfl; have hrow8 := row_below hrow hb8; have HB8 := HB.step hb8; clear hb8)
            | (gi_at_call 71; refine (CallsIn.inRound l (callsIn_of HF (LDh.out _))).mono ?_; rintro e w9 ⟨rfl, ⟨nd, rfl⟩⟩; have d4n := d4.drewN nd; have HB9 := HB8.drewN nd; have E9 := E8.drewN nd; have d3n := d3.drewN nd; have hrow9 := row_drewN hrow8 nd)
            | ((with_reducible refine gate_In (Op.store 4 (.tmp 4) (.tmp 35)) rfl ?_); refine ev_store1In (i := 0) HB9 d4n GE_g4 rfl 4 _ _ rfl rfl _ rfl (by simp) (by kernel_rfl) rfl ?_; intro w10 B10 HB10 K10 KO10; have E10 := E9.other K10 PL.out.2.2.2; have d310 := d3n.other K10 (Nat.ne_of_lt N34'); have hrow10 := row_other hrow9 d4n (by decide) K10; have e1 := (E10.out _ PM.out.1).cell (i := 0) rfl; have e31 := d310.cell (i := 1) rfl)
            | ((with_reducible refine gate_dstIn (N := 50) rfl ?_); refine ev_lit1In HB10 rfl rfl (.int .u64 (bits BinOp.and IntKind.u64 ww (IntKind.u64.wrap (IntKind.u64.wrap (2 ^ (s.size - 64 * x.val)) - 1)))) 79 ?hr ?_; (case hr => first | (go_simp; done) | (go_simp; rfl)); intro gl w11 G_gl B_gl HB11 K_gl KO11; have E11 := E10.below K_gl.out; have d311 := d310.below K_gl.out; have d411 := B10.below K_gl.out; have hrow11 := row_below hrow10 K_gl.out)
            | ((with_reducible refine gate_dstIn (N := 51) rfl ?_); refine ev_append1In HB11 rfl _ _ 93 79 (.int .u64 0) 8 rfl Tryd.underlying93 (by kernel_rfl) rfl (by decide) v pre.length _ rfl hrow11 gl (.int .u64 (bits BinOp.and IntKind.u64 ww (IntKind.u64.wrap (IntKind.u64.wrap (2 ^ (s.size - 64 * x.val)) - 1)))) rfl B_gl rfl HL.out ?_; intro v1 w12 hrow12 HB12 K12 KO12 FV1; obtain ⟨g', cap', rfl⟩ := FV1.out; have d312 := d311.appended (by decide) hrow11 K12; have d412 := d411.appended (by decide) hrow11 K12; have E12 := E11.appended PL.out.2.1 hrow11 K12)
            | ((with_reducible refine gate_In (Op.store 93 (.tmp 52) (.tmp 51)) rfl ?_); refine ev_store1In (i := 1) HB12 d312 GE_g3 rfl 93 _ _ rfl rfl _ rfl (by simp) (by kernel_rfl) rfl ?_; intro w13 B13 HB13 K13 KO13; have E13 := E12.other K13 PL.out.2.2.1; have d413 := d412.other K13 (Nat.ne_of_gt N34')))
          have hsz : W.heap.size ≤ w13.heap.size := Nat.le_trans HK8.out.size (Nat.le_trans K10.out.1 (Nat.le_trans K_gl.out.size (Nat.le_trans K12.out.1 K13.out.1)))
          refine ⟨(((((keepsOthers_below HK8.out).trans (keepsOthers_drewN _ nd)).trans KO10.out).trans KO11.out).trans (KO12.out.trans KO13.out)).from _, Keep2.of_blk (hI.bs.out _ PM.out.2.2.1) (hI.bs.out _ PM.out.2.2.2) (E13.out _ PM.out.2.2.1) (E13.out _ PM.out.2.2.2) hsz, E13, ?_, ⟨_, B13, ?_⟩, HB13, Nat.le_trans hI.sz hsz⟩
          · rw [foldE_snoc, STEP.out, ← HCC.out]
            exact d413
          · rw [foldE_snoc, STEP.out, List.length_append, List.map_append]
            exact row_other hrow12 d312 (by decide) K13
        · obtain rfl : c = true := HZC.out rfl
          gi_wp2_with (first
            | ((with_reducible refine gate_dstIn (N := 17) rfl ?_); refine ev_loadIn BX rfl 106 _ rfl rfl Tryd.underlying106 (size64' _) ?_)
            | (gi_at_call 61; refine (CallsIn.inRound l (callsIn_of HF (EQ _))).mono ?_; rintro e w8 ⟨rfl, hb8⟩; have HK8 := Aside0.mk hb8; have E8 := hI.bs.below hb8; have e1 := (E8.out _ PM.out.1).cell (i := 0) rfl; have d4 := b4.below hb8; have d3 := b3.below hb8; have e4 := d4.cell (i := 0) rfl; have e31 := d3.cell (i := 1) rfl; have hrow8 := row_below hrow hb8; have HB8 := HB.step hb8; clear hb8)
            | (gi_at_call 71; refine (CallsIn.inRound l (callsIn_of HF (LDh.out _))).mono ?_; rintro e w9 ⟨rfl, ⟨nd, rfl⟩⟩; have d4n := d4.drewN nd; have HB9 := HB8.drewN nd; have E9 := E8.drewN nd; have d3n := d3.drewN nd; have hrow9 := row_drewN hrow8 nd)
            | ((with_reducible refine gate_In (Op.store 4 (.tmp 4) (.tmp 35)) rfl ?_); refine ev_store1In (i := 0) HB9 d4n GE_g4 rfl 4 _ _ rfl rfl _ rfl (by simp) (by kernel_rfl) rfl ?_; intro w10 B10 HB10 K10 KO10; have E10 := E9.other K10 PL.out.2.2.2; have d310 := d3n.other K10 (Nat.ne_of_lt N34'); have hrow10 := row_other hrow9 d4n (by decide) K10; have e1 := (E10.out _ PM.out.1).cell (i := 0) rfl; have e31 := d310.cell (i := 1) rfl)
            | ((with_reducible refine gate_dstIn (N := 50) rfl ?_); refine ev_lit1In HB10 rfl rfl (.int .u64 (bits BinOp.and IntKind.u64 ww (IntKind.u64.wrap (IntKind.u64.wrap (2 ^ (s.size - 64 * x.val)) - 1)))) 79 ?hr ?_; (case hr => first | (go_simp; done) | (go_simp; rfl)); intro gl w11 G_gl B_gl HB11 K_gl KO11; have E11 := E10.below K_gl.out; have d311 := d310.below K_gl.out; have d411 := B10.below K_gl.out; have hrow11 := row_below hrow10 K_gl.out)
            | ((with_reducible refine gate_dstIn (N := 51) rfl ?_); refine ev_append1In HB11 rfl _ _ 93 79 (.int .u64 0) 8 rfl Tryd.underlying93 (by kernel_rfl) rfl (by decide) v pre.length _ rfl hrow11 gl (.int .u64 (bits BinOp.and IntKind.u64 ww (IntKind.u64.wrap (IntKind.u64.wrap (2 ^ (s.size - 64 * x.val)) - 1)))) rfl B_gl rfl HL.out ?_; intro v1 w12 hrow12 HB12 K12 KO12 FV1; obtain ⟨g', cap', rfl⟩ := FV1.out; have d312 := d311.appended (by decide) hrow11 K12; have d412 := d411.appended (by decide) hrow11 K12; have E12 := E11.appended PL.out.2.1 hrow11 K12)
            | ((with_reducible refine gate_In (Op.store 93 (.tmp 52) (.tmp 51)) rfl ?_); refine ev_store1In (i := 1) HB12 d312 GE_g3 rfl 93 _ _ rfl rfl _ rfl (by simp) (by kernel_rfl) rfl ?_; intro w13 B13 HB13 K13 KO13; have E13 := E12.other K13 PL.out.2.2.1; have d413 := d412.other K13 (Nat.ne_of_gt N34')))
          have hsz : W.heap.size ≤ w13.heap.size := Nat.le_trans HK8.out.size (Nat.le_trans K10.out.1 (Nat.le_trans K_gl.out.size (Nat.le_trans K12.out.1 K13.out.1)))
          refine ⟨(((((keepsOthers_below HK8.out).trans (keepsOthers_drewN _ nd)).trans KO10.out).trans KO11.out).trans (KO12.out.trans KO13.out)).from _, Keep2.of_blk (hI.bs.out _ PM.out.2.2.1) (hI.bs.out _ PM.out.2.2.2) (E13.out _ PM.out.2.2.1) (E13.out _ PM.out.2.2.2) hsz, E13, ?_, ⟨_, B13, ?_⟩, HB13, Nat.le_trans hI.sz hsz⟩
          · rw [foldE_snoc, STEP.out, ← HCC.out]
            exact d413
          · rw [foldE_snoc, STEP.out, List.length_append, List.map_append]
            exact row_other hrow12 d312 (by decide) K13
      · have STEP := Aside0.mk (full_step s (foldE s pre) x.val HQ.out HC.out (by omega))
        rw [← HWW.out] at STEP
        cases z
        · gi_wp2_with (first
            | ((with_reducible refine gate_dstIn (N := 17) rfl ?_); refine ev_loadIn BX rfl 106 _ rfl rfl Tryd.underlying106 (size64' _) ?_)
            | (gi_at_call 61; refine (CallsIn.inRound l (callsIn_of HF (EQ _))).mono ?_; rintro e w8 ⟨rfl, hb8⟩; have HK8 := Aside0.mk hb8; have E8 := hI.bs.below hb8; have e1 := (E8.out _ PM.out.1).cell (i := 0) rfl; have d4 := b4.below hb8; have d3 := b3.below hb8; have e4 := d4.cell (i := 0) rfl; have e31 := d3.cell (i := 1) rfl; have hrow8 := row_below hrow hb8; have HB8 := HB.step hb8; clear hb8)
            | (gi_at_call 71; refine (CallsIn.inRound l (callsIn_of HF (LDh.out _))).mono ?_; rintro e w9 ⟨rfl, ⟨nd, rfl⟩⟩; have d4n := d4.drewN nd; have HB9 := HB8.drewN nd; have E9 := E8.drewN nd; have d3n := d3.drewN nd; have hrow9 := row_drewN hrow8 nd)
            | ((with_reducible refine gate_In (Op.store 4 (.tmp 4) (.tmp 35)) rfl ?_); refine ev_store1In (i := 0) HB9 d4n GE_g4 rfl 4 _ _ rfl rfl _ rfl (by simp) (by kernel_rfl) rfl ?_; intro w10 B10 HB10 K10 KO10; have E10 := E9.other K10 PL.out.2.2.2; have d310 := d3n.other K10 (Nat.ne_of_lt N34'); have hrow10 := row_other hrow9 d4n (by decide) K10; have e1 := (E10.out _ PM.out.1).cell (i := 0) rfl; have e31 := d310.cell (i := 1) rfl)
            | ((with_reducible refine gate_dstIn (N := 50) rfl ?_); refine ev_lit1In HB10 rfl rfl (.int .u64 (ww)) 79 ?hr ?_; (case hr => first | (go_simp; done) | (go_simp; rfl)); intro gl w11 G_gl B_gl HB11 K_gl KO11; have E11 := E10.below K_gl.out; have d311 := d310.below K_gl.out; have d411 := B10.below K_gl.out; have hrow11 := row_below hrow10 K_gl.out)
            | ((with_reducible refine gate_dstIn (N := 51) rfl ?_); refine ev_append1In HB11 rfl _ _ 93 79 (.int .u64 0) 8 rfl Tryd.underlying93 (by kernel_rfl) rfl (by decide) v pre.length _ rfl hrow11 gl (.int .u64 (ww)) rfl B_gl rfl HL.out ?_; intro v1 w12 hrow12 HB12 K12 KO12 FV1; obtain ⟨g', cap', rfl⟩ := FV1.out; have d312 := d311.appended (by decide) hrow11 K12; have d412 := d411.appended (by decide) hrow11 K12; have E12 := E11.appended PL.out.2.1 hrow11 K12)
            | ((with_reducible refine gate_In (Op.store 93 (.tmp 52) (.tmp 51)) rfl ?_); refine ev_store1In (i := 1) HB12 d312 GE_g3 rfl 93 _ _ rfl rfl _ rfl (by simp) (by kernel_rfl) rfl ?_; intro w13 B13 HB13 K13 KO13; have E13 := E12.other K13 PL.out.2.2.1; have d413 := d412.other K13 (Nat.ne_of_gt N34')))
          have hsz : W.heap.size ≤ w13.heap.size := Nat.le_trans HK8.out.size (Nat.le_trans K10.out.1 (Nat.le_trans K_gl.out.size (Nat.le_trans K12.out.1 K13.out.1)))
          refine ⟨(((((keepsOthers_below HK8.out).trans (keepsOthers_drewN _ nd)).trans KO10.out).trans KO11.out).trans (KO12.out.trans KO13.out)).from _, Keep2.of_blk (hI.bs.out _ PM.out.2.2.1) (hI.bs.out _ PM.out.2.2.2) (E13.out _ PM.out.2.2.1) (E13.out _ PM.out.2.2.2) hsz, E13, ?_, ⟨_, B13, ?_⟩, HB13, Nat.le_trans hI.sz hsz⟩
          · rw [foldE_snoc, STEP.out, ← HCC.out]
            exact d413
          · rw [foldE_snoc, STEP.out, List.length_append, List.map_append]
            exact row_other hrow12 d312 (by decide) K13
        · obtain rfl : c = true := HZC.out rfl
          gi_wp2_with (first
            | ((with_reducible refine gate_dstIn (N := 17) rfl ?_); refine ev_loadIn BX rfl 106 _ rfl rfl Tryd.underlying106 (size64' _) ?_)
            | (gi_at_call 61; refine (CallsIn.inRound l (callsIn_of HF (EQ _))).mono ?_; rintro e w8 ⟨rfl, hb8⟩; have HK8 := Aside0.mk hb8; have E8 := hI.bs.below hb8; have e1 := (E8.out _ PM.out.1).cell (i := 0) rfl; have d4 := b4.below hb8; have d3 := b3.below hb8; have e4 := d4.cell (i := 0) rfl; have e31 := d3.cell (i := 1) rfl; have hrow8 := row_below hrow hb8; have HB8 := HB.step hb8; clear hb8)
            | (gi_at_call 71; refine (CallsIn.inRound l (callsIn_of HF (LDh.out _))).mono ?_; rintro e w9 ⟨rfl, ⟨nd, rfl⟩⟩; have d4n := d4.drewN nd; have HB9 := HB8.drewN nd; have E9 := E8.drewN nd; have d3n := d3.drewN nd; have hrow9 := row_drewN hrow8 nd)
            | ((with_reducible refine gate_In (Op.store 4 (.tmp 4) (.tmp 35)) rfl ?_); refine ev_store1In (i := 0) HB9 d4n GE_g4 rfl 4 _ _ rfl rfl _ rfl (by simp) (by kernel_rfl) rfl ?_; intro w10 B10 HB10 K10 KO10; have E10 := E9.other K10 PL.out.2.2.2; have d310 := d3n.other K10 (Nat.ne_of_lt N34'); have hrow10 := row_other hrow9 d4n (by decide) K10; have e1 := (E10.out _ PM.out.1).cell (i := 0) rfl; have e31 := d310.cell (i := 1) rfl)
            | ((with_reducible refine gate_dstIn (N := 50) rfl ?_); refine ev_lit1In HB10 rfl rfl (.int .u64 (ww)) 79 ?hr ?_; (case hr => first | (go_simp; done) | (go_simp; rfl)); intro gl w11 G_gl B_gl HB11 K_gl KO11; have E11 := E10.below K_gl.out; have d311 := d310.below K_gl.out; have d411 := B10.below K_gl.out; have hrow11 := row_below hrow10 K_gl.out)
            | ((with_reducible refine gate_dstIn (N := 51) rfl ?_); refine ev_append1In HB11 rfl _ _ 93 79 (.int .u64 0) 8 rfl Tryd.underlying93 (by kernel_rfl) rfl (by decide) v pre.length _ rfl hrow11 gl (.int .u64 (ww)) rfl B_gl rfl HL.out ?_; intro v1 w12 hrow12 HB12 K12 KO12 FV1; obtain ⟨g', cap', rfl⟩ := FV1.out; have d312 := d311.appended (by decide) hrow11 K12; have d412 := d411.appended (by decide) hrow11 K12; have E12 := E11.appended PL.out.2.1 hrow11 K12)
            | ((with_reducible refine gate_In (Op.store 93 (.tmp 52) (.tmp 51)) rfl ?_); refine ev_store1In (i := 1) HB12 d312 GE_g3 rfl 93 _ _ rfl rfl _ rfl (by simp) (by kernel_rfl) rfl ?_; intro w13 B13 HB13 K13 KO13; have E13 := E12.other K13 PL.out.2.2.1; have d413 := d412.other K13 (Nat.ne_of_gt N34')))
          have hsz : W.heap.size ≤ w13.heap.size := Nat.le_trans HK8.out.size (Nat.le_trans K10.out.1 (Nat.le_trans K_gl.out.size (Nat.le_trans K12.out.1 K13.out.1)))
          refine ⟨(((((keepsOthers_below HK8.out).trans (keepsOthers_drewN _ nd)).trans KO10.out).trans KO11.out).trans (KO12.out.trans KO13.out)).from _, Keep2.of_blk (hI.bs.out _ PM.out.2.2.1) (hI.bs.out _ PM.out.2.2.2) (E13.out _ PM.out.2.2.1) (E13.out _ PM.out.2.2.2) hsz, E13, ?_, ⟨_, B13, ?_⟩, HB13, Nat.le_trans hI.sz hsz⟩
          · rw [foldE_snoc, STEP.out, ← HCC.out]
            exact d413
          · rw [foldE_snoc, STEP.out, List.length_append, List.map_append]
            exact row_other hrow12 d312 (by decide) K13
  case done =>
    rintro D ys W hD rfl hI hK
    obtain ⟨v, b3, hrow⟩ := hI.row
    have b2 := hI.bs.out _ PM.out.2.1
    have HB := hI.hb
    have V1 := Aside0.mk (row_one hrow)
    have HD := Aside0.mk hD
    have HKD := Aside0.mk hK
    clear hK hD
    gi_wp2_with (first
      | ((with_reducible refine gate_dstIn (N := 53) rfl ?_); refine ev_loadSIn b3 rfl 95 _ rfl rfl Tryd.underlying95 rfl (by kernel_rfl) ?_)
      | ((with_reducible refine gate_In (Op.store 95 (.tmp 2) (.tmp 53)) rfl ?_); refine ev_storeIn HB b2 GE_g2 rfl 95 _ _ rfl rfl rfl (by kernel_rfl) rfl (by simp [Value.oneCell']; exact V1.out) ?_; intro w8 B8 HB8 K8 KO8))
    have HK8 := KO8.out.same D _ HKD.out rfl
    have hrow8 := row_other hrow b2 (by decide) K8
    have hg := grownBy_putObj' w8 D (.deferred none)
    have hr : ∀ r, some D = some r → ∃ o : Obj, w8.heap[r]? = some o ∧ o.isCells = false := fun r e => by
      cases e
      exact ⟨_, HK8, rfl⟩
    have hle : w.heap.size ≤ D := Nat.le_trans HBW.le HD.out
    refine ⟨by simp, .inl ⟨_, _, rfl, run_takeDeferred HK8, ?_⟩⟩
    refine ⟨_, results_cell_row rfl _ _ g2 95 _ (0, 0) _ rfl (B8.kept hg hr).out Tryd.underlying95 rfl (by kernel_rfl), v, rfl, ?_, (HB8.kept hg hle (fun r e => by cases e; exact Nat.le_refl _)).out⟩
    have h1 := row_kept hrow8 hg hr
    rw [foldE_all, List.length_finRange] at h1
    exact h1
  case stop =>
    rintro D c pre W _ _ h _
    exact h.elim
theorem escape_Escaped.calls (a0 : ByteArray) (r1 : Int) (r2 : List Int) (w : World) (h : escape_Escaped.f a0 = some (r1, r2)) :
    Calls Tryd.prog 60 #[.string a0] w fun e w' => ∃ v1_ : Value, e = .returned (.agg #[.int .i64 r1, v1_]) ∧ Kd.R (Kd.int .u64) 79 w' w.heap.size (fun _ => True) v1_ r2 ∧ Below w.heap.size w w' := by
  unfold escape_Escaped.f at h
  by_cases hs : a0.size ≤ 281474976702464
  case neg => rw [if_neg hs] at h; cases h
  rw [if_pos hs] at h
  simp only [Option.some.injEq, Prod.mk.injEq] at h
  obtain ⟨rfl, rfl⟩ := h
  refine (escape_Escaped.walk a0 w hs).mono ?_
  rintro e w' ⟨v, rfl, hrow, hb⟩
  refine ⟨v, rfl, Kd.R_of_own ?_ (fun _ _ => trivial), hb⟩
  rw [wordsOf_length]
  exact hrow
end


section
open Go.Proofs.YtfihkkjkifkemaaDoorQ Go.Proofs.YtfihkkjkifkemaaDoorM Go.Shelf
attribute [local go_sem] Oper.semAt_some
/-- Between two blocks. -/
structure MarksI (s : ByteArray) (w : World) (L : List (Nat × Array Value × Nat)) (m : Nat) (v1 : Value) {n : Nat} (pre : List (Fin n)) (W : World) : Prop where mk ::
  bs : Blks L W
  row : W.ownsRow w.heap.size 79 1 v1 (nwords s.size) ((foldM s pre).map (Value.int .u64))
  hb : BelowH w W
  sz : m ≤ W.heap.size
theorem MarksI.kept {s : ByteArray} {w W W' : World} {L : List (Nat × Array Value × Nat)} {m : Nat} {v1 : Value} {n : Nat} {pre : List (Fin n)} (h : MarksI s w L m v1 pre W) {B : Nat} (hB : w.heap.size ≤ B) {row : Option Nat} (hg : W.grownBy W' row) (hr : ∀ r, row = some r → B ≤ r ∧ ∃ o : Obj, W.heap[r]? = some o ∧ o.isCells = false) : MarksI s w L m v1 pre W' := by
  have hr' : ∀ r, row = some r → ∃ o : Obj, W.heap[r]? = some o ∧ o.isCells = false := fun r e => (hr r e).2
  exact ⟨h.bs.kept hg hr', row_kept h.row hg hr', h.hb.kept hg hB (fun r e => (hr r e).1), Nat.le_trans h.sz hg.size⟩
theorem MarksI.below {s : ByteArray} {w W W' : World} {L : List (Nat × Array Value × Nat)} {m : Nat} {v1 : Value} {n : Nat} {pre : List (Fin n)} (h : MarksI s w L m v1 pre W) (hb : Below W.heap.size W W') : MarksI s w L m v1 pre W' :=
  ⟨h.bs.below hb, row_below h.row hb, h.hb.step hb, Nat.le_trans h.sz hb.size⟩
def quotes_Marks.f (a0 : ByteArray) : Option (Int × List Int) := if a0.size ≤ 281474976702464 then some ((a0.size : Int), wordsOf a0.size (mkq a0)) else none
set_option maxHeartbeats 4000000 in
set_option maxRecDepth 100000 in
theorem quotes_Marks.walk (s : ByteArray) (w : World) (hs : s.size ≤ 281474976702464) :
    Calls Tryd.prog 47 #[.string s] w fun e w' => ∃ v1_ : Value, e = .returned (.agg #[.int .i64 s.size, v1_]) ∧ w'.ownsRow w.heap.size 79 1 v1_ (nwords s.size) ((wordsOf s.size (mkq s)).map (Value.int .u64)) ∧ Below w.heap.size w w' := by
  obtain ⟨F, hF⟩ : ∃ F, F = Fence.wide := ⟨_, rfl⟩
  have HF := Aside0.mk hF
  refine (callsIn_wide (n := 9)).1 ?_
  rw [← hF]
  clear hF
  have hro := wide_round HF
  have HB := BelowH.refl w
  have f1 := wide_fn HF 52
  have f2 := wide_fn HF 69
  have f3 := wide_fn HF 61
  have f4 := wide_fn HF 60
  refine callsIn_of_wp_marks Tryd.func47 rfl (wide_fn HF _) ?_ hro
  simp only [Tryd.ntmps47, List.size_toArray, List.length_cons, List.length_nil, Nat.reduceAdd, Nat.reduceSub, Array.replicate_succ, Array.replicate_zero, List.push_toArray, List.append_toArray, List.nil_append, List.cons_append]
  gi_upto_region 2 with (first
    | ((with_reducible refine gate_dstIn (N := 2) rfl ?_); refine ev_allocIn HB rfl rfl (#[.int .i64 0, .slice none 0 0]) 95 ?hr ?_; (case hr => first | (go_simp; done) | (go_simp; rfl)); intro g2 w2 G_g2 GE_g2 B_g2 HBn K_g2 KO_w2; clear HB; have HB := HBn; clear HBn)
    | (gi_at_call 60; refine (callsIn_of HF (escape_Escaped.walk s _ hs)).mono ?_; rintro e w3 ⟨v1, rfl, hrow, hb3⟩; have R3 := Aside0.mk (row_mono hrow HB.le); have V1 := Aside0.mk (row_one hrow); have HK3 := Aside0.mk hb3; have HBn := HB.step hb3; clear HB hb3 hrow; have HB := HBn; clear HBn)
    | ((with_reducible refine gate_dstIn (N := 3) rfl ?_); refine ev_allocIn HB rfl rfl (#[.int .i64 0, .slice none 0 0]) 95 ?hr ?_; (case hr => first | (go_simp; done) | (go_simp; rfl)); intro g3 w4 G_g3 GE_g3 B_g3 HBn K_g3 KO_w4; clear HB; have HB := HBn; clear HBn)
    | ((with_reducible refine gate_In (Op.store 95 (.tmp 3) (.tmp 7)) rfl ?_); refine ev_storeIn HB B_g3 GE_g3 rfl 95 _ _ rfl rfl rfl (by kernel_rfl) rfl (by simp [Value.oneCell']; exact V1.out) ?_; intro w5 B3 HBn K_w5 KO_w5; clear HB; have HB := HBn; clear HBn))
  have N23 := Aside0.mk (show g2 < g3 by have := G_g3.out; have := B_g2.lt; have := HK3.out.size; omega)
  have B2 := ((B_g2.below HK3.out).below K_g3.out).other K_w5 (Nat.ne_of_lt N23.out)
  have R5 := row_other (row_below R3.out K_g3.out) B_g3 (by decide) K_w5
  clear B_g2 B_g3 K_g2 K_g3 K_w5 KO_w2 KO_w4 KO_w5 R3 HK3 G_g2 G_g3
  gi_wp2_with (first
    | (gi_at_call 52; refine (callsIn_of HF (block_Blocks.calls s 0 _)).mono ?_; rintro e w7 ⟨h1, h2, rfl, GE1, GE2, A1, A2, HB7⟩))
  obtain ⟨L, hL⟩ : ∃ L : List (Nat × Array Value × Nat), L = [(g3, #[.int .i64 s.size, v1], 95), (g2, #[.int .i64 0, .slice none 0 0], 95), (h1, #[.string s], 9), (h2, #[.int .u8 0], 5)] := ⟨_, rfl⟩
  have CL : Blks L w7 := ⟨by
    rw [hL]
    intro b m
    simp at m
    rcases m with rfl | rfl | rfl | rfl
    · exact B3.below HB7.out
    · exact B2.below HB7.out
    · exact A1
    · exact A2⟩
  have C7 := row_below R5 HB7.out
  have LL : ∀ b ∈ L, b.1 < w7.heap.size := fun b m => (CL.out b m).lt
  have LT : ∀ b ∈ L, b.2.2 ≠ 79 := by
    rw [hL]
    intro b m
    simp at m
    rcases m with rfl | rfl | rfl | rfl <;> (dsimp only; decide)
  have M3 : (g3, #[.int .i64 s.size, v1], 95) ∈ L := by rw [hL]; simp
  have M2 : (g2, #[.int .i64 0, .slice none 0 0], 95) ∈ L := by rw [hL]; simp
  have M4 : (h1, #[.string s], 9) ∈ L := by rw [hL]; simp
  have M5 : (h2, #[.int .u8 0], 5) ∈ L := by rw [hL]; simp
  have HBW := HB.step HB7.out
  have LH1 := A1.lt
  have LH2 := A2.lt
  have PL := Aside0.mk (And.intro LL LT)
  have PM := Aside0.mk (And.intro M3 (And.intro M2 (And.intro M4 M5)))
  clear B2 B3 R5 HB7 HB f1 hL LL LT M2 M3 M4 M5 N23
  refine wpIn_rangeFunc_ownH hro (by decide) (gf := 69) (lb := #[.pointer (some ⟨h1, 0, none⟩), .pointer (some ⟨h2, 0, none⟩)]) rfl f2 (enters_of Tryd.func69 (by kernel_rfl) rfl)
    (block_Blocks_1.stops F HF (9 - 1) (by decide) h1 h2 s 0 hs w7 A1 A2) Keep2.trans (fun W l o o' hl ho hc hw => Keep2.putObj LH1 LH2 W l o o' hl ho hc hw) (Below.refl _ _) (fun _ => rfl)
    (MarksI s w L w7.heap.size v1) (fun _ _ _ => False)
    (fun pre A B row hs hg hr => hs.kept HBW.le hg hr)
    (fun _ _ _ _ _ hs _ _ => hs)
    ⟨CL, C7, HBW, Nat.le_refl _⟩
    (fun x a' W => ∃ gb, w7.heap.size ≤ gb ∧ Blk W gb (blkA (cutF s (64 * ((x.val : Nat) : Int)) 0)) 106 ∧ a' = { tmps := #[.string s, undef, .pointer (some ⟨g2, 0, none⟩), .pointer (some ⟨g3, 0, none⟩), .int .i64 (64 * ((x.val : Nat) : Int)), .pointer (some ⟨gb, 0, none⟩), .string s, .agg #[.int .i64 s.size, v1], .string s, .func (.func 69) #[] #[.pointer (some ⟨h1, 0, none⟩), .pointer (some ⟨h2, 0, none⟩)], .int .i64 (64 * ((x.val : Nat) : Int)), .agg (blkA (cutF s (64 * ((x.val : Nat) : Int)) 0)), undef, undef, undef, undef, undef, undef, undef, undef, undef, undef, undef, undef, undef, undef, undef], defers := [] })
    (fun x a' pre A B row hs hg hr => by
      obtain ⟨gb, h1, h2, h3⟩ := hs
      exact ⟨gb, h1, h2.kept hg (fun r e => (hr r e).2), h3⟩)
    ?assign ?body ?done ?stop
  case assign =>
    intro l pre x W K hI hK
    have HB := hI.hb
    have SZ := Aside0.mk hI.sz
    dsimp only [blkEnc]
    gi_wp2_with (first
      | ((with_reducible refine gate_dstIn (N := 5) rfl ?_); refine ev_allocIn HB rfl rfl (blkA fun _ => 0) 106 ?hr ?_; (case hr => (rw [← blkA_zero]; go_simp; rfl)); intro gb w8 G_gb GE_gb B_gb HBn K_gb KO_w8; clear HB; have HB := HBn; clear HBn)
      | ((with_reducible refine gate_In (Op.store 106 (.tmp 5) (.tmp 11)) rfl ?_); refine ev_storeIn HB B_gb GE_gb rfl 106 _ _ rfl rfl rfl (size64' _) (by rw [blkA_size, blkA_size]) (blkA_one _) ?_; intro w9 B9 HBn K_w9 KO_w9; clear HB; have HB := HBn; clear HBn))
    have hKO := KO_w8.out.trans KO_w9.out
    refine hK _ _ (hKO.from _) ?_ ?_ ⟨gb, Nat.le_trans SZ.out G_gb.out, B9, rfl⟩
    · exact (Keep2.below K_gb.out (by have := SZ.out; omega) (by have := SZ.out; omega)).trans (Keep2.other K_w9 (by have := SZ.out; have := G_gb.out; omega) (by have := SZ.out; have := G_gb.out; omega))
    · have N : ∀ g, g < w7.heap.size → g ≠ gb := fun g h => by have := SZ.out; have := G_gb.out; omega
      exact ⟨(hI.bs.below K_gb.out).other K_w9 (fun b m => N _ (PL.out.1 b m)), row_other (row_below hI.row K_gb.out) B_gb (by decide) K_w9, HB, Nat.le_trans SZ.out (Nat.le_trans K_gb.out.size K_w9.out.1)⟩
  case body =>
    rintro l pre x a' W hl ⟨r, hr⟩ hI ⟨gb, hgb, BX, rfl⟩ hlt
    clear hr hlt
    obtain ⟨hrl, (⟨_, hn0⟩ | ⟨g, cap, cur, rfl, hbg, BG, hnc, hcm, hcs, HA⟩)⟩ := row_open hI.row
    · have := x.isLt; omega
    obtain ⟨old, hold⟩ : ∃ old, old = (foldM s pre).getD x.val 0 := ⟨_, rfl⟩
    obtain ⟨A, hA⟩ : ∃ A, A = iv (word fun j => decide (cutF s (64 * ((x.val : Nat) : Int)) 0 j = 34)) := ⟨_, rfl⟩
    have hget : ((foldM s pre).map (Value.int .u64))[x.val]? = some (.int .u64 old) := by
      have hl : x.val < (foldM s pre).length := by rw [foldM_length]; exact x.isLt
      rw [List.getElem?_map, hold, List.getD_eq_getElem?_getD, List.getElem?_eq_getElem hl]
      rfl
    have EQ : Aside0 (∀ w, Calls Tryd.prog 61 #[.agg (blkA (cutF s (64 * ((x.val : Nat) : Int)) 0)), .int .u8 34] w fun e w' => e = .returned (.int .u64 A) ∧ Below w.heap.size w w') := ⟨fun w => by
      rw [hA]
      exact block_Equal.calls _ (fun i => cutF_range s _ 0 (by decide) i) 34 (by decide) (by decide) w⟩
    have HG := Aside0.mk (HA.get hget)
    have HXI := Aside0.mk (show x.val < cur.size by have := x.isLt; omega)
    have HN := Aside0.mk (And.intro hrl (And.intro hbg (And.intro hnc (And.intro hcm hcs))))
    have HAA := Aside0.mk HA
    have HOA := Aside0.mk (And.intro hold hA)
    have hq1 : 64 * ((x.val : Nat) : Int) / 64 = ((x.val : Nat) : Int) := by omega
    have hq2 : Int.tdiv (64 * ((x.val : Nat) : Int)) 64 = ((x.val : Nat) : Int) := by rw [Int.tdiv_eq_ediv_of_nonneg (by omega)]; omega
    have hq3 : (0 : Int) ≤ ((x.val : Nat) : Int) := by omega
    have hq4 : ((x.val : Nat) : Int) < ((nwords s.size : Nat) : Int) := by have := x.isLt; omega
    have hq5 : ((x.val : Nat) : Int) ≤ 4398046511104 := by have := x.isLt; unfold nwords at this; omega
    have hq6 : IntKind.i64.wrap ((x.val : Nat) : Int) = ((x.val : Nat) : Int) := by rw [i64_w]; unfold wrap64; omega
    have hbd : Aside0 (Below W.heap.size W W.drew) := ⟨below_drew (Below.refl _ _)⟩
    have HI := Aside0.mk hI
    have I' := hI.below hbd.out
    have BX' := BX.below hbd.out
    have BG' := BG.below hbd.out
    have KO' := Aside0.mk (keepsOthers_below hbd.out)
    have HZ' := Aside0.mk hbd.out.size
    clear hrl hbg BG hnc hcm hcs HA hold hA hget BX hI
    gi_upto_region 5 with (fail)
    refine wpIn_region_last_drew HF (S := fun W' => Blk W' g3 #[.int .i64 s.size, .slice (some ⟨g, 0, none⟩) (nwords s.size) cap] 95 ∧ Blk W' gb (blkA (cutF s (64 * ((x.val : Nat) : Int)) 0)) 106 ∧ Blk W' g cur 79) (ds := [14]) (by kernel_rfl) (by kernel_rfl) ⟨I'.bs.out _ PM.out.1, BX', BG'⟩ (fun hS => ?_)
    refine' wpAnyLast_take (i := 0) (oi := Oper.mk _ _ _ _ _ _) rfl (by kernel_rfl) (by kernel_rfl) (by kernel_rfl) (by kernel_rfl) (by kernel_rfl) (fun _ _ _ h => h) (Or.inl ⟨by rfl, ?hy1⟩) hS ?rest1
    case hy1 => (intro w hSw; (try dsimp only at hSw); first | (go_simp; done) | (go_simp; with_reducible rfl))
    try simp only [Act.put, List.setIfInBounds_toArray, List.set_cons_zero, List.set_cons_succ]
    refine wpAnyLast_take (i := 1) (oi := Oper.mk _ _ _ _ _ _) rfl (by kernel_rfl) (by kernel_rfl) (by kernel_rfl) (by kernel_rfl) (by kernel_rfl) (fun _ _ _ h => h) (rg_load1 (by rfl) (fun _ hS => hS.1.cell (i := 1) rfl) 93 _ rfl rfl (fun _ => by simp [isAgg, run_underlying Tryd.underlying93])) hS ?_
    try simp only [Act.put, List.setIfInBounds_toArray, List.set_cons_zero, List.set_cons_succ]
    refine' wpAnyLast_take (i := 2) (oi := Oper.mk _ _ _ _ _ _) rfl (by kernel_rfl) (by kernel_rfl) (by kernel_rfl) (by kernel_rfl) (by kernel_rfl) (fun _ _ _ h => h) (Or.inl ⟨by rfl, ?hy2⟩) hS ?rest2
    case hy2 => (intro w hSw; (try dsimp only at hSw); first | (go_simp; done) | (go_simp; with_reducible rfl))
    try simp only [Act.put, List.setIfInBounds_toArray, List.set_cons_zero, List.set_cons_succ]
    refine' wpAnyLast_take (i := 3) (oi := Oper.mk _ _ _ _ _ _) rfl (by kernel_rfl) (by kernel_rfl) (by kernel_rfl) (by kernel_rfl) (by kernel_rfl) (fun _ _ _ h => h) (Or.inl ⟨by rfl, ?hy3⟩) hS ?rest3
    case hy3 => (intro w hSw; (try dsimp only at hSw); first | (go_simp; done) | (go_simp; with_reducible rfl))
    try simp only [Act.put, List.setIfInBounds_toArray, List.set_cons_zero, List.set_cons_succ]
    refine wpAnyLast_take (i := 4) (oi := Oper.mk _ _ _ _ _ _) rfl (by kernel_rfl) (by kernel_rfl) (by kernel_rfl) (by kernel_rfl) (by kernel_rfl) (fun _ _ _ h => h) (rg_load (by rfl) (fun _ hS => hS.2.1) 106 _ rfl rfl Tryd.underlying106 rfl (size64' _)) hS ?_
    try simp only [Act.put, List.setIfInBounds_toArray, List.set_cons_zero, List.set_cons_succ]
    refine' wpAnyLast_take (i := 6) (oi := Oper.mk _ _ _ _ _ _) rfl (by kernel_rfl) (by kernel_rfl) (by kernel_rfl) (by kernel_rfl) (by kernel_rfl) (fun _ _ _ h => h) (Or.inl ⟨by rfl, ?hy4⟩) hS ?rest4
    case hy4 => (intro w hSw; (try dsimp only at hSw); first | (go_simp; done) | (go_simp; with_reducible rfl))
    try simp only [Act.put, List.setIfInBounds_toArray, List.set_cons_zero, List.set_cons_succ]
    refine wpAnyLast_take (i := 7) (oi := Oper.mk _ _ _ _ _ _) rfl (by kernel_rfl) (by kernel_rfl) (by kernel_rfl) (by kernel_rfl) (by kernel_rfl) (fun _ _ _ h => h) (rg_load1 (by rfl) (fun _ hS => hS.1.cell (i := 1) rfl) 93 _ rfl rfl (fun _ => by simp [isAgg, run_underlying Tryd.underlying93])) hS ?_
    try simp only [Act.put, List.setIfInBounds_toArray, List.set_cons_zero, List.set_cons_succ]
    refine' wpAnyLast_take (i := 8) (oi := Oper.mk _ _ _ _ _ _) rfl (by kernel_rfl) (by kernel_rfl) (by kernel_rfl) (by kernel_rfl) (by kernel_rfl) (fun _ _ _ h => h) (Or.inl ⟨by rfl, ?hy5⟩) hS ?rest5
    case hy5 => (intro w hSw; (try dsimp only at hSw); first | (go_simp; done) | (go_simp; with_reducible rfl))
    try simp only [Act.put, List.setIfInBounds_toArray, List.set_cons_zero, List.set_cons_succ]
    refine' wpAnyLast_take (i := 9) (oi := Oper.mk _ _ _ _ _ _) rfl (by kernel_rfl) (by kernel_rfl) (by kernel_rfl) (by kernel_rfl) (by kernel_rfl) (fun _ _ _ h => h) (Or.inl ⟨by rfl, ?hy6⟩) hS ?rest6
    case hy6 => (intro w hSw; (try dsimp only at hSw); first | (go_simp; done) | (go_simp; with_reducible rfl))
    try simp only [Act.put, List.setIfInBounds_toArray, List.set_cons_zero, List.set_cons_succ]
    refine' wpAnyLast_take (i := 10) (oi := Oper.mk _ _ _ _ _ _) rfl (by kernel_rfl) (by kernel_rfl) (by kernel_rfl) (by kernel_rfl) (by kernel_rfl) (fun _ _ _ h => h) (Or.inl ⟨by rfl, ?hy7⟩) hS ?rest7
    case hy7 => (intro w hSw; (try dsimp only at hSw); first | (go_simp; done) | (go_simp; with_reducible rfl))
    try simp only [Act.put, List.setIfInBounds_toArray, List.set_cons_zero, List.set_cons_succ]
    refine wpAnyLast_take (i := 11) (oi := Oper.mk _ _ _ _ _ _) rfl (by kernel_rfl) (by kernel_rfl) (by kernel_rfl) (by kernel_rfl) (by kernel_rfl) (fun _ _ _ h => h) (rg_load1 (by rfl) (fun _ hS => hS.2.2.cell HG.out) 79 _ rfl rfl (fun _ => by simp [isAgg, run_underlying Tryd.underlying79])) hS ?_
    try simp only [Act.put, List.setIfInBounds_toArray, List.set_cons_zero, List.set_cons_succ]
    refine wpAnyLast_ready (rs := [5]) (by kernel_rfl) (by simp) ?_
    refine AllReadyL.cons (o := Oper.mk _ _ _ _ _ _) rfl (by decide) (fun K hK => ?_) ?_
    · refine rg_call (by rfl) _ _ (.int .u64 A) (by first | (go_simp; done) | (go_simp; rfl)) (EQ.out _) ?_
      intro W' hb
      have I2 := I'.below hb.out
      have BX2 := BX'.below hb.out
      have BG2 := BG'.below hb.out
      have KO2 := Aside0.mk (KO'.out.trans (keepsOthers_below hb.out))
      have HZ2 := Aside0.mk (Nat.le_trans HZ'.out hb.out.size)
      clear I' BX' BG' KO' HZ'
      refine hK.out _ _ ⟨I2.bs.out _ PM.out.1, BX2, BG2⟩ (fun hS => ?_)
      clear hK K
      try simp only [Act.put, List.setIfInBounds_toArray, List.set_cons_zero, List.set_cons_succ]
      refine' wpAnyLast_take (i := 12) (oi := Oper.mk _ _ _ _ _ _) rfl (by kernel_rfl) (by kernel_rfl) (by kernel_rfl) (by kernel_rfl) (by kernel_rfl) (fun _ _ _ h => h) (Or.inl ⟨by rfl, ?hy8⟩) hS ?rest8
      case hy8 => (intro w hSw; (try dsimp only at hSw); first | (go_simp; done) | (go_simp; with_reducible rfl))
      try simp only [Act.put, List.setIfInBounds_toArray, List.set_cons_zero, List.set_cons_succ]
      refine' wpAnyLast_take (i := 13) (oi := Oper.mk _ _ _ _ _ _) rfl (by kernel_rfl) (by kernel_rfl) (by kernel_rfl) (by kernel_rfl) (by kernel_rfl) (fun _ _ _ h => h) (Or.inl ⟨by rfl, ?hy9⟩) hS ?rest9
      case hy9 => (intro w hSw; (try dsimp only at hSw); first | (go_simp; done) | (go_simp; with_reducible rfl))
      try simp only [Act.put, List.setIfInBounds_toArray, List.set_cons_zero, List.set_cons_succ]
      refine wpAnyLast_ready (rs := [14]) (by kernel_rfl) (by simp) ?_
      refine AllReadyL.cons_last (o := Oper.mk _ _ _ _ _ _) rfl (by decide) (fun K hK => ?_) ?_
      · refine rg_store1 I2.hb (by rfl) BG2 (Aside0.mk HN.out.2.1) 79 _ _ rfl rfl _ rfl HXI.out (by kernel_rfl) rfl ?_
        intro w3 B3 HB3 K3
        have E3 := I2.bs.other K3 (fun b m => (I2.bs.out b m).ne BG2 (PL.out.2 b m))
        have KO3 := Aside0.mk (KO2.out.trans (keepsOthers_other BG2 K3))
        have HZ3 := Aside0.mk (Nat.le_trans HZ2.out K3.out.1)
        refine hK.out _ _ ?_
        clear hK K
        try simp only [Act.put, List.setIfInBounds_toArray, List.set_cons_zero, List.set_cons_succ]
        refine wpAnyLast_done (by kernel_rfl) ?_ _
        refine Straight.normal ?_
        gi_wp2
        refine ⟨KO3.out.from _, Keep2.of_blk (HI.out.bs.out _ PM.out.2.2.1) (HI.out.bs.out _ PM.out.2.2.2) (E3.out _ PM.out.2.2.1) (E3.out _ PM.out.2.2.2) HZ3.out, E3, ?_, HB3, Nat.le_trans HI.out.sz HZ3.out⟩
        obtain ⟨hrl, hbg, hnc, hcm, hcs⟩ := HN.out
        obtain ⟨hold, hA⟩ := HOA.out
        refine row_shut hbg B3 hnc hcm (by rw [Array.size_setIfInBounds]; exact hcs) (by rw [List.length_map, foldM_length]) ?_
        rw [foldM_snoc]
        unfold stepM
        rw [List.map_set, ← hold, ← hA]
        exact HAA.out.set _ _
      exact AllReadyL.nil
    exact AllReadyL.nil
  case done =>
    rintro D ys W hD rfl hI hK
    have b3 := hI.bs.out _ PM.out.1
    have b2 := hI.bs.out _ PM.out.2.1
    have hrow := hI.row
    have HB := hI.hb
    have HD := Aside0.mk hD
    have HKD := Aside0.mk hK
    clear hK hD
    gi_wp2_with (first
      | ((with_reducible refine gate_dstIn (N := 26) rfl ?_); refine ev_loadSIn b3 rfl 95 _ rfl rfl Tryd.underlying95 rfl (by kernel_rfl) ?_)
      | ((with_reducible refine gate_In (Op.store 95 (.tmp 2) (.tmp 26)) rfl ?_); refine ev_storeIn HB b2 GE_g2 rfl 95 _ _ rfl rfl rfl (by kernel_rfl) rfl (by simp [Value.oneCell']; exact V1.out) ?_; intro w8 B8 HB8 K8 KO8))
    have HK8 := KO8.out.same D _ HKD.out rfl
    have hrow8 := row_other hrow b2 (by decide) K8
    have hg := grownBy_putObj' w8 D (.deferred none)
    have hr : ∀ r, some D = some r → ∃ o : Obj, w8.heap[r]? = some o ∧ o.isCells = false := fun r e => by
      cases e
      exact ⟨_, HK8, rfl⟩
    have hle : w.heap.size ≤ D := Nat.le_trans HBW.le HD.out
    refine ⟨by simp, .inl ⟨_, _, rfl, run_takeDeferred HK8, ?_⟩⟩
    refine ⟨_, results_cell_row rfl _ _ g2 95 _ (0, 0) _ rfl (B8.kept hg hr).out Tryd.underlying95 rfl (by kernel_rfl), v1, rfl, ?_, (HB8.kept hg hle (fun r e => by cases e; exact Nat.le_refl _)).out⟩
    have h1 := row_kept hrow8 hg hr
    rw [foldM_all] at h1
    exact h1
  case stop =>
    rintro D c pre W _ _ h _
    exact h.elim
theorem quotes_Marks.calls (a0 : ByteArray) (r1 : Int) (r2 : List Int) (w : World) (h : quotes_Marks.f a0 = some (r1, r2)) :
    Calls Tryd.prog 47 #[.string a0] w fun e w' => ∃ v1_ : Value, e = .returned (.agg #[.int .i64 r1, v1_]) ∧ Kd.R (Kd.int .u64) 79 w' w.heap.size (fun _ => True) v1_ r2 ∧ Below w.heap.size w w' := by
  unfold quotes_Marks.f at h
  by_cases hs : a0.size ≤ 281474976702464
  case neg => rw [if_neg hs] at h; cases h
  rw [if_pos hs] at h
  simp only [Option.some.injEq, Prod.mk.injEq] at h
  obtain ⟨rfl, rfl⟩ := h
  refine (quotes_Marks.walk a0 w hs).mono ?_
  rintro e w' ⟨v, rfl, hrow, hb⟩
  refine ⟨v, rfl, Kd.R_of_own ?_ (fun _ _ => trivial), hb⟩
  rw [wordsOf_length]
  exact hrow
end


section
open Go.Proofs.YtfihkkjkifkemaaDoorQ Go.Proofs.YtfihkkjkifkemaaDoorM
set_option maxHeartbeats 1000000 in
set_option maxRecDepth 100000 in
theorem words_Prefix.bits_ (q : Nat → Bool) (w : World) :
    Calls Tryd.prog 76 #[.int .u64 (iv (word q))] w fun e w' => e = .returned (.int .u64 (iv (word (px q 64)))) ∧ w' = w := by
  go_enter Tryd.func76, Tryd.ntmps76
  go_wp2
  go_loop [0, 3] (fun v0 v3 => ∃ e : Nat, e ≤ 6 ∧ v3 = .int .i64 ((2 ^ e : Nat) : Int) ∧ v0 = .int .u64 (iv (word (px q (2 ^ e))))) (fun _ v3 => 64 - (intOf v3).toNat)
  case atStart => exact ⟨0, by decide, rfl, by rw [show (2 ^ 0 : Nat) = 1 from rfl, px_start]⟩
  case round =>
    obtain ⟨e, he, rfl, rfl⟩ := hrel
    rcases (by omega : e = 0 ∨ e = 1 ∨ e = 2 ∨ e = 3 ∨ e = 4 ∨ e = 5 ∨ e = 6) with rfl | rfl | rfl | rfl | rfl | rfl | rfl
    · obtain ⟨x, hx⟩ : ∃ x, x = iv (word (px q 1)) := ⟨_, rfl⟩
      have ST := Aside0.mk (px_step q 1 (by decide) 2 (by decide))
      rw [← hx] at ST
      rw [show iv (word (px q (2 ^ 0))) = x by rw [hx]]
      clear hx
      go_wp2
      go_round
      case rel => exact ⟨1, by decide, rfl, congrArg (Value.int .u64) ST.out⟩
      case measure => decide
    · obtain ⟨x, hx⟩ : ∃ x, x = iv (word (px q 2)) := ⟨_, rfl⟩
      have ST := Aside0.mk (px_step q 2 (by decide) 4 (by decide))
      rw [← hx] at ST
      rw [show iv (word (px q (2 ^ 1))) = x by rw [hx]]
      clear hx
      go_wp2
      go_round
      case rel => exact ⟨2, by decide, rfl, congrArg (Value.int .u64) ST.out⟩
      case measure => decide
    · obtain ⟨x, hx⟩ : ∃ x, x = iv (word (px q 4)) := ⟨_, rfl⟩
      have ST := Aside0.mk (px_step q 4 (by decide) 16 (by decide))
      rw [← hx] at ST
      rw [show iv (word (px q (2 ^ 2))) = x by rw [hx]]
      clear hx
      go_wp2
      go_round
      case rel => exact ⟨3, by decide, rfl, congrArg (Value.int .u64) ST.out⟩
      case measure => decide
    · obtain ⟨x, hx⟩ : ∃ x, x = iv (word (px q 8)) := ⟨_, rfl⟩
      have ST := Aside0.mk (px_step q 8 (by decide) 256 (by decide))
      rw [← hx] at ST
      rw [show iv (word (px q (2 ^ 3))) = x by rw [hx]]
      clear hx
      go_wp2
      go_round
      case rel => exact ⟨4, by decide, rfl, congrArg (Value.int .u64) ST.out⟩
      case measure => decide
    · obtain ⟨x, hx⟩ : ∃ x, x = iv (word (px q 16)) := ⟨_, rfl⟩
      have ST := Aside0.mk (px_step q 16 (by decide) 65536 (by decide))
      rw [← hx] at ST
      rw [show iv (word (px q (2 ^ 4))) = x by rw [hx]]
      clear hx
      go_wp2
      go_round
      case rel => exact ⟨5, by decide, rfl, congrArg (Value.int .u64) ST.out⟩
      case measure => decide
    · obtain ⟨x, hx⟩ : ∃ x, x = iv (word (px q 32)) := ⟨_, rfl⟩
      have ST := Aside0.mk (px_step q 32 (by decide) 4294967296 (by decide))
      rw [← hx] at ST
      rw [show iv (word (px q (2 ^ 5))) = x by rw [hx]]
      clear hx
      go_wp2
      go_round
      case rel => exact ⟨6, by decide, rfl, congrArg (Value.int .u64) ST.out⟩
      case measure => decide
    · go_wp2
      go_ret
      exact ⟨rfl, rfl⟩
def words_Prefix.f (a0 : Int) : Option Int := if 0 ≤ a0 ∧ a0 < 18446744073709551616 then some (iv (word (px (fun j => a0.toNat.testBit j) 64))) else none
theorem words_Prefix.calls (a0 r : Int) (w : World) (h : words_Prefix.f a0 = some r) :
    Calls Tryd.prog 76 #[.int .u64 a0] w fun e w' => e = .returned (.int .u64 r) ∧ Below w.heap.size w w' := by
  unfold words_Prefix.f at h
  by_cases hs : 0 ≤ a0 ∧ a0 < 18446744073709551616
  case neg => rw [if_neg hs] at h; cases h
  rw [if_pos hs] at h
  simp only [Option.some.injEq] at h
  subst h
  obtain ⟨v, rfl⟩ := iv_of hs.1 hs.2
  have hv : iv v = iv (word fun j => (iv v).toNat.testBit j) := congrArg iv (eq_word fun i _ => rfl)
  have e := words_Prefix.bits_ (fun j => (iv v).toNat.testBit j) w
  rw [← hv] at e
  refine e.mono ?_
  rintro e w' ⟨rfl, rfl⟩
  exact ⟨rfl, Below.refl _ _⟩
end


section
open Go.Proofs.YtfihkkjkifkemaaDoorQ Go.Proofs.YtfihkkjkifkemaaDoorM
theorem turned_cell {w : World} {gc : Nat} {u : Value} {t : TypeId} (B : Blk w gc #[u] t) (n : Nat) (v : Value) : Blk ((w.drewN n).setCell ⟨gc, 0, none⟩ v) gc #[v] t ∧
    Aside0 (w.heap.size ≤ ((w.drewN n).setCell ⟨gc, 0, none⟩ v).heap.size ∧ ∀ k, k ≠ gc → ((w.drewN n).setCell ⟨gc, 0, none⟩ v).heap[k]? = w.heap[k]?) ∧ Aside0 (∀ b, b ≤ gc → Below b w ((w.drewN n).setCell ⟨gc, 0, none⟩ v)) :=
  ⟨(B.drewN n).set 0 v, ⟨by simp [World.setCell], fun k hk => Below.heap_setCell (w.drewN n) ⟨gc, 0, none⟩ v k hk⟩, ⟨fun b hb => (pw_below_drewN (Below.refl b w) n).setCell hb _⟩⟩
set_option maxHeartbeats 1000000 in
set_option maxRecDepth 100000 in
/-- 'inside' of a carry in a block of its own: the state turns, and nothing else. -/
theorem quotes_carry_inside.turns (q : Nat → Bool) (o : Bool) (gc : Nat) (w : World) (B : Blk w gc #[.int .u64 (iv (openW o))] 114) :
    Calls Tryd.prog 65 #[.pointer (some ⟨gc, 0, none⟩), .int .u64 (iv (word q))] w fun e w' => e = .returned (.int .u64 (iv (word fun j => par q (j + 1) ^^ o))) ∧
      Blk w' gc #[.int .u64 (iv (openW (par q 64 ^^ o)))] 114 ∧ Aside0 (w.heap.size ≤ w'.heap.size ∧ ∀ k, k ≠ gc → w'.heap[k]? = w.heap[k]?) ∧ Aside0 (∀ b, b ≤ gc → Below b w w') := by
  have c := B.cell (i := 0) rfl
  have fz := B.frozen 0
  obtain ⟨z, hz⟩ : ∃ z, z = iv (openW o) := ⟨_, rfl⟩
  obtain ⟨x, hx⟩ : ∃ x, x = iv (word q) := ⟨_, rfl⟩
  obtain ⟨y, hy⟩ : ∃ y, y = iv (word (px q 64)) := ⟨_, rfl⟩
  obtain ⟨r, hr⟩ : ∃ r, r = iv (word fun j => par q (j + 1) ^^ o) := ⟨_, rfl⟩
  have PF : Aside0 (∀ w, Calls Tryd.prog 76 #[.int .u64 x] w fun e w' => e = .returned (.int .u64 y) ∧ w' = w) := ⟨fun w => by rw [hx, hy]; exact words_Prefix.bits_ q w⟩
  have RV : bits .xor .u64 y z = r := by rw [hy, hz, hr]; exact in_word q o
  have TV : Aside0 (IntKind.u64.wrap (-(r / 9223372036854775808)) = iv (openW (par q 64 ^^ o))) := ⟨by rw [hr]; exact turn_word fun j => par q (j + 1) ^^ o⟩
  rw [← hz] at c
  rw [← hx, ← hr]
  have BB := Aside0.mk B
  clear B hz hx hy hr
  go_enter Tryd.func65, Tryd.ntmps65
  go_wp2
  go_quiet ((go_at_call 76; exact Calls.quiet_of_same (PF.out _)))
  go_wp2
  rw [TV.out]
  go_ret
  exact ⟨rfl, turned_cell BB.out _ _⟩
end


section
open Go.Proofs.YtfihkkjkifkemaaDoorQ Go.Proofs.YtfihkkjkifkemaaDoorM
set_option maxHeartbeats 4000000 in
set_option maxRecDepth 100000 in
/-- 'each' of a row that the caller owns, by a carry of the caller's. -/
theorem quotes_each.turns (n : Nat) (hn : n ≤ 281474976702464) (q : Nat → Bool) (gc base : Nat) (v : Value) (w0 w : World) (H0 : BelowH w0 w) (Bc : Blk w gc #[.int .u64 (iv (openW false))] 114) (hgc : w0.heap.size ≤ gc) (hbase : w0.heap.size ≤ base)
    (hrow : w.ownsRow base 79 1 v (nwords n) ((wordsOf n q).map (Value.int .u64))) :
    Calls Tryd.prog 64 #[.agg #[.int .i64 (n : Int), v], .func (.func 65) #[.pointer (some ⟨gc, 0, none⟩)] #[]] w fun e w' => e = .returned (.agg #[.int .i64 (n : Int), v]) ∧
      w'.ownsRow base 79 1 v (nwords n) ((wordsOf n (insq q)).map (Value.int .u64)) ∧ BelowH w0 w' := by
  have V1 := Aside0.mk (row_one hrow)
  obtain ⟨ad, cp, rfl⟩ := own_slice hrow
  have HB := H0
  clear H0
  have HGC := Aside0.mk hgc
  have HBA := Aside0.mk hbase
  have HR := Aside0.mk hrow
  have LC := Bc.lt
  obtain ⟨nw, hnw⟩ : ∃ nw, nw = nwords n := ⟨_, rfl⟩
  have HNW := Aside0.mk hnw
  have hnb : (nw : Int) ≤ 4398046511104 := by rw [hnw]; unfold nwords; omega
  clear hgc hbase hrow
  rw [← hnw] at HR ⊢
  rw [← hnw] at V1
  clear hnw
  go_enter Tryd.func64, Tryd.ntmps64
  go_upto_region 1 with (first
    | ((with_reducible refine gate_dst (N := 2) rfl ?_); refine ev_alloc HB rfl (#[.int .i64 (n : Int), .slice ad nw cp]) 95 ?hr ?_; (case hr => first | (go_simp; done) | (go_simp; rfl)); intro g2 w2 G_g2 GE_g2 B_g2 HBn K_g2; clear HB; have HB := HBn; clear HBn)
    | ((with_reducible refine gate_dst (N := 4) rfl ?_); refine ev_alloc HB rfl (#[.int .i64 0, .slice none 0 0]) 95 ?hr ?_; (case hr => first | (go_simp; done) | (go_simp; rfl)); intro g4 w4 G_g4 GE_g4 B_g4 HBn K_g4; clear HB; have HB := HBn; clear HBn))
  have Bc4 := (Bc.below K_g2.out).below K_g4.out
  have B24 := B_g2.below K_g4.out
  have R4 := Aside0.mk (row_below (row_below HR.out K_g2.out) K_g4.out)
  have N24 := Aside0.mk (show gc < g2 ∧ g2 < g4 by have := G_g2.out; have := B_g2.lt; have := G_g4.out; omega)
  have c20 := B24.cell (i := 0) rfl
  have c21 := B24.cell (i := 1) rfl
  rw [← insL_zero] at R4
  have O4 := Aside0.mk (show Blk w4 gc #[.int .u64 (iv (openW (par (cutQ n q) (64 * 0))))] 114 from Bc4)
  clear HR Bc Bc4 B_g2 K_g2 K_g4 G_g2 G_g4 LC
  go_wp2
  go_loopw [11] (fun v11 wr => ∃ k : Nat, v11 = .int .i64 (k : Int) ∧ Aside0 (k ≤ nw) ∧ Aside0 (wr.ownsRow base 79 1 (.slice ad nw cp) nw ((insL n q k).map (Value.int .u64))) ∧ Aside0 (Blk wr gc #[.int .u64 (iv (openW (par (cutQ n q) (64 * k))))] 114) ∧
      Blk wr g2 #[.int .i64 (n : Int), .slice ad nw cp] 95 ∧ Blk wr g4 #[.int .i64 0, .slice none 0 0] 95 ∧ BelowH w0 wr) (fun v11 _ => nw - (intOf v11).toNat)
  case atStart => exact ⟨0, rfl, ⟨Nat.zero_le _⟩, R4, O4, B24, B_g4, HB⟩
  case round =>
    clear R4 O4 B24 B_g4 HB c20 c21
    obtain ⟨k, rfl, HK, R, O, B2, B4, HB⟩ := hrel
    by_cases hlt : k < nw
    · have HLT := Aside0.mk hlt
      obtain ⟨hrl, (⟨_, hn0⟩ | ⟨g, cap, cur, he, hbg, BG, hnc, hcm, hcs, HA⟩)⟩ := row_open R.out
      · omega
      injection he with he1 he2 he3
      subst he1
      subst he3
      clear he2
      have hget : ((insL n q k).map (Value.int .u64))[k]? = some (.int .u64 (iv (wordAt n q k))) := by
        rw [List.getElem?_map, insL_at n q (by rw [← HNW.out]; exact hlt)]
        rfl
      obtain ⟨x, hx⟩ : ∃ x, x = iv (wordAt n q k) := ⟨_, rfl⟩
      obtain ⟨y, hy⟩ : ∃ y, y = iv (word fun j => par (fun i => cutQ n q (64 * k + i)) (j + 1) ^^ par (cutQ n q) (64 * k)) := ⟨_, rfl⟩
      rw [← hx] at hget
      have HG := Aside0.mk (HA.get hget)
      have IN : Aside0 (∀ W, Blk W gc #[.int .u64 (iv (openW (par (cutQ n q) (64 * k))))] 114 → Calls Tryd.prog 65 #[.pointer (some ⟨gc, 0, none⟩), .int .u64 x] W fun e w' => e = .returned (.int .u64 y) ∧
          (Blk w' gc #[.int .u64 (iv (openW (par (cutQ n q) (64 * (k + 1)))))] 114 ∧ Aside0 (W.heap.size ≤ w'.heap.size ∧ ∀ k, k ≠ gc → w'.heap[k]? = W.heap[k]?) ∧ Aside0 (∀ b, b ≤ gc → Below b W w'))) := ⟨fun W B => by
        have h := quotes_carry_inside.turns (fun i => cutQ n q (64 * k + i)) (par (cutQ n q) (64 * k)) gc W B
        rw [par_next] at h
        rw [hx, hy]
        exact h⟩
      have HXY := Aside0.mk (And.intro hx hy)
      have HN := Aside0.mk (And.intro hrl (And.intro hbg (And.intro hnc (And.intro hcm hcs))))
      have HAA := Aside0.mk HA
      have cw := BG.cell (HA.get hget)
      have c20 := B2.cell (i := 0) rfl
      have c21 := B2.cell (i := 1) rfl
      have hq1 : (k : Int) < (nw : Int) := by omega
      have hq2 : (0 : Int) ≤ (k : Int) := by omega
      have hq6 : IntKind.i64.wrap (k : Int) = (k : Int) := by rw [i64_w]; unfold wrap64; omega
      have hbd : Aside0 (Below wr.heap.size wr wr.drew) := ⟨below_drew (Below.refl _ _)⟩
      have BG' := BG.below hbd.out
      have B2' := B2.below hbd.out
      have B4' := B4.below hbd.out
      have O' := Aside0.mk (O.out.below hbd.out)
      have HB' := HB.step hbd.out
      clear hx hy hrl hbg hnc hcm hcs HA hget R hlt
      go_upto_region 4 with (fail)
      clear cw c20 c21 BG B2 B4 O HB hbd
      refine wp_region_noPanic ?_
      refine wp_region_last_drew (S := fun W' => Blk W' g2 #[.int .i64 (n : Int), .slice (some ⟨g, 0, none⟩) nw cp] 95) (ds := [7]) (by kernel_rfl) B2' (fun hS => ?_)
      refine' wpAnyLast_take (i := 0) (oi := Oper.mk _ _ _ _ _ _) rfl (by kernel_rfl) (by kernel_rfl) (by kernel_rfl) (by kernel_rfl) (by kernel_rfl) (fun _ _ _ h => h) (Or.inl ⟨by rfl, ?hy1⟩) hS ?rest1
      case hy1 => (intro w hSw; (try dsimp only at hSw); first | (go_simp; done) | (go_simp; with_reducible rfl))
      try simp only [Act.put, List.setIfInBounds_toArray, List.set_cons_zero, List.set_cons_succ]
      refine wpAnyLast_take (i := 1) (oi := Oper.mk _ _ _ _ _ _) rfl (by kernel_rfl) (by kernel_rfl) (by kernel_rfl) (by kernel_rfl) (by kernel_rfl) (fun _ _ _ h => h) (rg_load1 (by rfl) (fun _ hS => hS.cell (i := 1) rfl) 93 _ rfl rfl (fun _ => by simp [isAgg, run_underlying Tryd.underlying93])) hS ?_
      try simp only [Act.put, List.setIfInBounds_toArray, List.set_cons_zero, List.set_cons_succ]
      refine' wpAnyLast_take (i := 2) (oi := Oper.mk _ _ _ _ _ _) rfl (by kernel_rfl) (by kernel_rfl) (by kernel_rfl) (by kernel_rfl) (by kernel_rfl) (fun _ _ _ h => h) (Or.inl ⟨by rfl, ?hy2⟩) hS ?rest2
      case hy2 => (intro w hSw; (try dsimp only at hSw); first | (go_simp; done) | (go_simp; with_reducible rfl))
      try simp only [Act.put, List.setIfInBounds_toArray, List.set_cons_zero, List.set_cons_succ]
      refine' wpAnyLast_take (i := 3) (oi := Oper.mk _ _ _ _ _ _) rfl (by kernel_rfl) (by kernel_rfl) (by kernel_rfl) (by kernel_rfl) (by kernel_rfl) (fun _ _ _ h => h) (Or.inl ⟨by rfl, ?hy3⟩) hS ?rest3
      case hy3 => (intro w hSw; (try dsimp only at hSw); first | (go_simp; done) | (go_simp; with_reducible rfl))
      try simp only [Act.put, List.setIfInBounds_toArray, List.set_cons_zero, List.set_cons_succ]
      refine' wpAnyLast_take (i := 4) (oi := Oper.mk _ _ _ _ _ _) rfl (by kernel_rfl) (by kernel_rfl) (by kernel_rfl) (by kernel_rfl) (by kernel_rfl) (fun _ _ _ h => h) (Or.inl ⟨by rfl, ?hy4⟩) hS ?rest4
      case hy4 => (intro w hSw; (try dsimp only at hSw); first | (go_simp; done) | (go_simp; with_reducible rfl))
      try simp only [Act.put, List.setIfInBounds_toArray, List.set_cons_zero, List.set_cons_succ]
      refine wpAnyLast_ready (rs := [5]) (by kernel_rfl) (by simp) ?_
      refine AllReadyL.cons (o := Oper.mk _ _ _ _ _ _) rfl (by decide) (fun K hK => ?_) ?_
      · refine rg_callP (by rfl) _ _ (.int .u64 y) (by first | (go_simp; done) | (go_simp; rfl)) (IN.out _ O'.out) ?_
        intro W2 hP
        obtain ⟨O2, K2, LO2⟩ := hP.out
        have N2c : g2 ≠ gc := by have := N24.out; omega
        have N4c : g4 ≠ gc := by have := N24.out; omega
        have B22 := B2'.other K2 N2c
        have B42 := B4'.other K2 N4c
        have Ngc : g ≠ gc := Ne.symm (O'.out.ne BG' (by decide))
        have BG2 := BG'.other K2 Ngc
        have HB2 : BelowH w0 W2 := ⟨HB'.out.trans (LO2.out _ HGC.out)⟩
        refine hK.out _ _ B22 (fun hS => ?_)
        clear hK K O' B2' B4' BG' HB' hP K2 LO2
        try simp only [Act.put, List.setIfInBounds_toArray, List.set_cons_zero, List.set_cons_succ]
        refine' wpAnyLast_take (i := 6) (oi := Oper.mk _ _ _ _ _ _) rfl (by kernel_rfl) (by kernel_rfl) (by kernel_rfl) (by kernel_rfl) (by kernel_rfl) (fun _ _ _ h => h) (Or.inl ⟨by rfl, ?hy5⟩) hS ?rest5
        case hy5 => (intro w hSw; (try dsimp only at hSw); first | (go_simp; done) | (go_simp; with_reducible rfl))
        try simp only [Act.put, List.setIfInBounds_toArray, List.set_cons_zero, List.set_cons_succ]
        refine wpAnyLast_ready (rs := [7]) (by kernel_rfl) (by simp) ?_
        refine AllReadyL.cons_last (o := Oper.mk _ _ _ _ _ _) rfl (by decide) (fun K hK => ?_) ?_
        · refine rg_store1 HB2 (by rfl) BG2 (Aside0.mk (Nat.le_trans HBA.out HN.out.2.1)) 79 _ _ rfl rfl _ rfl (by have := HLT.out; have := HN.out; omega) (by kernel_rfl) rfl ?_
          intro w3 B3 HB3 K3
          have B23 := B22.other K3 (B22.ne BG2 (by decide))
          have B43 := B42.other K3 (B42.ne BG2 (by decide))
          have O3 := O2.other K3 (Ne.symm Ngc)
          refine hK.out _ _ ?_
          clear hK K
          try simp only [Act.put, List.setIfInBounds_toArray, List.set_cons_zero, List.set_cons_succ]
          refine wpAnyLast_done (by kernel_rfl) ?_ _
          refine NoPanic.normal ?_
          go_wp2
          go_roundw
          case rel =>
            refine ⟨k + 1, by go_num, ⟨by have := HLT.out; omega⟩, ⟨?_⟩, ⟨O3⟩, B23, B43, HB3⟩
            obtain ⟨hrl, hbg, hnc, hcm, hcs⟩ := HN.out
            refine row_shut hbg B3 hnc hcm (by rw [Array.size_setIfInBounds]; exact hcs) (by rw [List.length_map, insL_length, HNW.out]) ?_
            rw [← insL_step n q (by rw [← HNW.out]; exact HLT.out) HXY.out.2, List.map_set]
            exact HAA.out.set _ _
          case measure => (simp [intOf]; have := HLT.out; omega)
        exact AllReadyL.nil
      exact AllReadyL.nil
    · obtain rfl : k = nw := by have := HK.out; omega
      have c20 := B2.cell (i := 0) rfl
      have c21 := B2.cell (i := 1) rfl
      obtain ⟨r, hr⟩ : ∃ r : Nat, r = n % 64 := ⟨_, rfl⟩
      have hm1 : (n : Int) % 64 = (r : Int) := by omega
      have hm2 : Int.tmod (n : Int) 64 = (r : Int) := by rw [Int.tmod_eq_emod_of_nonneg (by omega)]; omega
      have hm0 : (0 : Int) ≤ (n : Int) := by omega
      have HRR := Aside0.mk hr
      clear hlt
      by_cases h0 : 0 < r
      · have h1 : decide ((0 : Int) < (r : Int)) = true := decide_eq_true (by omega)
        have h2 : decide (0 < r) = true := decide_eq_true h0
        have H0 := Aside0.mk h0
        have hk0 : 0 < k := by have e1 := HNW.out; have e2 := HRR.out; unfold nwords at e1; omega
        obtain ⟨hrl, (⟨_, hn0⟩ | ⟨g, cap, cur, he, hbg, BG, hnc, hcm, hcs, HA⟩)⟩ := row_open R.out
        · omega
        injection he with he1 he2 he3
        subst he1
        subst he3
        clear he2
        obtain ⟨m, hm⟩ : ∃ m : Nat, m = k - 1 := ⟨_, rfl⟩
        obtain ⟨x, hx⟩ : ∃ x, x = (insL n q (nwords n)).getD (nwords n - 1) 0 := ⟨_, rfl⟩
        have hget : ((insL n q k).map (Value.int .u64))[m]? = some (.int .u64 x) := by
          have hl : m < (insL n q k).length := by rw [insL_length, ← HNW.out]; omega
          rw [hx, ← HNW.out, ← hm, List.getElem?_map, List.getD_eq_getElem?_getD, List.getElem?_eq_getElem hl]
          rfl
        have HG := Aside0.mk (HA.get hget)
        have HX := Aside0.mk hx
        have HM := Aside0.mk hm
        have HMC := Aside0.mk (show m < cur.size by omega)
        have HN := Aside0.mk (And.intro hrl (And.intro hbg (And.intro hnc (And.intro hcm hcs))))
        have HAA := Aside0.mk HA
        have hq1 : (m : Int) < (k : Int) := by omega
        have hq2 : (0 : Int) ≤ (m : Int) := by omega
        have hq3 : IntKind.i64.wrap (m : Int) = (m : Int) := by rw [i64_w]; unfold wrap64; omega
        have hq4 : IntKind.i64.wrap ((k : Int) - 1) = (m : Int) := by rw [i64_w]; unfold wrap64; omega
        have hq5 : (r : Int) < 64 := by omega
        have hq6 : (0 : Int) ≤ (r : Int) := by omega
        have hbd : Aside0 (Below wr.heap.size wr wr.drew) := ⟨below_drew (Below.refl _ _)⟩
        have BG' := BG.below hbd.out
        have B2' := B2.below hbd.out
        have B4' := B4.below hbd.out
        have HB' := HB.step hbd.out
        clear hr h0 hk0 hrl hbg hnc hcm hcs HA hget hx hm R
        go_upto_region 8 with (fail)
        clear c20 c21 BG B2 B4 O HB hbd h1 h2 hm1 hm2
        refine wp_region_noPanic ?_
        refine wp_region_last_drew (S := fun W' => Blk W' g2 #[.int .i64 (n : Int), .slice (some ⟨g, 0, none⟩) k cp] 95 ∧ Blk W' g cur 79) (ds := [13]) (by kernel_rfl) ⟨B2', BG'⟩ (fun hS => ?_)
        refine' wpAnyLast_take (i := 0) (oi := Oper.mk _ _ _ _ _ _) rfl (by kernel_rfl) (by kernel_rfl) (by kernel_rfl) (by kernel_rfl) (by kernel_rfl) (fun _ _ _ h => h) (Or.inl ⟨by rfl, ?hy6⟩) hS ?rest6
        case hy6 => (intro w hSw; (try dsimp only at hSw); first | (go_simp; done) | (go_simp; with_reducible rfl))
        try simp only [Act.put, List.setIfInBounds_toArray, List.set_cons_zero, List.set_cons_succ]
        refine wpAnyLast_take (i := 1) (oi := Oper.mk _ _ _ _ _ _) rfl (by kernel_rfl) (by kernel_rfl) (by kernel_rfl) (by kernel_rfl) (by kernel_rfl) (fun _ _ _ h => h) (rg_load1 (by rfl) (fun _ hS => hS.1.cell (i := 1) rfl) 93 _ rfl rfl (fun _ => by simp [isAgg, run_underlying Tryd.underlying93])) hS ?_
        try simp only [Act.put, List.setIfInBounds_toArray, List.set_cons_zero, List.set_cons_succ]
        refine' wpAnyLast_take (i := 2) (oi := Oper.mk _ _ _ _ _ _) rfl (by kernel_rfl) (by kernel_rfl) (by kernel_rfl) (by kernel_rfl) (by kernel_rfl) (fun _ _ _ h => h) (Or.inl ⟨by rfl, ?hy7⟩) hS ?rest7
        case hy7 => (intro w hSw; (try dsimp only at hSw); first | (go_simp; done) | (go_simp; with_reducible rfl))
        try simp only [Act.put, List.setIfInBounds_toArray, List.set_cons_zero, List.set_cons_succ]
        refine wpAnyLast_take (i := 3) (oi := Oper.mk _ _ _ _ _ _) rfl (by kernel_rfl) (by kernel_rfl) (by kernel_rfl) (by kernel_rfl) (by kernel_rfl) (fun _ _ _ h => h) (rg_load1 (by rfl) (fun _ hS => hS.1.cell (i := 1) rfl) 93 _ rfl rfl (fun _ => by simp [isAgg, run_underlying Tryd.underlying93])) hS ?_
        try simp only [Act.put, List.setIfInBounds_toArray, List.set_cons_zero, List.set_cons_succ]
        refine' wpAnyLast_take (i := 4) (oi := Oper.mk _ _ _ _ _ _) rfl (by kernel_rfl) (by kernel_rfl) (by kernel_rfl) (by kernel_rfl) (by kernel_rfl) (fun _ _ _ h => h) (Or.inl ⟨by rfl, ?hy8⟩) hS ?rest8
        case hy8 => (intro w hSw; (try dsimp only at hSw); first | (go_simp; done) | (go_simp; with_reducible rfl))
        try simp only [Act.put, List.setIfInBounds_toArray, List.set_cons_zero, List.set_cons_succ]
        refine' wpAnyLast_take (i := 5) (oi := Oper.mk _ _ _ _ _ _) rfl (by kernel_rfl) (by kernel_rfl) (by kernel_rfl) (by kernel_rfl) (by kernel_rfl) (fun _ _ _ h => h) (Or.inl ⟨by rfl, ?hy9⟩) hS ?rest9
        case hy9 => (intro w hSw; (try dsimp only at hSw); first | (go_simp; done) | (go_simp; with_reducible rfl))
        try simp only [Act.put, List.setIfInBounds_toArray, List.set_cons_zero, List.set_cons_succ]
        refine' wpAnyLast_take (i := 6) (oi := Oper.mk _ _ _ _ _ _) rfl (by kernel_rfl) (by kernel_rfl) (by kernel_rfl) (by kernel_rfl) (by kernel_rfl) (fun _ _ _ h => h) (Or.inl ⟨by rfl, ?hy10⟩) hS ?rest10
        case hy10 => (intro w hSw; (try dsimp only at hSw); first | (go_simp; done) | (go_simp; with_reducible rfl))
        try simp only [Act.put, List.setIfInBounds_toArray, List.set_cons_zero, List.set_cons_succ]
        refine wpAnyLast_take (i := 7) (oi := Oper.mk _ _ _ _ _ _) rfl (by kernel_rfl) (by kernel_rfl) (by kernel_rfl) (by kernel_rfl) (by kernel_rfl) (fun _ _ _ h => h) (rg_load1 (by rfl) (fun _ hS => hS.2.cell HG.out) 79 _ rfl rfl (fun _ => by simp [isAgg, run_underlying Tryd.underlying79])) hS ?_
        try simp only [Act.put, List.setIfInBounds_toArray, List.set_cons_zero, List.set_cons_succ]
        refine' wpAnyLast_take (i := 8) (oi := Oper.mk _ _ _ _ _ _) rfl (by kernel_rfl) (by kernel_rfl) (by kernel_rfl) (by kernel_rfl) (by kernel_rfl) (fun _ _ _ h => h) (Or.inl ⟨by rfl, ?hy11⟩) hS ?rest11
        case hy11 => (intro w hSw; (try dsimp only at hSw); first | (go_simp; done) | (go_simp; with_reducible rfl))
        try simp only [Act.put, List.setIfInBounds_toArray, List.set_cons_zero, List.set_cons_succ]
        refine' wpAnyLast_take (i := 9) (oi := Oper.mk _ _ _ _ _ _) rfl (by kernel_rfl) (by kernel_rfl) (by kernel_rfl) (by kernel_rfl) (by kernel_rfl) (fun _ _ _ h => h) (Or.inl ⟨by rfl, ?hy12⟩) hS ?rest12
        case hy12 => (intro w hSw; (try dsimp only at hSw); first | (go_simp; done) | (go_simp; with_reducible rfl))
        try simp only [Act.put, List.setIfInBounds_toArray, List.set_cons_zero, List.set_cons_succ]
        refine' wpAnyLast_take (i := 10) (oi := Oper.mk _ _ _ _ _ _) rfl (by kernel_rfl) (by kernel_rfl) (by kernel_rfl) (by kernel_rfl) (by kernel_rfl) (fun _ _ _ h => h) (Or.inl ⟨by rfl, ?hy13⟩) hS ?rest13
        case hy13 => (intro w hSw; (try dsimp only at hSw); first | (go_simp; done) | (go_simp; with_reducible rfl))
        try simp only [Act.put, List.setIfInBounds_toArray, List.set_cons_zero, List.set_cons_succ]
        refine' wpAnyLast_take (i := 11) (oi := Oper.mk _ _ _ _ _ _) rfl (by kernel_rfl) (by kernel_rfl) (by kernel_rfl) (by kernel_rfl) (by kernel_rfl) (fun _ _ _ h => h) (Or.inl ⟨by rfl, ?hy14⟩) hS ?rest14
        case hy14 => (intro w hSw; (try dsimp only at hSw); first | (go_simp; done) | (go_simp; with_reducible rfl))
        try simp only [Act.put, List.setIfInBounds_toArray, List.set_cons_zero, List.set_cons_succ]
        refine' wpAnyLast_take (i := 12) (oi := Oper.mk _ _ _ _ _ _) rfl (by kernel_rfl) (by kernel_rfl) (by kernel_rfl) (by kernel_rfl) (by kernel_rfl) (fun _ _ _ h => h) (Or.inl ⟨by rfl, ?hy15⟩) hS ?rest15
        case hy15 => (intro w hSw; (try dsimp only at hSw); first | (go_simp; done) | (go_simp; with_reducible rfl))
        try simp only [Act.put, List.setIfInBounds_toArray, List.set_cons_zero, List.set_cons_succ]
        refine wpAnyLast_ready (rs := [13]) (by kernel_rfl) (by simp) ?_
        refine AllReadyL.cons_last (o := Oper.mk _ _ _ _ _ _) rfl (by decide) (fun K hK => ?_) ?_
        · refine rg_store1 HB' (by rfl) BG' (Aside0.mk (Nat.le_trans HBA.out HN.out.2.1)) 79 _ _ rfl rfl _ rfl HMC.out (by kernel_rfl) rfl ?_
          intro w3 B3 HB3 K3
          have B23 := B2'.other K3 (B2'.ne BG' (by decide))
          have B43 := B4'.other K3 (B4'.ne BG' (by decide))
          refine hK.out _ _ ?_
          clear hK K
          try simp only [Act.put, List.setIfInBounds_toArray, List.set_cons_zero, List.set_cons_succ]
          refine wpAnyLast_done (by kernel_rfl) ?_ _
          refine NoPanic.normal ?_
          go_wp2_with (first
            | ((with_reducible refine gate_dst (N := 42) rfl ?_); refine ev_loadS B23 rfl 95 _ rfl rfl Tryd.underlying95 rfl (by kernel_rfl) ?_)
            | ((with_reducible refine gate_ (Op.store 95 (.tmp 4) (.tmp 42)) rfl ?_); refine ev_store HB3 B43 GE_g4 rfl 95 _ _ rfl rfl rfl (by kernel_rfl) rfl (by simp [Value.oneCell']) ?_; intro w5 B5 HB5 K5))
          refine bodyPost_ret (results_cell_row rfl _ _ g4 95 _ (0, 0) _ rfl B5.out Tryd.underlying95 rfl (by kernel_rfl)) rfl ?_
          refine ⟨rfl, ?_, HB5⟩
          obtain ⟨hrl, hbg, hnc, hcm, hcs⟩ := HN.out
          refine row_other (row_shut hbg B3 hnc hcm (by rw [Array.size_setIfInBounds]; exact hcs) (by rw [List.length_map, wordsOf_length, HNW.out]) ?_) B43 (by decide) K5
          rw [← insL_part n q (by have := H0.out; have := HRR.out; omega) (v := bits .and .u64 x (IntKind.u64.wrap (IntKind.u64.wrap (2 ^ r) - 1))) (by rw [HX.out, HRR.out]), List.map_set, ← HNW.out, ← HM.out]
          exact HAA.out.set _ _
        exact AllReadyL.nil
      · have h1 : decide ((0 : Int) < (r : Int)) = false := decide_eq_false (by omega)
        have h2 : decide (0 < r) = false := decide_eq_false h0
        have H0 := Aside0.mk h0
        clear hr h0
        have B23 := B2
        have B43 := B4
        have HB3 := HB
        clear B2 B4 HB
        go_wp2_with (first
          | ((with_reducible refine gate_dst (N := 42) rfl ?_); refine ev_loadS B23 rfl 95 _ rfl rfl Tryd.underlying95 rfl (by kernel_rfl) ?_)
          | ((with_reducible refine gate_ (Op.store 95 (.tmp 4) (.tmp 42)) rfl ?_); refine ev_store HB3 B43 GE_g4 rfl 95 _ _ rfl rfl rfl (by kernel_rfl) rfl (by simp [Value.oneCell']) ?_; intro w5 B5 HB5 K5))
        refine bodyPost_ret (results_cell_row rfl _ _ g4 95 _ (0, 0) _ rfl B5.out Tryd.underlying95 rfl (by kernel_rfl)) rfl ?_
        refine ⟨rfl, ?_, HB5⟩
        have h := R.out
        rw [HNW.out, insL_full n q (by have := H0.out; have := HRR.out; omega), ← HNW.out] at h
        exact row_other h B43 (by decide) K5
end


section
open Go.Proofs.YtfihkkjkifkemaaDoorQ Go.Proofs.YtfihkkjkifkemaaDoorM
theorem carry_start : (#[.int .u64 0] : Array Value) = #[.int .u64 (iv (openW false))] := by rw [openW_no]
def quotes_Inside.f (a0 : ByteArray) : Option (Int × List Int) := if a0.size ≤ 281474976702464 then some ((a0.size : Int), wordsOf a0.size (insq (mkq a0))) else none
set_option maxHeartbeats 1000000 in
set_option maxRecDepth 100000 in
theorem quotes_Inside.walk (s : ByteArray) (w : World) (hs : s.size ≤ 281474976702464) :
    Calls Tryd.prog 50 #[.string s] w fun e w' => ∃ v1_ : Value, e = .returned (.agg #[.int .i64 s.size, v1_]) ∧ w'.ownsRow w.heap.size 79 1 v1_ (nwords s.size) ((wordsOf s.size (insq (mkq s))).map (Value.int .u64)) ∧ Below w.heap.size w w' := by
  have HB := BelowH.refl w
  go_enter Tryd.func50, Tryd.ntmps50
  go_upto_region 1 with (first
    | ((with_reducible refine gate_dst (N := 2) rfl ?_); refine ev_alloc HB rfl (#[.int .i64 0, .slice none 0 0]) 95 ?hr ?_; (case hr => first | (go_simp; done) | (go_simp; rfl)); intro g2 w2 G_g2 GE_g2 B_g2 HBn K_g2; clear HB; have HB := HBn; clear HBn))
  have HB2 := HB
  go_wp2_with (first
    | ((with_reducible refine gate_dst (N := 3) rfl ?_); refine ev_alloc HB rfl (#[.int .u64 0]) 114 ?hr ?_; (case hr => first | (go_simp; done) | (go_simp; rfl)); intro g3 w3 G_g3 GE_g3 B_g3 HBn K_g3; clear HB; have HB := HBn; clear HBn)
    | (go_at_call 47; refine (quotes_Marks.walk s _ hs).mono ?_; rintro e w4 ⟨v1, rfl, hrow, hb4⟩; have B3 := (B_g3.eqA carry_start).below hb4; have R4 := Aside0.mk hrow; have V1 := Aside0.mk (row_one hrow); have HB4 : BelowH w2 w4 := ⟨below_step K_g3.out hb4⟩; clear hb4 hrow HB)
    | (go_at_call 64; refine (quotes_each.turns s.size hs (mkq s) g3 _ v1 w2 _ HB4 B3 G_g3.out K_g3.out.size R4.out).mono ?_; rintro e w5 ⟨rfl, hrow5, HB5⟩; have B25 := B_g2.below HB5.out; have HB := HB2.step HB5.out; have R5 := Aside0.mk hrow5; clear hrow5)
    | ((with_reducible refine gate_ (Op.store 95 (.tmp 2) (.tmp 7)) rfl ?_); refine ev_store HB B25 GE_g2 rfl 95 _ _ rfl rfl rfl (by kernel_rfl) rfl (by simp [Value.oneCell']; exact V1.out) ?_; intro w6 B6 HB6 K6))
  refine bodyPost_ret (results_cell_row rfl _ _ g2 95 _ (0, 0) _ rfl B6.out Tryd.underlying95 rfl (by kernel_rfl)) rfl ?_
  exact ⟨v1, rfl, row_mono (row_other R5.out B25 (by decide) K6) (Nat.le_trans HB2.le K_g3.out.size), HB6.out⟩
theorem quotes_Inside.calls (a0 : ByteArray) (r1 : Int) (r2 : List Int) (w : World) (h : quotes_Inside.f a0 = some (r1, r2)) :
    Calls Tryd.prog 50 #[.string a0] w fun e w' => ∃ v1_ : Value, e = .returned (.agg #[.int .i64 r1, v1_]) ∧ Kd.R (Kd.int .u64) 79 w' w.heap.size (fun _ => True) v1_ r2 ∧ Below w.heap.size w w' := by
  unfold quotes_Inside.f at h
  by_cases hs : a0.size ≤ 281474976702464
  case neg => rw [if_neg hs] at h; cases h
  rw [if_pos hs] at h
  simp only [Option.some.injEq, Prod.mk.injEq] at h
  obtain ⟨rfl, rfl⟩ := h
  refine (quotes_Inside.walk a0 w hs).mono ?_
  rintro e w' ⟨v, rfl, hrow, hb⟩
  refine ⟨v, rfl, Kd.R_of_own ?_ (fun _ _ => trivial), hb⟩
  rw [wordsOf_length]
  exact hrow
end


end Go.Proofs.YtfihkkjkifkemaaDoor.PS
end
-- PSx3
section
namespace Go.Proofs.YtfihkkjkifkemaaDoor.PS
open Go.RowKit Go.Proofs.YtfihkkjkifkemaaDoorW.PrintWords Go.Proofs.YtfihkkjkifkemaaDoorW.PrintLast Go.Proofs.YtfihkkjkifkemaaDoorW.PrintMore
attribute [local go_sem] max2_int min2_int max_two min_two max_three min_three max_four min_four   -- for this text's walks alone
set_option linter.unusedVariables false
set_option linter.unusedSimpArgs false

section
open Go.Proofs.YtfihkkjkifkemaaDoorQ Go.Proofs.YtfihkkjkifkemaaDoorM
set_option maxHeartbeats 2000000 in
set_option maxRecDepth 100000 in
theorem marks_kindOf.tells (x : Nat) (hx : x < 256) (w : World) :
    Calls Tryd.prog 66 #[.int .u8 (x : Int)] w fun e w' => e = .returned (.int .i64 (kindN x)) ∧ Below w.heap.size w w' := by
  have HB := BelowH.refl w
  have H256 := Aside0.mk hx
  clear hx
  go_enter Tryd.func66, Tryd.ntmps66
  go_upto_region 2 with (first
    | ((with_reducible refine gate_dst (N := 3) rfl ?_); refine ev_alloc HB rfl (#[.int .u8 0, .int .i64 0, .int .u8 0, .int .i64 0, .int .u8 0, .int .i64 0, .int .u8 0, .int .i64 0, .int .u8 0, .int .i64 0, .int .u8 0, .int .i64 0, .int .u8 0, .int .i64 0, .int .u8 0, .int .i64 0, .int .u8 0, .int .i64 0, .int .u8 0, .int .i64 0]) 132 ?hr ?_; (case hr => first | (go_simp; done) | (go_simp; rfl)); intro g3 w1 G_g3 GE_g3 B_g3 HBn K_g3; clear HB; have HB := HBn; clear HBn)
    | ((with_reducible refine gate_ (Op.store 132 (.tmp 3) (.tmp 16)) rfl ?_); refine ev_store HB B_g3 GE_g3 rfl 132 _ _ rfl rfl rfl (by kernel_rfl) rfl (by simp [Value.oneCell']) ?_; intro w2 B3 HBn K_w2; clear HB; have HB := HBn; clear HBn))
  go_wp2_with (first
    | ((with_reducible refine gate_dst (N := 17) rfl ?_); refine ev_loadS B3 rfl 132 _ rfl rfl Tryd.underlying132 rfl (by kernel_rfl) ?_))
  clear B3 B_g3 K_w2 K_g3 G_g3 GE_g3
  go_loopw [18] (fun v18 wr => ∃ i : Nat, v18 = .int .i64 (i : Int) ∧ Aside0 (i ≤ 10) ∧ Aside0 (∀ j, j < i → kindsX.getD j 0 ≠ x) ∧ BelowH w wr) (fun v18 _ => 10 - (intOf v18).toNat)
  case atStart => exact ⟨0, rfl, ⟨by decide⟩, ⟨fun j hj => absurd hj (Nat.not_lt_zero j)⟩, HB⟩
  case round =>
    clear HB
    obtain ⟨i, rfl, HI, HJ, HB⟩ := hrel
    have hi := HI.out
    rcases (by omega : i = 0 ∨ i = 1 ∨ i = 2 ∨ i = 3 ∨ i = 4 ∨ i = 5 ∨ i = 6 ∨ i = 7 ∨ i = 8 ∨ i = 9 ∨ i = 10) with rfl | rfl | rfl | rfl | rfl | rfl | rfl | rfl | rfl | rfl | rfl
    · clear hi
      have ix : ∀ w, (Instr.index 132 (.agg #[.int .u8 123, .int .i64 1, .int .u8 125, .int .i64 1, .int .u8 91, .int .i64 1, .int .u8 93, .int .i64 1, .int .u8 58, .int .i64 1, .int .u8 44, .int .i64 1, .int .u8 32, .int .i64 2, .int .u8 9, .int .i64 2, .int .u8 10, .int .i64 2, .int .u8 13, .int .i64 2]) (.int .i64 0)).run Tryd.prog w = .ok (.agg #[.int .u8 123, .int .i64 1]) w := fun _ => by kernel_rfl
      by_cases hx : x = 123
      · have h1 : ((123 : Int) == (x : Int)) = true := by rw [hx]; rfl
        have HX := Aside0.mk hx
        clear hx
        go_wp2_with (first
          | ((with_reducible refine gate_dst (N := 5) rfl ?_); refine ev_alloc HB rfl (#[.int .u8 0, .int .i64 0]) 131 ?hr ?_; (case hr => first | (go_simp; done) | (go_simp; rfl)); intro g5 w3 G_g5 GE_g5 B_g5 HBn K_g5; clear HB; have HB := HBn; clear HBn)
          | ((with_reducible refine gate_ (Op.store 131 (.tmp 5) (.tmp 20)) rfl ?_); refine ev_store HB B_g5 GE_g5 rfl 131 _ _ rfl rfl rfl (by kernel_rfl) rfl (by simp [Value.oneCell']) ?_; intro w4 B5 HBn K_w4; have c50 := B5.cell (i := 0) rfl; have c51 := B5.cell (i := 1) rfl; clear HB; have HB := HBn; clear HBn))
        go_ret
        exact ⟨by rw [HX.out]; rfl, HB.out⟩
      · have h1 : ((123 : Int) == (x : Int)) = false := beq_eq_false_iff_ne.mpr (by omega)
        have HX := Aside0.mk hx
        clear hx
        go_wp2_with (first
          | ((with_reducible refine gate_dst (N := 5) rfl ?_); refine ev_alloc HB rfl (#[.int .u8 0, .int .i64 0]) 131 ?hr ?_; (case hr => first | (go_simp; done) | (go_simp; rfl)); intro g5 w3 G_g5 GE_g5 B_g5 HBn K_g5; clear HB; have HB := HBn; clear HBn)
          | ((with_reducible refine gate_ (Op.store 131 (.tmp 5) (.tmp 20)) rfl ?_); refine ev_store HB B_g5 GE_g5 rfl 131 _ _ rfl rfl rfl (by kernel_rfl) rfl (by simp [Value.oneCell']) ?_; intro w4 B5 HBn K_w4; have c50 := B5.cell (i := 0) rfl; have c51 := B5.cell (i := 1) rfl; clear HB; have HB := HBn; clear HBn))
        go_roundw
        case rel => exact ⟨1, rfl, ⟨by decide⟩, ⟨kinds_next HJ.out (show kindsX.getD 0 0 ≠ x from fun e => HX.out e.symm)⟩, HB⟩
        case measure => decide
    · clear hi
      have ix : ∀ w, (Instr.index 132 (.agg #[.int .u8 123, .int .i64 1, .int .u8 125, .int .i64 1, .int .u8 91, .int .i64 1, .int .u8 93, .int .i64 1, .int .u8 58, .int .i64 1, .int .u8 44, .int .i64 1, .int .u8 32, .int .i64 2, .int .u8 9, .int .i64 2, .int .u8 10, .int .i64 2, .int .u8 13, .int .i64 2]) (.int .i64 1)).run Tryd.prog w = .ok (.agg #[.int .u8 125, .int .i64 1]) w := fun _ => by kernel_rfl
      by_cases hx : x = 125
      · have h1 : ((125 : Int) == (x : Int)) = true := by rw [hx]; rfl
        have HX := Aside0.mk hx
        clear hx
        go_wp2_with (first
          | ((with_reducible refine gate_dst (N := 5) rfl ?_); refine ev_alloc HB rfl (#[.int .u8 0, .int .i64 0]) 131 ?hr ?_; (case hr => first | (go_simp; done) | (go_simp; rfl)); intro g5 w3 G_g5 GE_g5 B_g5 HBn K_g5; clear HB; have HB := HBn; clear HBn)
          | ((with_reducible refine gate_ (Op.store 131 (.tmp 5) (.tmp 20)) rfl ?_); refine ev_store HB B_g5 GE_g5 rfl 131 _ _ rfl rfl rfl (by kernel_rfl) rfl (by simp [Value.oneCell']) ?_; intro w4 B5 HBn K_w4; have c50 := B5.cell (i := 0) rfl; have c51 := B5.cell (i := 1) rfl; clear HB; have HB := HBn; clear HBn))
        go_ret
        exact ⟨by rw [HX.out]; rfl, HB.out⟩
      · have h1 : ((125 : Int) == (x : Int)) = false := beq_eq_false_iff_ne.mpr (by omega)
        have HX := Aside0.mk hx
        clear hx
        go_wp2_with (first
          | ((with_reducible refine gate_dst (N := 5) rfl ?_); refine ev_alloc HB rfl (#[.int .u8 0, .int .i64 0]) 131 ?hr ?_; (case hr => first | (go_simp; done) | (go_simp; rfl)); intro g5 w3 G_g5 GE_g5 B_g5 HBn K_g5; clear HB; have HB := HBn; clear HBn)
          | ((with_reducible refine gate_ (Op.store 131 (.tmp 5) (.tmp 20)) rfl ?_); refine ev_store HB B_g5 GE_g5 rfl 131 _ _ rfl rfl rfl (by kernel_rfl) rfl (by simp [Value.oneCell']) ?_; intro w4 B5 HBn K_w4; have c50 := B5.cell (i := 0) rfl; have c51 := B5.cell (i := 1) rfl; clear HB; have HB := HBn; clear HBn))
        go_roundw
        case rel => exact ⟨2, rfl, ⟨by decide⟩, ⟨kinds_next HJ.out (show kindsX.getD 1 0 ≠ x from fun e => HX.out e.symm)⟩, HB⟩
        case measure => decide
    · clear hi
      have ix : ∀ w, (Instr.index 132 (.agg #[.int .u8 123, .int .i64 1, .int .u8 125, .int .i64 1, .int .u8 91, .int .i64 1, .int .u8 93, .int .i64 1, .int .u8 58, .int .i64 1, .int .u8 44, .int .i64 1, .int .u8 32, .int .i64 2, .int .u8 9, .int .i64 2, .int .u8 10, .int .i64 2, .int .u8 13, .int .i64 2]) (.int .i64 2)).run Tryd.prog w = .ok (.agg #[.int .u8 91, .int .i64 1]) w := fun _ => by kernel_rfl
      by_cases hx : x = 91
      · have h1 : ((91 : Int) == (x : Int)) = true := by rw [hx]; rfl
        have HX := Aside0.mk hx
        clear hx
        go_wp2_with (first
          | ((with_reducible refine gate_dst (N := 5) rfl ?_); refine ev_alloc HB rfl (#[.int .u8 0, .int .i64 0]) 131 ?hr ?_; (case hr => first | (go_simp; done) | (go_simp; rfl)); intro g5 w3 G_g5 GE_g5 B_g5 HBn K_g5; clear HB; have HB := HBn; clear HBn)
          | ((with_reducible refine gate_ (Op.store 131 (.tmp 5) (.tmp 20)) rfl ?_); refine ev_store HB B_g5 GE_g5 rfl 131 _ _ rfl rfl rfl (by kernel_rfl) rfl (by simp [Value.oneCell']) ?_; intro w4 B5 HBn K_w4; have c50 := B5.cell (i := 0) rfl; have c51 := B5.cell (i := 1) rfl; clear HB; have HB := HBn; clear HBn))
        go_ret
        exact ⟨by rw [HX.out]; rfl, HB.out⟩
      · have h1 : ((91 : Int) == (x : Int)) = false := beq_eq_false_iff_ne.mpr (by omega)
        have HX := Aside0.mk hx
        clear hx
        go_wp2_with (first
          | ((with_reducible refine gate_dst (N := 5) rfl ?_); refine ev_alloc HB rfl (#[.int .u8 0, .int .i64 0]) 131 ?hr ?_; (case hr => first | (go_simp; done) | (go_simp; rfl)); intro g5 w3 G_g5 GE_g5 B_g5 HBn K_g5; clear HB; have HB := HBn; clear HBn)
          | ((with_reducible refine gate_ (Op.store 131 (.tmp 5) (.tmp 20)) rfl ?_); refine ev_store HB B_g5 GE_g5 rfl 131 _ _ rfl rfl rfl (by kernel_rfl) rfl (by simp [Value.oneCell']) ?_; intro w4 B5 HBn K_w4; have c50 := B5.cell (i := 0) rfl; have c51 := B5.cell (i := 1) rfl; clear HB; have HB := HBn; clear HBn))
        go_roundw
        case rel => exact ⟨3, rfl, ⟨by decide⟩, ⟨kinds_next HJ.out (show kindsX.getD 2 0 ≠ x from fun e => HX.out e.symm)⟩, HB⟩
        case measure => decide
    · clear hi
      have ix : ∀ w, (Instr.index 132 (.agg #[.int .u8 123, .int .i64 1, .int .u8 125, .int .i64 1, .int .u8 91, .int .i64 1, .int .u8 93, .int .i64 1, .int .u8 58, .int .i64 1, .int .u8 44, .int .i64 1, .int .u8 32, .int .i64 2, .int .u8 9, .int .i64 2, .int .u8 10, .int .i64 2, .int .u8 13, .int .i64 2]) (.int .i64 3)).run Tryd.prog w = .ok (.agg #[.int .u8 93, .int .i64 1]) w := fun _ => by kernel_rfl
      by_cases hx : x = 93
      · have h1 : ((93 : Int) == (x : Int)) = true := by rw [hx]; rfl
        have HX := Aside0.mk hx
        clear hx
        go_wp2_with (first
          | ((with_reducible refine gate_dst (N := 5) rfl ?_); refine ev_alloc HB rfl (#[.int .u8 0, .int .i64 0]) 131 ?hr ?_; (case hr => first | (go_simp; done) | (go_simp; rfl)); intro g5 w3 G_g5 GE_g5 B_g5 HBn K_g5; clear HB; have HB := HBn; clear HBn)
          | ((with_reducible refine gate_ (Op.store 131 (.tmp 5) (.tmp 20)) rfl ?_); refine ev_store HB B_g5 GE_g5 rfl 131 _ _ rfl rfl rfl (by kernel_rfl) rfl (by simp [Value.oneCell']) ?_; intro w4 B5 HBn K_w4; have c50 := B5.cell (i := 0) rfl; have c51 := B5.cell (i := 1) rfl; clear HB; have HB := HBn; clear HBn))
        go_ret
        exact ⟨by rw [HX.out]; rfl, HB.out⟩
      · have h1 : ((93 : Int) == (x : Int)) = false := beq_eq_false_iff_ne.mpr (by omega)
        have HX := Aside0.mk hx
        clear hx
        go_wp2_with (first
          | ((with_reducible refine gate_dst (N := 5) rfl ?_); refine ev_alloc HB rfl (#[.int .u8 0, .int .i64 0]) 131 ?hr ?_; (case hr => first | (go_simp; done) | (go_simp; rfl)); intro g5 w3 G_g5 GE_g5 B_g5 HBn K_g5; clear HB; have HB := HBn; clear HBn)
          | ((with_reducible refine gate_ (Op.store 131 (.tmp 5) (.tmp 20)) rfl ?_); refine ev_store HB B_g5 GE_g5 rfl 131 _ _ rfl rfl rfl (by kernel_rfl) rfl (by simp [Value.oneCell']) ?_; intro w4 B5 HBn K_w4; have c50 := B5.cell (i := 0) rfl; have c51 := B5.cell (i := 1) rfl; clear HB; have HB := HBn; clear HBn))
        go_roundw
        case rel => exact ⟨4, rfl, ⟨by decide⟩, ⟨kinds_next HJ.out (show kindsX.getD 3 0 ≠ x from fun e => HX.out e.symm)⟩, HB⟩
        case measure => decide
    · clear hi
      have ix : ∀ w, (Instr.index 132 (.agg #[.int .u8 123, .int .i64 1, .int .u8 125, .int .i64 1, .int .u8 91, .int .i64 1, .int .u8 93, .int .i64 1, .int .u8 58, .int .i64 1, .int .u8 44, .int .i64 1, .int .u8 32, .int .i64 2, .int .u8 9, .int .i64 2, .int .u8 10, .int .i64 2, .int .u8 13, .int .i64 2]) (.int .i64 4)).run Tryd.prog w = .ok (.agg #[.int .u8 58, .int .i64 1]) w := fun _ => by kernel_rfl
      by_cases hx : x = 58
      · have h1 : ((58 : Int) == (x : Int)) = true := by rw [hx]; rfl
        have HX := Aside0.mk hx
        clear hx
        go_wp2_with (first
          | ((with_reducible refine gate_dst (N := 5) rfl ?_); refine ev_alloc HB rfl (#[.int .u8 0, .int .i64 0]) 131 ?hr ?_; (case hr => first | (go_simp; done) | (go_simp; rfl)); intro g5 w3 G_g5 GE_g5 B_g5 HBn K_g5; clear HB; have HB := HBn; clear HBn)
          | ((with_reducible refine gate_ (Op.store 131 (.tmp 5) (.tmp 20)) rfl ?_); refine ev_store HB B_g5 GE_g5 rfl 131 _ _ rfl rfl rfl (by kernel_rfl) rfl (by simp [Value.oneCell']) ?_; intro w4 B5 HBn K_w4; have c50 := B5.cell (i := 0) rfl; have c51 := B5.cell (i := 1) rfl; clear HB; have HB := HBn; clear HBn))
        go_ret
        exact ⟨by rw [HX.out]; rfl, HB.out⟩
      · have h1 : ((58 : Int) == (x : Int)) = false := beq_eq_false_iff_ne.mpr (by omega)
        have HX := Aside0.mk hx
        clear hx
        go_wp2_with (first
          | ((with_reducible refine gate_dst (N := 5) rfl ?_); refine ev_alloc HB rfl (#[.int .u8 0, .int .i64 0]) 131 ?hr ?_; (case hr => first | (go_simp; done) | (go_simp; rfl)); intro g5 w3 G_g5 GE_g5 B_g5 HBn K_g5; clear HB; have HB := HBn; clear HBn)
          | ((with_reducible refine gate_ (Op.store 131 (.tmp 5) (.tmp 20)) rfl ?_); refine ev_store HB B_g5 GE_g5 rfl 131 _ _ rfl rfl rfl (by kernel_rfl) rfl (by simp [Value.oneCell']) ?_; intro w4 B5 HBn K_w4; have c50 := B5.cell (i := 0) rfl; have c51 := B5.cell (i := 1) rfl; clear HB; have HB := HBn; clear HBn))
        go_roundw
        case rel => exact ⟨5, rfl, ⟨by decide⟩, ⟨kinds_next HJ.out (show kindsX.getD 4 0 ≠ x from fun e => HX.out e.symm)⟩, HB⟩
        case measure => decide
    · clear hi
      have ix : ∀ w, (Instr.index 132 (.agg #[.int .u8 123, .int .i64 1, .int .u8 125, .int .i64 1, .int .u8 91, .int .i64 1, .int .u8 93, .int .i64 1, .int .u8 58, .int .i64 1, .int .u8 44, .int .i64 1, .int .u8 32, .int .i64 2, .int .u8 9, .int .i64 2, .int .u8 10, .int .i64 2, .int .u8 13, .int .i64 2]) (.int .i64 5)).run Tryd.prog w = .ok (.agg #[.int .u8 44, .int .i64 1]) w := fun _ => by kernel_rfl
      by_cases hx : x = 44
      · have h1 : ((44 : Int) == (x : Int)) = true := by rw [hx]; rfl
        have HX := Aside0.mk hx
        clear hx
        go_wp2_with (first
          | ((with_reducible refine gate_dst (N := 5) rfl ?_); refine ev_alloc HB rfl (#[.int .u8 0, .int .i64 0]) 131 ?hr ?_; (case hr => first | (go_simp; done) | (go_simp; rfl)); intro g5 w3 G_g5 GE_g5 B_g5 HBn K_g5; clear HB; have HB := HBn; clear HBn)
          | ((with_reducible refine gate_ (Op.store 131 (.tmp 5) (.tmp 20)) rfl ?_); refine ev_store HB B_g5 GE_g5 rfl 131 _ _ rfl rfl rfl (by kernel_rfl) rfl (by simp [Value.oneCell']) ?_; intro w4 B5 HBn K_w4; have c50 := B5.cell (i := 0) rfl; have c51 := B5.cell (i := 1) rfl; clear HB; have HB := HBn; clear HBn))
        go_ret
        exact ⟨by rw [HX.out]; rfl, HB.out⟩
      · have h1 : ((44 : Int) == (x : Int)) = false := beq_eq_false_iff_ne.mpr (by omega)
        have HX := Aside0.mk hx
        clear hx
        go_wp2_with (first
          | ((with_reducible refine gate_dst (N := 5) rfl ?_); refine ev_alloc HB rfl (#[.int .u8 0, .int .i64 0]) 131 ?hr ?_; (case hr => first | (go_simp; done) | (go_simp; rfl)); intro g5 w3 G_g5 GE_g5 B_g5 HBn K_g5; clear HB; have HB := HBn; clear HBn)
          | ((with_reducible refine gate_ (Op.store 131 (.tmp 5) (.tmp 20)) rfl ?_); refine ev_store HB B_g5 GE_g5 rfl 131 _ _ rfl rfl rfl (by kernel_rfl) rfl (by simp [Value.oneCell']) ?_; intro w4 B5 HBn K_w4; have c50 := B5.cell (i := 0) rfl; have c51 := B5.cell (i := 1) rfl; clear HB; have HB := HBn; clear HBn))
        go_roundw
        case rel => exact ⟨6, rfl, ⟨by decide⟩, ⟨kinds_next HJ.out (show kindsX.getD 5 0 ≠ x from fun e => HX.out e.symm)⟩, HB⟩
        case measure => decide
    · clear hi
      have ix : ∀ w, (Instr.index 132 (.agg #[.int .u8 123, .int .i64 1, .int .u8 125, .int .i64 1, .int .u8 91, .int .i64 1, .int .u8 93, .int .i64 1, .int .u8 58, .int .i64 1, .int .u8 44, .int .i64 1, .int .u8 32, .int .i64 2, .int .u8 9, .int .i64 2, .int .u8 10, .int .i64 2, .int .u8 13, .int .i64 2]) (.int .i64 6)).run Tryd.prog w = .ok (.agg #[.int .u8 32, .int .i64 2]) w := fun _ => by kernel_rfl
      by_cases hx : x = 32
      · have h1 : ((32 : Int) == (x : Int)) = true := by rw [hx]; rfl
        have HX := Aside0.mk hx
        clear hx
        go_wp2_with (first
          | ((with_reducible refine gate_dst (N := 5) rfl ?_); refine ev_alloc HB rfl (#[.int .u8 0, .int .i64 0]) 131 ?hr ?_; (case hr => first | (go_simp; done) | (go_simp; rfl)); intro g5 w3 G_g5 GE_g5 B_g5 HBn K_g5; clear HB; have HB := HBn; clear HBn)
          | ((with_reducible refine gate_ (Op.store 131 (.tmp 5) (.tmp 20)) rfl ?_); refine ev_store HB B_g5 GE_g5 rfl 131 _ _ rfl rfl rfl (by kernel_rfl) rfl (by simp [Value.oneCell']) ?_; intro w4 B5 HBn K_w4; have c50 := B5.cell (i := 0) rfl; have c51 := B5.cell (i := 1) rfl; clear HB; have HB := HBn; clear HBn))
        go_ret
        exact ⟨by rw [HX.out]; rfl, HB.out⟩
      · have h1 : ((32 : Int) == (x : Int)) = false := beq_eq_false_iff_ne.mpr (by omega)
        have HX := Aside0.mk hx
        clear hx
        go_wp2_with (first
          | ((with_reducible refine gate_dst (N := 5) rfl ?_); refine ev_alloc HB rfl (#[.int .u8 0, .int .i64 0]) 131 ?hr ?_; (case hr => first | (go_simp; done) | (go_simp; rfl)); intro g5 w3 G_g5 GE_g5 B_g5 HBn K_g5; clear HB; have HB := HBn; clear HBn)
          | ((with_reducible refine gate_ (Op.store 131 (.tmp 5) (.tmp 20)) rfl ?_); refine ev_store HB B_g5 GE_g5 rfl 131 _ _ rfl rfl rfl (by kernel_rfl) rfl (by simp [Value.oneCell']) ?_; intro w4 B5 HBn K_w4; have c50 := B5.cell (i := 0) rfl; have c51 := B5.cell (i := 1) rfl; clear HB; have HB := HBn; clear HBn))
        go_roundw
        case rel => exact ⟨7, rfl, ⟨by decide⟩, ⟨kinds_next HJ.out (show kindsX.getD 6 0 ≠ x from fun e => HX.out e.symm)⟩, HB⟩
        case measure => decide
    · clear hi
      have ix : ∀ w, (Instr.index 132 (.agg #[.int .u8 123, .int .i64 1, .int .u8 125, .int .i64 1, .int .u8 91, .int .i64 1, .int .u8 93, .int .i64 1, .int .u8 58, .int .i64 1, .int .u8 44, .int .i64 1, .int .u8 32, .int .i64 2, .int .u8 9, .int .i64 2, .int .u8 10, .int .i64 2, .int .u8 13, .int .i64 2]) (.int .i64 7)).run Tryd.prog w = .ok (.agg #[.int .u8 9, .int .i64 2]) w := fun _ => by kernel_rfl
      by_cases hx : x = 9
      · have h1 : ((9 : Int) == (x : Int)) = true := by rw [hx]; rfl
        have HX := Aside0.mk hx
        clear hx
        go_wp2_with (first
          | ((with_reducible refine gate_dst (N := 5) rfl ?_); refine ev_alloc HB rfl (#[.int .u8 0, .int .i64 0]) 131 ?hr ?_; (case hr => first | (go_simp; done) | (go_simp; rfl)); intro g5 w3 G_g5 GE_g5 B_g5 HBn K_g5; clear HB; have HB := HBn; clear HBn)
          | ((with_reducible refine gate_ (Op.store 131 (.tmp 5) (.tmp 20)) rfl ?_); refine ev_store HB B_g5 GE_g5 rfl 131 _ _ rfl rfl rfl (by kernel_rfl) rfl (by simp [Value.oneCell']) ?_; intro w4 B5 HBn K_w4; have c50 := B5.cell (i := 0) rfl; have c51 := B5.cell (i := 1) rfl; clear HB; have HB := HBn; clear HBn))
        go_ret
        exact ⟨by rw [HX.out]; rfl, HB.out⟩
      · have h1 : ((9 : Int) == (x : Int)) = false := beq_eq_false_iff_ne.mpr (by omega)
        have HX := Aside0.mk hx
        clear hx
        go_wp2_with (first
          | ((with_reducible refine gate_dst (N := 5) rfl ?_); refine ev_alloc HB rfl (#[.int .u8 0, .int .i64 0]) 131 ?hr ?_; (case hr => first | (go_simp; done) | (go_simp; rfl)); intro g5 w3 G_g5 GE_g5 B_g5 HBn K_g5; clear HB; have HB := HBn; clear HBn)
          | ((with_reducible refine gate_ (Op.store 131 (.tmp 5) (.tmp 20)) rfl ?_); refine ev_store HB B_g5 GE_g5 rfl 131 _ _ rfl rfl rfl (by kernel_rfl) rfl (by simp [Value.oneCell']) ?_; intro w4 B5 HBn K_w4; have c50 := B5.cell (i := 0) rfl; have c51 := B5.cell (i := 1) rfl; clear HB; have HB := HBn; clear HBn))
        go_roundw
        case rel => exact ⟨8, rfl, ⟨by decide⟩, ⟨kinds_next HJ.out (show kindsX.getD 7 0 ≠ x from fun e => HX.out e.symm)⟩, HB⟩
        case measure => decide
    · clear hi
      have ix : ∀ w, (Instr.index 132 (.agg #[.int .u8 123, .int .i64 1, .int .u8 125, .int .i64 1, .int .u8 91, .int .i64 1, .int .u8 93, .int .i64 1, .int .u8 58, .int .i64 1, .int .u8 44, .int .i64 1, .int .u8 32, .int .i64 2, .int .u8 9, .int .i64 2, .int .u8 10, .int .i64 2, .int .u8 13, .int .i64 2]) (.int .i64 8)).run Tryd.prog w = .ok (.agg #[.int .u8 10, .int .i64 2]) w := fun _ => by kernel_rfl
      by_cases hx : x = 10
      · have h1 : ((10 : Int) == (x : Int)) = true := by rw [hx]; rfl
        have HX := Aside0.mk hx
        clear hx
        go_wp2_with (first
          | ((with_reducible refine gate_dst (N := 5) rfl ?_); refine ev_alloc HB rfl (#[.int .u8 0, .int .i64 0]) 131 ?hr ?_; (case hr => first | (go_simp; done) | (go_simp; rfl)); intro g5 w3 G_g5 GE_g5 B_g5 HBn K_g5; clear HB; have HB := HBn; clear HBn)
          | ((with_reducible refine gate_ (Op.store 131 (.tmp 5) (.tmp 20)) rfl ?_); refine ev_store HB B_g5 GE_g5 rfl 131 _ _ rfl rfl rfl (by kernel_rfl) rfl (by simp [Value.oneCell']) ?_; intro w4 B5 HBn K_w4; have c50 := B5.cell (i := 0) rfl; have c51 := B5.cell (i := 1) rfl; clear HB; have HB := HBn; clear HBn))
        go_ret
        exact ⟨by rw [HX.out]; rfl, HB.out⟩
      · have h1 : ((10 : Int) == (x : Int)) = false := beq_eq_false_iff_ne.mpr (by omega)
        have HX := Aside0.mk hx
        clear hx
        go_wp2_with (first
          | ((with_reducible refine gate_dst (N := 5) rfl ?_); refine ev_alloc HB rfl (#[.int .u8 0, .int .i64 0]) 131 ?hr ?_; (case hr => first | (go_simp; done) | (go_simp; rfl)); intro g5 w3 G_g5 GE_g5 B_g5 HBn K_g5; clear HB; have HB := HBn; clear HBn)
          | ((with_reducible refine gate_ (Op.store 131 (.tmp 5) (.tmp 20)) rfl ?_); refine ev_store HB B_g5 GE_g5 rfl 131 _ _ rfl rfl rfl (by kernel_rfl) rfl (by simp [Value.oneCell']) ?_; intro w4 B5 HBn K_w4; have c50 := B5.cell (i := 0) rfl; have c51 := B5.cell (i := 1) rfl; clear HB; have HB := HBn; clear HBn))
        go_roundw
        case rel => exact ⟨9, rfl, ⟨by decide⟩, ⟨kinds_next HJ.out (show kindsX.getD 8 0 ≠ x from fun e => HX.out e.symm)⟩, HB⟩
        case measure => decide
    · clear hi
      have ix : ∀ w, (Instr.index 132 (.agg #[.int .u8 123, .int .i64 1, .int .u8 125, .int .i64 1, .int .u8 91, .int .i64 1, .int .u8 93, .int .i64 1, .int .u8 58, .int .i64 1, .int .u8 44, .int .i64 1, .int .u8 32, .int .i64 2, .int .u8 9, .int .i64 2, .int .u8 10, .int .i64 2, .int .u8 13, .int .i64 2]) (.int .i64 9)).run Tryd.prog w = .ok (.agg #[.int .u8 13, .int .i64 2]) w := fun _ => by kernel_rfl
      by_cases hx : x = 13
      · have h1 : ((13 : Int) == (x : Int)) = true := by rw [hx]; rfl
        have HX := Aside0.mk hx
        clear hx
        go_wp2_with (first
          | ((with_reducible refine gate_dst (N := 5) rfl ?_); refine ev_alloc HB rfl (#[.int .u8 0, .int .i64 0]) 131 ?hr ?_; (case hr => first | (go_simp; done) | (go_simp; rfl)); intro g5 w3 G_g5 GE_g5 B_g5 HBn K_g5; clear HB; have HB := HBn; clear HBn)
          | ((with_reducible refine gate_ (Op.store 131 (.tmp 5) (.tmp 20)) rfl ?_); refine ev_store HB B_g5 GE_g5 rfl 131 _ _ rfl rfl rfl (by kernel_rfl) rfl (by simp [Value.oneCell']) ?_; intro w4 B5 HBn K_w4; have c50 := B5.cell (i := 0) rfl; have c51 := B5.cell (i := 1) rfl; clear HB; have HB := HBn; clear HBn))
        go_ret
        exact ⟨by rw [HX.out]; rfl, HB.out⟩
      · have h1 : ((13 : Int) == (x : Int)) = false := beq_eq_false_iff_ne.mpr (by omega)
        have HX := Aside0.mk hx
        clear hx
        go_wp2_with (first
          | ((with_reducible refine gate_dst (N := 5) rfl ?_); refine ev_alloc HB rfl (#[.int .u8 0, .int .i64 0]) 131 ?hr ?_; (case hr => first | (go_simp; done) | (go_simp; rfl)); intro g5 w3 G_g5 GE_g5 B_g5 HBn K_g5; clear HB; have HB := HBn; clear HBn)
          | ((with_reducible refine gate_ (Op.store 131 (.tmp 5) (.tmp 20)) rfl ?_); refine ev_store HB B_g5 GE_g5 rfl 131 _ _ rfl rfl rfl (by kernel_rfl) rfl (by simp [Value.oneCell']) ?_; intro w4 B5 HBn K_w4; have c50 := B5.cell (i := 0) rfl; have c51 := B5.cell (i := 1) rfl; clear HB; have HB := HBn; clear HBn))
        go_roundw
        case rel => exact ⟨10, rfl, ⟨by decide⟩, ⟨kinds_next HJ.out (show kindsX.getD 9 0 ≠ x from fun e => HX.out e.symm)⟩, HB⟩
        case measure => decide
    · go_wp2
      go_ret
      exact ⟨by rw [kindN_none HJ.out]; rfl, HB.out⟩
end


open Go.Proofs.YtfihkkjkifkemaaDoorQ Go.Proofs.YtfihkkjkifkemaaDoorM in
set_option maxHeartbeats 1000000 in
set_option maxRecDepth 100000 in
theorem block_Join.calls (p q : Nat → Bool) (w : World) :
    Calls Tryd.prog 67 #[.agg (clsA p), .agg (clsA q)] w fun e w' => e = .returned (.agg (clsA (joinC p q))) ∧ Below w.heap.size w w' := by
  have HB := BelowH.refl w
  go_enter Tryd.func67, Tryd.ntmps67
  go_upto_region 1 with (first
    | ((with_reducible refine gate_dst (N := 2) rfl ?_); refine ev_alloc HB rfl (clsA (p)) 100 ?hr ?_; (case hr => first | (go_simp; done) | (go_simp; rfl)); intro g2 w1 G_g2 GE_g2 B_g2 HBn K_g2; clear HB; have HB := HBn; clear HBn)
    | ((with_reducible refine gate_dst (N := 3) rfl ?_); refine ev_alloc HB rfl (clsA (q)) 100 ?hr ?_; (case hr => first | (go_simp; done) | (go_simp; rfl)); intro g3 w2 G_g3 GE_g3 B_g3 HBn K_g3; clear HB; have HB := HBn; clear HBn)
    | ((with_reducible refine gate_dst (N := 4) rfl ?_); refine ev_alloc HB rfl (clsA fun _ => false) 100 ?hr ?_; (case hr => rw [← clsA_zero]; go_simp; rfl); intro g4 w3 G_g4 GE_g4 B_g4 HBn K_g4; clear HB; have HB := HBn; clear HBn))
  have D2 := ((B_g2.below K_g3.out).below K_g4.out)
  have D3 := (B_g3.below K_g4.out)
  have D4 := B_g4
  have N3 := Aside0.mk (show g2 < g3 by have := B_g2.lt; have := G_g3.out; have := B_g3.lt; have := G_g4.out; omega)
  have N4 := Aside0.mk (show g2 < g4 by have := B_g2.lt; have := G_g3.out; have := B_g3.lt; have := G_g4.out; omega)
  rw [mix_zero (joinC p q) p] at D2
  go_wp2
  go_loopw [6] (fun v6 wr => ∃ k : Nat, k ≤ 4 ∧ v6 = .int .i64 k ∧ Blk wr g2 (clsA (mixA (joinC p q) p k)) 100 ∧ Blk wr g3 (clsA q) 100 ∧ Blk wr g4 (clsA fun _ => false) 100 ∧ BelowH w wr) (fun v6 _ => 4 - (intOf v6).toNat)
  case atStart => exact ⟨0, by omega, rfl, D2, D3, D4, HB⟩
  case round =>
    clear D2 D3 D4 B_g2 B_g3 B_g4 HB
    obtain ⟨k, hk, rfl, B2, B3, B4, HB⟩ := hrel
    by_cases hlt : k < 4
    · have h1 : (k : Int) < 4 := by omega
      have KX := Aside0.mk hlt
      have c1 := B2.cell (clsA_get (mixA (joinC p q) p k) hlt)
      rw [mix_at] at c1
      have c2 := B3.cell (clsA_get q hlt)
      clear hlt hk
      go_upto_region 4 with (fail)
      go_still_tail 11, (by kernel_rfl)
      change wpList _ _ _ _ _ wr.drew
      have EB2 := B2.drew
      have EB3 := B3.drew
      have EB4 := B4.drew
      have HE := HB.drew
      clear B2 B3 B4 HB c1 c2
      go_wp2_with (first
        | ((with_reducible refine gate_ (Op.store 79 (.tmp 19) (.tmp 17)) rfl ?_); refine ev_store1 (i := k) HE EB2 GE_g2 rfl 79 _ _ rfl rfl (.int .u64 (bits .or .u64 (iv (clsW p k)) (iv (clsW q k)))) rfl (by rw [clsA_size]; exact KX.out) (by kernel_rfl) rfl ?_; intro w8 B8 HB8 K8))
      rw [mix_step (joinC p q) p KX.out (join_word p q k)] at B8
      go_roundw
      case rel => exact ⟨k + 1, by have := KX.out; omega, by go_num, B8, EB3.other K8 (Nat.ne_of_gt N3.out), EB4.other K8 (Nat.ne_of_gt N4.out), HB8⟩
      case measure =>
        simp [intOf]
        have := KX.out
        omega
    · obtain rfl : k = 4 := by omega
      rw [mix_end] at B2
      go_wp2_with (first
        | ((with_reducible refine gate_dst (N := 21) rfl ?_); (try (refine gate_guard (by rfl) ?_; dsimp only)); refine ev_loadS B2 rfl 100 _ rfl rfl Tryd.underlying100 rfl (sizeC' _) ?_)
        | ((with_reducible refine gate_ (Op.store 100 (.tmp 4) (.tmp 21)) rfl ?_); refine ev_store HB B4 GE_g4 rfl 100 _ _ rfl rfl rfl (sizeC' _) (by rw [clsA_size, clsA_size]) (clsA_one _) ?_; intro w9 B9 HBn K_w9; clear HB; have HB := HBn; clear HBn))
      refine bodyPost_ret (results_cell_row rfl _ _ g4 100 _ (0, 0) _ rfl B9.out Tryd.underlying100 rfl (sizeC' _)) rfl ?_
      exact ⟨rfl, HB.out⟩


open Go.Proofs.YtfihkkjkifkemaaDoorQ Go.Proofs.YtfihkkjkifkemaaDoorM in
set_option maxHeartbeats 400000 in
set_option maxRecDepth 100000 in
theorem block_Of.calls (s : ByteArray) (w : World) (hs : s.size ≤ 281474976702464) :
    Calls Tryd.prog 68 #[.string s] w fun e w' => e = .returned (.agg (clsA (inT s s.size))) ∧ Below w.heap.size w w' := by
  have HB := BelowH.refl w
  have HS := Aside0.mk hs
  clear hs
  go_enter Tryd.func68, Tryd.ntmps68
  go_wp2_with (first
    | ((with_reducible refine gate_dst (N := 2) rfl ?_); refine ev_alloc HB rfl (clsA fun _ => false) 100 ?hr ?_; (case hr => rw [← clsA_zero]; go_simp; rfl); intro g0 w1 G_g0 GE_g0 B_g0 HBn K_g0; clear HB; have HB := HBn; clear HBn)
    | ((with_reducible refine gate_dst (N := 3) rfl ?_); refine ev_alloc HB rfl (clsA fun _ => false) 100 ?hr ?_; (case hr => rw [← clsA_zero]; go_simp; rfl); intro g1 w2 G_g1 GE_g1 B_g1 HBn K_g1; clear HB; have HB := HBn; clear HBn))
  have N01 := Aside0.mk (show g0 < g1 by have := B_g0.lt; have := G_g1.out; omega)
  go_loopw [7] (fun v7 wr => ∃ i : Nat, i ≤ s.size ∧ v7 = .int .i64 i ∧ Blk wr g0 (clsA fun _ => false) 100 ∧ Blk wr g1 (clsA (inT s i)) 100 ∧ BelowH w wr) (fun v7 _ => s.size - (intOf v7).toNat)
  case atStart => exact ⟨0, by omega, rfl, B_g0.below K_g1.out, B_g1, HB⟩
  case round =>
    clear B_g0 B_g1 HB
    obtain ⟨i, hi, rfl, B0, B1, HB⟩ := hrel
    by_cases hlt : i < s.size
    · have KI := Aside0.mk hlt
      have hlt' : decide ((i : Int) < (s.size : Int)) = true := decide_eq_true (by omega)
      go_upto_region 5 with (fail)
      obtain ⟨k, hk⟩ : ∃ k : Nat, k = (s[i]'hlt).toNat / 64 := ⟨_, rfl⟩
      obtain ⟨m, hm⟩ : ∃ m : Nat, m = (s[i]'hlt).toNat % 64 := ⟨_, rfl⟩
      have hx : (s[i]'hlt).toNat < 256 := UInt8.toNat_lt _
      have hk1 : (((s[i]'hlt).toNat : Nat) : Int) / 64 = (k : Int) := by omega
      have hk4 : (k : Int) < 4 := by omega
      have hm1 : bits .and .u8 (((s[i]'hlt).toNat : Nat) : Int) 63 = (m : Int) := by rw [bits_and_u8_63 _ hx, hm]
      have hm4 : (m : Int) < 64 := by omega
      have hc := B1.cell (clsA_get _ (show k < 4 by omega))
      have HK := Aside0.mk hk
      have HM := Aside0.mk hm
      clear hk hm hx
      go_still_tail 14, (by kernel_rfl)
      change wpList _ _ _ _ _ wr.drew
      have B1' := B1.drew
      have B0' := B0.drew
      have HB' := HB.drew
      have HV := Aside0.mk (cls_or (p := inT s i) (q := inT s (i + 1)) (k := k) (m := m) (by omega) (inT_step hlt HK.out HM.out))
      clear HB B0 B1 hc hk1 hm1
      go_wp2_with (first
        | ((with_reducible refine gate_ (Op.store 79 (.tmp 24) (.tmp 22)) rfl ?_); refine ev_store1 (i := k) HB' B1' GE_g1 rfl 79 _ _ rfl rfl (.int .u64 (bits .or .u64 (iv (clsW (inT s i) k)) (IntKind.u64.wrap (2 ^ m)))) rfl (by rw [clsA_size]; omega) (by kernel_rfl) rfl ?_; intro w5 B5 HB5 K5))
      go_roundw
      case rel =>
        refine ⟨i + 1, by omega, by rw [w64_up KI.out HS.out], B0'.other K5 (Nat.ne_of_lt N01.out), ?_, HB5⟩
        rw [HV.out, clsA_set (q := inT s (i + 1)) (by omega) rfl (fun x _ hx => (inT_else hlt HK.out hx).symm)] at B5
        exact B5
      case measure =>
        rw [w64_up KI.out HS.out]
        simp [intOf]
        have := KI.out
        omega
    · obtain rfl : i = s.size := by omega
      go_wp2_with (first
        | ((with_reducible refine gate_dst (N := 26) rfl ?_); (try (refine gate_guard (by rfl) ?_; dsimp only)); refine ev_loadS B1 rfl 100 _ rfl rfl Tryd.underlying100 rfl (sizeC' _) ?_)
        | ((with_reducible refine gate_ (Op.store 100 (.tmp 2) (.tmp 26)) rfl ?_); refine ev_store HB B0 GE_g0 rfl 100 _ _ rfl rfl rfl (sizeC' _) (by rw [clsA_size, clsA_size]) (clsA_one _) ?_; intro w6 B6 HBn K_w6; clear HB; have HB := HBn; clear HBn))
      refine bodyPost_ret (results_cell_row rfl _ _ g0 100 _ (0, 0) _ rfl B6.out Tryd.underlying100 rfl (sizeC' _)) rfl ?_
      exact ⟨rfl, HB.out⟩


section
open Go.Proofs.YtfihkkjkifkemaaDoorQ Go.Proofs.YtfihkkjkifkemaaDoorM
set_option maxHeartbeats 2000000 in
set_option maxRecDepth 100000 in
theorem marks_classes.tells (w : World) :
    Calls Tryd.prog 51 #[] w fun e w' => e = .returned (.tuple #[.agg (clsA sgx), .agg (clsA blx)]) ∧ Below w.heap.size w w' := by
  have HB := BelowH.refl w
  go_enter Tryd.func51, Tryd.ntmps51
  go_wp2_with (first
    | ((with_reducible refine gate_dst (N := 0) rfl ?_); refine ev_alloc HB rfl (clsA fun _ => false) 100 ?hr ?_; (case hr => rw [← clsA_zero]; go_simp; rfl); intro g0 w1 G_g0 GE_g0 B_g0 HBn K_g0; clear HB; have HB := HBn; clear HBn)
    | ((with_reducible refine gate_dst (N := 1) rfl ?_); refine ev_alloc HB rfl (clsA fun _ => false) 100 ?hr ?_; (case hr => rw [← clsA_zero]; go_simp; rfl); intro g1 w2 G_g1 GE_g1 B_g1 HBn K_g1; clear HB; have HB := HBn; clear HBn))
  have N01 := Aside0.mk (show g0 < g1 by have := B_g0.lt; have := G_g1.out; omega)
  have B0 := (B_g0.below K_g1.out).eqA (low_zero sgx)
  have B1 := B_g1.eqA (low_zero blx)
  clear B_g0 B_g1 K_g0 K_g1 G_g0 G_g1
  go_loopw [3] (fun v3 wr => ∃ x : Nat, v3 = .int .i64 (x : Int) ∧ Aside0 (x ≤ 256) ∧ Blk wr g0 (clsA (lowC sgx x)) 100 ∧ Blk wr g1 (clsA (lowC blx x)) 100 ∧ BelowH w wr) (fun v3 _ => 256 - (intOf v3).toNat)
  case atStart => exact ⟨0, rfl, ⟨Nat.zero_le _⟩, B0, B1, HB⟩
  case round =>
    clear B0 B1 HB
    obtain ⟨x, rfl, HX, B0, B1, HB⟩ := hrel
    by_cases hlt : x < 256
    · have HLT := Aside0.mk hlt
      have h1 : (x : Int) < 256 := by omega
      have h2 : (0 : Int) ≤ (x : Int) := by omega
      have h3 : IntKind.u8.wrap (x : Int) = (x : Int) := u8_wrap hlt
      have hb8 := u8_of hlt
      have KN : Aside0 (∀ w, Calls Tryd.prog 66 #[.int .u8 (x : Int)] w fun e w' => e = .returned (.int .i64 (kindN x)) ∧ Below w.heap.size w w') := ⟨fun w => marks_kindOf.tells x HLT.out w⟩
      obtain ⟨str, hstr⟩ : ∃ str : ByteArray, str = ⟨#[UInt8.ofNat x]⟩ := ⟨_, rfl⟩
      obtain ⟨tx, htx⟩ : ∃ tx : Nat → Bool, tx = fun y => decide (y = x) := ⟨_, rfl⟩
      have OF : Aside0 (∀ w, Calls Tryd.prog 68 #[.string str] w fun e w' => e = .returned (.agg (clsA tx)) ∧ Below w.heap.size w w') := ⟨fun w => by
        rw [hstr, htx]
        have h := block_Of.calls (⟨#[UInt8.ofNat x]⟩ : ByteArray) w (show 1 ≤ 281474976702464 by decide)
        rw [show clsA (inT (⟨#[UInt8.ofNat x]⟩ : ByteArray) (⟨#[UInt8.ofNat x]⟩ : ByteArray).size) = clsA (fun y => decide (y = x)) from clsA_congr fun y _ => one_byte x HLT.out y] at h
        exact h⟩
      have HT := Aside0.mk htx
      have HSTR := Aside0.mk hstr
      have HB8 := Aside0.mk hb8
      clear hlt htx hstr hb8
      obtain ⟨kn, hkn⟩ : ∃ kn, kn = kindN x := ⟨_, rfl⟩
      rw [← hkn] at KN
      have HKN := Aside0.mk hkn
      clear hkn
      by_cases hs : sgx x = true
      · have hk1 : (kn == 1) = true := by rw [HKN.out, kindN_sign hs]; rfl
        have RX := Aside0.mk hs
        have OX := Aside0.mk (blx_of_sgx hs)
        clear hs
        go_upto_region 6 with (first
          | (go_at_call 66; (with_reducible refine (KN.out _).mono ?_); rintro e w4 ⟨rfl, hb4⟩; have B04 := B0.below hb4; have B14 := B1.below hb4; have HB4 := HB.step hb4; clear hb4 B0 B1 HB))
        clear hk1
        have hbd : Aside0 (Below w4.heap.size w4 w4.drew) := ⟨below_drew (Below.refl _ _)⟩
        have B05 := B04.below hbd.out
        have B15 := B14.below hbd.out
        have HB5 := HB4.step hbd.out
        clear B04 B14 HB4 hbd
        refine wp_region_noPanic ?_
        refine wp_region_last_drew (S := fun W' => Blk W' g0 (clsA (lowC sgx x)) 100) (ds := [7]) (by kernel_rfl) B05 (fun hS => ?_)
        refine wpAnyLast_take (i := 0) (oi := Oper.mk _ _ _ _ _ _) rfl (by kernel_rfl) (by kernel_rfl) (by kernel_rfl) (by kernel_rfl) (by kernel_rfl) (fun _ _ _ h => h) (rg_load (by rfl) (fun _ hS => hS) 100 _ rfl rfl Tryd.underlying100 rfl (sizeC' _)) hS ?_
        try simp only [Act.put, List.setIfInBounds_toArray, List.set_cons_zero, List.set_cons_succ]
        refine' wpAnyLast_take (i := 1) (oi := Oper.mk _ _ _ _ _ _) rfl (by kernel_rfl) (by kernel_rfl) (by kernel_rfl) (by kernel_rfl) (by kernel_rfl) (fun _ _ _ h => h) (Or.inl ⟨by rfl, ?hy1⟩) hS ?rest1
        case hy1 => (intro w hSw; (try dsimp only at hSw); first | (go_simp; done) | (go_simp; with_reducible rfl))
        try simp only [Act.put, List.setIfInBounds_toArray, List.set_cons_zero, List.set_cons_succ]
        refine' wpAnyLast_take (i := 2) (oi := Oper.mk _ _ _ _ _ _) rfl (by kernel_rfl) (by kernel_rfl) (by kernel_rfl) (by kernel_rfl) (by kernel_rfl) (fun _ _ _ h => h) (Or.inl ⟨by rfl, ?hy2⟩) hS ?rest2
        case hy2 => (intro w hSw; (try dsimp only at hSw); first | (go_simp; done) | (go_simp; with_reducible rfl))
        try simp only [Act.put, List.setIfInBounds_toArray, List.set_cons_zero, List.set_cons_succ]
        refine wpAnyLast_ready (rs := [3]) (by kernel_rfl) (by simp) ?_
        refine AllReadyL.cons (o := Oper.mk _ _ _ _ _ _) rfl (by decide) (fun K hK => ?_) ?_
        · refine rg_lit HB5 (by rfl) (.int .u8 (x : Int)) 5 (by first | (go_simp; done) | (go_simp; rfl)) ?_
          intro gN w6 sN HB6 hb
          have B06 := B05.below hb.out
          have B16 := B15.below hb.out
          have sN6 := sN.eqA (show (#[Value.int .u8 (x : Int)] : Array Value) = #[.int .u8 (((UInt8.ofNat x).toNat : Nat) : Int)] by rw [HB8.out])
          refine hK.out _ _ B06 (fun hS => ?_)
          clear hK K sN hb B05 B15 HB5
          try simp only [Act.put, List.setIfInBounds_toArray, List.set_cons_zero, List.set_cons_succ]
          refine wpAnyLast_ready (rs := [4]) (by kernel_rfl) (by simp) ?_
          refine AllReadyL.cons (o := Oper.mk _ _ _ _ _ _) rfl (by decide) (fun K hK => ?_) ?_
          · refine rg_str1 (by rfl) sN6 54 9 5 _ rfl rfl Tryd.underlying54 Tryd.underlying5 Tryd.underlying9 ?_
            rw [← HSTR.out]
            refine hK.out _ _ hS (fun hS => ?_)
            clear hK K sN6
            try simp only [Act.put, List.setIfInBounds_toArray, List.set_cons_zero, List.set_cons_succ]
            refine wpAnyLast_ready (rs := [5]) (by kernel_rfl) (by simp) ?_
            refine AllReadyL.cons (o := Oper.mk _ _ _ _ _ _) rfl (by decide) (fun K hK => ?_) ?_
            · refine rg_call (by rfl) _ _ (.agg (clsA tx)) (by first | (go_simp; done) | (go_simp; rfl)) (OF.out _) ?_
              intro W' hb
              have B07 := B06.below hb.out
              have B17 := B16.below hb.out
              have HB7 := HB6.step hb.out
              clear B06 B16 HB6
              refine hK.out _ _ B07 (fun hS => ?_)
              clear hK K
              try simp only [Act.put, List.setIfInBounds_toArray, List.set_cons_zero, List.set_cons_succ]
              refine wpAnyLast_ready (rs := [6]) (by kernel_rfl) (by simp) ?_
              refine AllReadyL.cons (o := Oper.mk _ _ _ _ _ _) rfl (by decide) (fun K hK => ?_) ?_
              · refine rg_call (by rfl) _ _ (.agg (clsA (joinC (lowC sgx x) tx))) (by first | (go_simp; done) | (go_simp; rfl)) (block_Join.calls (lowC sgx x) tx _) ?_
                intro W' hb
                have B08 := B07.below hb.out
                have B18 := B17.below hb.out
                have HB8' := HB7.step hb.out
                clear B07 B17 HB7
                refine hK.out _ _ B08 (fun hS => ?_)
                clear hK K
                try simp only [Act.put, List.setIfInBounds_toArray, List.set_cons_zero, List.set_cons_succ]
                refine wpAnyLast_ready (rs := [7]) (by kernel_rfl) (by simp) ?_
                refine AllReadyL.cons_last (o := Oper.mk _ _ _ _ _ _) rfl (by decide) (fun K hK => ?_) ?_
                · refine rg_store HB8' (by rfl) B08 GE_g0 100 _ _ rfl rfl rfl (sizeC' _) (by rw [clsA_size, clsA_size]) (clsA_one _) ?_
                  intro w9 B9 HB9 K9
                  have BO := B18.other K9 (Nat.ne_of_gt N01.out)
                  refine hK.out _ _ ?_
                  clear hK K
                  try simp only [Act.put, List.setIfInBounds_toArray, List.set_cons_zero, List.set_cons_succ]
                  refine wpAnyLast_done (by kernel_rfl) ?_ _
                  refine NoPanic.normal ?_
                  go_wp2
                  go_roundw
                  case rel => exact ⟨x + 1, by go_num, ⟨by have := HLT.out; omega⟩, B9.eqA (by rw [HT.out]; exact low_put sgx RX.out), BO.eqA (low_skip blx OX.out), HB9⟩
                  case measure => (simp [intOf]; have := HLT.out; omega)
                exact AllReadyL.nil
              exact AllReadyL.nil
            exact AllReadyL.nil
          exact AllReadyL.nil
        exact AllReadyL.nil
      · have hs0 : sgx x = false := by simpa using hs
        have hk1 : (kn == 1) = false := by rw [HKN.out]; exact kindN_not_sign hs0
        have OX := Aside0.mk hs0
        clear hs hs0
        by_cases hb : blx x = true
        · have hk2 : (kn == 2) = true := by rw [HKN.out, kindN_blank OX.out hb]; rfl
          have RX := Aside0.mk hb
          clear hb
          go_upto_region 8 with (first
          | (go_at_call 66; (with_reducible refine (KN.out _).mono ?_); rintro e w4 ⟨rfl, hb4⟩; have B04 := B0.below hb4; have B14 := B1.below hb4; have HB4 := HB.step hb4; clear hb4 B0 B1 HB))
          clear hk1 hk2
          have hbd : Aside0 (Below w4.heap.size w4 w4.drew) := ⟨below_drew (Below.refl _ _)⟩
          have B05 := B04.below hbd.out
          have B15 := B14.below hbd.out
          have HB5 := HB4.step hbd.out
          clear B04 B14 HB4 hbd
          refine wp_region_noPanic ?_
          refine wp_region_last_drew (S := fun W' => Blk W' g1 (clsA (lowC blx x)) 100) (ds := [7]) (by kernel_rfl) B15 (fun hS => ?_)
          refine wpAnyLast_take (i := 0) (oi := Oper.mk _ _ _ _ _ _) rfl (by kernel_rfl) (by kernel_rfl) (by kernel_rfl) (by kernel_rfl) (by kernel_rfl) (fun _ _ _ h => h) (rg_load (by rfl) (fun _ hS => hS) 100 _ rfl rfl Tryd.underlying100 rfl (sizeC' _)) hS ?_
          try simp only [Act.put, List.setIfInBounds_toArray, List.set_cons_zero, List.set_cons_succ]
          refine' wpAnyLast_take (i := 1) (oi := Oper.mk _ _ _ _ _ _) rfl (by kernel_rfl) (by kernel_rfl) (by kernel_rfl) (by kernel_rfl) (by kernel_rfl) (fun _ _ _ h => h) (Or.inl ⟨by rfl, ?hy3⟩) hS ?rest3
          case hy3 => (intro w hSw; (try dsimp only at hSw); first | (go_simp; done) | (go_simp; with_reducible rfl))
          try simp only [Act.put, List.setIfInBounds_toArray, List.set_cons_zero, List.set_cons_succ]
          refine' wpAnyLast_take (i := 2) (oi := Oper.mk _ _ _ _ _ _) rfl (by kernel_rfl) (by kernel_rfl) (by kernel_rfl) (by kernel_rfl) (by kernel_rfl) (fun _ _ _ h => h) (Or.inl ⟨by rfl, ?hy4⟩) hS ?rest4
          case hy4 => (intro w hSw; (try dsimp only at hSw); first | (go_simp; done) | (go_simp; with_reducible rfl))
          try simp only [Act.put, List.setIfInBounds_toArray, List.set_cons_zero, List.set_cons_succ]
          refine wpAnyLast_ready (rs := [3]) (by kernel_rfl) (by simp) ?_
          refine AllReadyL.cons (o := Oper.mk _ _ _ _ _ _) rfl (by decide) (fun K hK => ?_) ?_
          · refine rg_lit HB5 (by rfl) (.int .u8 (x : Int)) 5 (by first | (go_simp; done) | (go_simp; rfl)) ?_
            intro gN w6 sN HB6 hb
            have B06 := B05.below hb.out
            have B16 := B15.below hb.out
            have sN6 := sN.eqA (show (#[Value.int .u8 (x : Int)] : Array Value) = #[.int .u8 (((UInt8.ofNat x).toNat : Nat) : Int)] by rw [HB8.out])
            refine hK.out _ _ B16 (fun hS => ?_)
            clear hK K sN hb B05 B15 HB5
            try simp only [Act.put, List.setIfInBounds_toArray, List.set_cons_zero, List.set_cons_succ]
            refine wpAnyLast_ready (rs := [4]) (by kernel_rfl) (by simp) ?_
            refine AllReadyL.cons (o := Oper.mk _ _ _ _ _ _) rfl (by decide) (fun K hK => ?_) ?_
            · refine rg_str1 (by rfl) sN6 54 9 5 _ rfl rfl Tryd.underlying54 Tryd.underlying5 Tryd.underlying9 ?_
              rw [← HSTR.out]
              refine hK.out _ _ hS (fun hS => ?_)
              clear hK K sN6
              try simp only [Act.put, List.setIfInBounds_toArray, List.set_cons_zero, List.set_cons_succ]
              refine wpAnyLast_ready (rs := [5]) (by kernel_rfl) (by simp) ?_
              refine AllReadyL.cons (o := Oper.mk _ _ _ _ _ _) rfl (by decide) (fun K hK => ?_) ?_
              · refine rg_call (by rfl) _ _ (.agg (clsA tx)) (by first | (go_simp; done) | (go_simp; rfl)) (OF.out _) ?_
                intro W' hb
                have B07 := B06.below hb.out
                have B17 := B16.below hb.out
                have HB7 := HB6.step hb.out
                clear B06 B16 HB6
                refine hK.out _ _ B17 (fun hS => ?_)
                clear hK K
                try simp only [Act.put, List.setIfInBounds_toArray, List.set_cons_zero, List.set_cons_succ]
                refine wpAnyLast_ready (rs := [6]) (by kernel_rfl) (by simp) ?_
                refine AllReadyL.cons (o := Oper.mk _ _ _ _ _ _) rfl (by decide) (fun K hK => ?_) ?_
                · refine rg_call (by rfl) _ _ (.agg (clsA (joinC (lowC blx x) tx))) (by first | (go_simp; done) | (go_simp; rfl)) (block_Join.calls (lowC blx x) tx _) ?_
                  intro W' hb
                  have B08 := B07.below hb.out
                  have B18 := B17.below hb.out
                  have HB8' := HB7.step hb.out
                  clear B07 B17 HB7
                  refine hK.out _ _ B18 (fun hS => ?_)
                  clear hK K
                  try simp only [Act.put, List.setIfInBounds_toArray, List.set_cons_zero, List.set_cons_succ]
                  refine wpAnyLast_ready (rs := [7]) (by kernel_rfl) (by simp) ?_
                  refine AllReadyL.cons_last (o := Oper.mk _ _ _ _ _ _) rfl (by decide) (fun K hK => ?_) ?_
                  · refine rg_store HB8' (by rfl) B18 GE_g1 100 _ _ rfl rfl rfl (sizeC' _) (by rw [clsA_size, clsA_size]) (clsA_one _) ?_
                    intro w9 B9 HB9 K9
                    have BO := B08.other K9 (Nat.ne_of_lt N01.out)
                    refine hK.out _ _ ?_
                    clear hK K
                    try simp only [Act.put, List.setIfInBounds_toArray, List.set_cons_zero, List.set_cons_succ]
                    refine wpAnyLast_done (by kernel_rfl) ?_ _
                    refine NoPanic.normal ?_
                    go_wp2
                    go_roundw
                    case rel => exact ⟨x + 1, by go_num, ⟨by have := HLT.out; omega⟩, BO.eqA (low_skip sgx OX.out), B9.eqA (by rw [HT.out]; exact low_put blx RX.out), HB9⟩
                    case measure => (simp [intOf]; have := HLT.out; omega)
                  exact AllReadyL.nil
                exact AllReadyL.nil
              exact AllReadyL.nil
            exact AllReadyL.nil
          exact AllReadyL.nil
        · have hb0 : blx x = false := by simpa using hb
          have hk2 : (kn == 2) = false := by rw [HKN.out]; exact kindN_not_blank OX.out hb0
          have PX := Aside0.mk hb0
          clear hb hb0
          go_wp2_with (first
          | (go_at_call 66; (with_reducible refine (KN.out _).mono ?_); rintro e w4 ⟨rfl, hb4⟩; have B04 := B0.below hb4; have B14 := B1.below hb4; have HB4 := HB.step hb4; clear hb4 B0 B1 HB))
          go_roundw
          case rel => exact ⟨x + 1, by go_num, ⟨by have := HLT.out; omega⟩, B04.eqA (low_skip sgx OX.out), B14.eqA (low_skip blx PX.out), HB4⟩
          case measure => (simp [intOf]; have := HLT.out; omega)
    · obtain rfl : x = 256 := by have := HX.out; omega
      clear hlt
      have C0 := B0.eqA (low_end sgx)
      have C1 := B1.eqA (low_end blx)
      have hbd : Aside0 (Below wr.heap.size wr wr.drew) := ⟨below_drew (Below.refl _ _)⟩
      have D0 := C0.below hbd.out
      have D1 := C1.below hbd.out
      have HB5 := HB.step hbd.out
      clear B0 B1 HB hbd
      go_upto_region 10 with (fail)
      refine wp_region_noPanic ?_
      refine wp_region_last_drew (S := fun W' => Blk W' g0 (clsA sgx) 100 ∧ Blk W' g1 (clsA blx) 100) (ds := []) (by kernel_rfl) ⟨D0, D1⟩ (fun hS => ?_)
      refine wpAnyLast_take (i := 0) (oi := Oper.mk _ _ _ _ _ _) rfl (by kernel_rfl) (by kernel_rfl) (by kernel_rfl) (by kernel_rfl) (by kernel_rfl) (fun _ _ _ h => h) (rg_load (by rfl) (fun _ hS => hS.1) 100 _ rfl rfl Tryd.underlying100 rfl (sizeC' _)) hS ?_
      try simp only [Act.put, List.setIfInBounds_toArray, List.set_cons_zero, List.set_cons_succ]
      refine wpAnyLast_take (i := 1) (oi := Oper.mk _ _ _ _ _ _) rfl (by kernel_rfl) (by kernel_rfl) (by kernel_rfl) (by kernel_rfl) (by kernel_rfl) (fun _ _ _ h => h) (rg_load (by rfl) (fun _ hS => hS.2) 100 _ rfl rfl Tryd.underlying100 rfl (sizeC' _)) hS ?_
      try simp only [Act.put, List.setIfInBounds_toArray, List.set_cons_zero, List.set_cons_succ]
      refine wpAnyLast_ready (rs := [2]) (by kernel_rfl) (by simp) ?_
      refine AllReadyL.cons (o := Oper.mk _ _ _ _ _ _) rfl (by decide) (fun K hK => ?_) ?_
      · refine rg_store HB5 (by rfl) D0 GE_g0 100 _ _ rfl rfl rfl (sizeC' _) (by simp only [clsA_size]) (clsA_one _) ?_
        intro w6 E0 HB6 K2
        have E1 := D1.other K2 (Nat.ne_of_gt N01.out)
        refine hK.out _ _ ⟨E0, E1⟩ (fun hS => ?_)
        clear hK K
        try simp only [Act.put, List.setIfInBounds_toArray, List.set_cons_zero, List.set_cons_succ]
        refine wpAnyLast_ready (rs := [3]) (by kernel_rfl) (by simp) ?_
        refine AllReadyL.cons (o := Oper.mk _ _ _ _ _ _) rfl (by decide) (fun K hK => ?_) ?_
        · refine rg_store HB6 (by rfl) E1 GE_g1 100 _ _ rfl rfl rfl (sizeC' _) (by simp only [clsA_size]) (clsA_one _) ?_
          intro w7 F1 HB7 K3
          have F0 := E0.other K3 (Nat.ne_of_lt N01.out)
          refine hK.out _ _ ⟨F0, F1⟩ (fun hS => ?_)
          clear hK K
          try simp only [Act.put, List.setIfInBounds_toArray, List.set_cons_zero, List.set_cons_succ]
          refine wpAnyLast_done (by kernel_rfl) ?_ _
          refine NoPanic.normal ?_
          go_wp2
          exact bodyPost_ret (results_cells2 rfl _ _ g0 g1 100 _ _ _ rfl rfl F0 F1 Tryd.underlying100 rfl (sizeC' _) (sizeC' _)) rfl ⟨rfl, HB7.out⟩
        exact AllReadyL.nil
      exact AllReadyL.nil
end


open Go.Proofs.YtfihkkjkifkemaaDoorQ Go.Proofs.YtfihkkjkifkemaaDoorM in
set_option maxHeartbeats 400000 in
set_option maxRecDepth 100000 in
theorem block_Mask.calls (f : Nat → Int) (hf : ∀ i, 0 ≤ f i ∧ f i < 256) (p : Nat → Bool) (w : World) :
    Calls Tryd.prog 53 #[.agg (blkA f), .agg (clsA p)] w fun e w' => e = .returned (.int .u64 (iv (word fun j => p (f j).toNat))) ∧ Below w.heap.size w w' := by
  have HB := BelowH.refl w
  have HF := Aside0.mk fun i => hf i
  clear hf
  go_enter Tryd.func53, Tryd.ntmps53
  go_upto_region 1 with (first
    | ((with_reducible refine gate_dst (N := 2) rfl ?_); refine ev_alloc HB rfl (blkA f) 106 ?hr ?_; (case hr => first | (go_simp; done) | (go_simp; rfl)); intro g0 w1 G_g0 GE_g0 B_g0 HBn K_g0; clear HB; have HB := HBn; clear HBn)
    | ((with_reducible refine gate_dst (N := 3) rfl ?_); refine ev_alloc HB rfl (clsA (p)) 100 ?hr ?_; (case hr => first | (go_simp; done) | (go_simp; rfl)); intro g1 w2 G_g1 GE_g1 B_g1 HBn K_g1; clear HB; have HB := HBn; clear HBn))
  obtain ⟨bz, hbz⟩ : ∃ bz, bz = ((List.range 4).all fun j => iv (clsW p j) == 0) := ⟨_, rfl⟩
  have EQ : ∀ (W : World), (Op.equalIn 10000 98 (.agg (clsA p)) (.agg #[.int .u64 0, .int .u64 0, .int .u64 0, .int .u64 0])).run Tryd.prog W = .ok bz W := by
    intro W
    rw [hbz]
    exact run_eqArr (P := Tryd.prog) Tryd.underlying98 (by kernel_rfl) (by kernel_rfl) Tryd.underlying79 (fun j => iv (clsW p j)) (fun _ => 0) (fun j hj => clsA_get _ hj) (fun j hj => by
      have : ∀ j : Fin 4, (#[.int .u64 0, .int .u64 0, .int .u64 0, .int .u64 0] : Array Value)[j.val]? = some (.int .u64 0) := by
        intro j
        match j with
        | 0 => rfl
        | 1 => rfl
        | 2 => rfl
        | 3 => rfl
      exact this ⟨j, hj⟩) 9998 W
  cases bz with
  | true =>
    have HN := Aside0.mk (cls_none hbz.symm)
    clear hbz
    go_wp2_with (first
      | ((with_reducible refine gate_dst (N := 9) rfl ?_); refine ev_loadS B_g1 rfl 98 _ rfl rfl Tryd.underlying98 rfl (size4' _) ?_))
    go_ret
    exact ⟨by rw [word_none fun i _ => HN.out _ (by have := HF.out i; omega)]; rfl, HB.out⟩
  | false =>
    clear hbz
    go_upto_region 3 with (first
      | ((with_reducible refine gate_dst (N := 9) rfl ?_); refine ev_loadS B_g1 rfl 98 _ rfl rfl Tryd.underlying98 rfl (size4' _) ?_))
    clear EQ
    go_wp2_with (first
      | ((with_reducible refine gate_dst (N := 12) rfl ?_); refine ev_loadS (B_g0.below K_g1.out) rfl 106 _ rfl rfl Tryd.underlying106 rfl (size64' _) ?_))
    go_loopw [5, 13] (fun v5 v13 wr => ∃ i : Nat, i ≤ 64 ∧ v13 = .int .i64 i ∧ v5 = .int .u64 (iv (word fun j => decide (j < i) && p (f j).toNat)) ∧ Blk wr g1 (clsA p) 100 ∧ BelowH w wr) (fun _ v13 _ => 64 - (intOf v13).toNat)
    case atStart => exact ⟨0, by omega, rfl, by rw [word_none]; simp, B_g1, HB⟩
    case round =>
      clear B_g0 B_g1 HB
      obtain ⟨i, hi, rfl, rfl, B1, HB⟩ := hrel
      by_cases hlt : i < 64
      · obtain ⟨x, hx⟩ : ∃ x : Nat, f i = (x : Int) := ⟨(f i).toNat, by have := HF.out i; omega⟩
        have hx6 : x < 256 := by have := HF.out i; omega
        obtain ⟨k, hk⟩ : ∃ k : Nat, k = x / 64 := ⟨_, rfl⟩
        obtain ⟨m, hm⟩ : ∃ m : Nat, m = x % 64 := ⟨_, rfl⟩
        have hk1 : (x : Int) / 64 = (k : Int) := by omega
        have hk4 : (k : Int) < 4 := by omega
        have hm1 : bits .and .u8 (x : Int) 63 = (m : Int) := by rw [bits_and_u8_63 _ hx6, hm]
        have hm4 : (m : Int) < 64 := by omega
        have hc := B1.cell (clsA_get p (show k < 4 by omega))
        have hfi := blkA_get f hlt
        rw [hx] at hfi
        have IX : ∀ W : World, (Instr.index 106 (.agg (blkA f)) (.int .i64 (i : Int))).run Tryd.prog W = .ok (.int .u8 (x : Int)) W := fun W => run_index_arr (P := Tryd.prog) Tryd.underlying106 (by kernel_rfl) (by kernel_rfl) (by kernel_rfl) hlt hfi .i64 W
        have ST := Aside0.mk (mask_step_at p f hx hk hm hlt)
        have KI := Aside0.mk hlt
        have h1 : (i : Int) < 64 := by omega
        clear hx hx6 hk hm hlt hfi hi
        go_wp2
        go_roundw
        case rel => exact ⟨i + 1, by have := KI.out; omega, by go_num, by rw [ST.out], B1, HB⟩
        case measure =>
          simp [intOf]
          have := KI.out
          omega
      · obtain rfl : i = 64 := by omega
        go_wp2
        go_ret
        exact ⟨by rw [word_done]; rfl, HB.out⟩


end Go.Proofs.YtfihkkjkifkemaaDoor.PS
end
