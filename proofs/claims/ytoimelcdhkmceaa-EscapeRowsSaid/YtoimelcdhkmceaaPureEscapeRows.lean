/-
  EscapeRows: of a text (its first 16384 bytes), escape.Escaped is well formed; at every byte escape.Odd tells the bit, and where the row of backslashes begins; and escape.Behind tells what is behind the last byte.
-/
import Derived.Test.YtoimelcdhkmceaaPEx5
import Derived.Test.YtoimelcdhkmceaaQc
namespace Go.Proofs.Ytoimelcdhkmceaa.Pure
open Go Go.RowKit Go.Proofs.Ytoimelcdhkmceaa.PE Go.Proofs.YtoimelcdhkmceaaW.PrintWords Go.Proofs.YtoimelcdhkmceaaW.PrintLast Go.Proofs.YtoimelcdhkmceaaQ
/-- How many backslashes end ahead of a place. -/
def runs (s : ByteArray) : Nat → Nat
  | 0 => 0
  | i + 1 => if bt s (i : Int) = 92 then runs s i + 1 else 0
theorem runs_le (s : ByteArray) : ∀ i, runs s i ≤ i
  | 0 => Nat.le_refl _
  | i + 1 => by have := runs_le s i; unfold runs; split <;> omega
theorem odd_loop (s : ByteArray) (a : Int) (ha0 : 0 ≤ a) (ha : a ≤ s.size) (hn : s.size ≤ 140737488351232) :
    ∀ (i k : Nat), (i : Int) ≤ a → i < k → escape_Odd.l0 k s a (i : Int) = some ((i : Int) - runs s i, (Int.tmod (a - ((i : Int) - runs s i)) 2 == 1)) := by
  intro i
  induction i with
  | zero =>
    intro k hi hk
    obtain ⟨k, rfl⟩ : ∃ m, k = m + 1 := ⟨k - 1, by omega⟩
    have e : wrap64 (a - ((0 : Nat) : Int)) = a - ((0 : Nat) : Int) := by unfold wrap64; omega
    simp only [escape_Odd.l0, runs]
    rw [if_neg (by omega), e]
    simp
  | succ i ih =>
    intro k hi hk
    obtain ⟨k, rfl⟩ : ∃ m, k = m + 1 := ⟨k - 1, by omega⟩
    have e1 : wrap64 (((i + 1 : Nat) : Int) - 1) = (i : Int) := by unfold wrap64; omega
    have hr := runs_le s i
    simp only [escape_Odd.l0, e1]
    rw [if_pos (by omega), if_pos (by omega), if_pos (by omega)]
    by_cases h : bt s (i : Int) = 92
    · rw [if_pos h, ih k (by omega) (by omega)]
      simp only [runs, if_pos h]
      have : ((i : Int) - (runs s i : Nat)) = ((i + 1 : Nat) : Int) - ((runs s i + 1 : Nat) : Int) := by omega
      rw [this]
    · rw [if_neg h]
      simp only [runs, if_neg h]
      have e : wrap64 (a - ((i + 1 : Nat) : Int)) = a - ((i + 1 : Nat) : Int) := by unfold wrap64; omega
      rw [e]
      simp
/-- An odd number of backslashes ahead, and the byte is escaped. -/
theorem esc_runs (s : ByteArray) : ∀ i, esc s false i = decide (runs s i % 2 = 1)
  | 0 => rfl
  | i + 1 => by
    have := esc_runs s i
    show (decide (bt s (i : Int) = 92) && !esc s false i) = _
    by_cases h : bt s (i : Int) = 92
    · have e : runs s (i + 1) = runs s i + 1 := if_pos h
      rw [e, this, decide_eq_true h, Bool.true_and]
      by_cases g : runs s i % 2 = 1
      · rw [decide_eq_true g, decide_eq_false (by omega)]; rfl
      · rw [decide_eq_false g, decide_eq_true (by omega)]; rfl
    · have e : runs s (i + 1) = 0 := if_neg h
      rw [e, decide_eq_false h]; rfl
theorem odd_eq (s : ByteArray) (hn : s.size ≤ 140737488351232) (i k : Nat) (hi : i ≤ s.size) (hk : s.size + 1 < k) :
    escape_Odd.f k s (i : Int) = some (((i - runs s i : Nat) : Int), esc s false i) := by
  obtain ⟨k, rfl⟩ : ∃ m, k = m + 1 := ⟨k - 1, by omega⟩
  have hr := runs_le s i
  unfold escape_Odd.f
  rw [if_neg (by omega)]
  simp only [escape_Odd.j0]
  rw [if_neg (by simpa using by omega), odd_loop s (i : Int) (by omega) (by omega) hn i k (by omega) (by omega)]
  have e : (i : Int) - (runs s i : Nat) = ((i - runs s i : Nat) : Int) := by omega
  have e2 : (i : Int) - ((i - runs s i : Nat) : Int) = ((runs s i : Nat) : Int) := by omega
  rw [e, e2, esc_runs]
  have e3 : Int.tmod ((runs s i : Nat) : Int) 2 = ((runs s i % 2 : Nat) : Int) := rfl
  rw [e3]
  by_cases g : runs s i % 2 = 1
  · rw [g]; rfl
  · rw [show runs s i % 2 = 0 by omega]; rfl
/-- The bytes of the run are backslashes, and the byte ahead of it is none. -/
theorem runs_all (s : ByteArray) : ∀ i j, i - runs s i ≤ j → j < i → bt s (j : Int) = 92
  | 0, _, _, h => absurd h (by omega)
  | i + 1, j, h1, h2 => by
    simp only [runs] at h1
    by_cases h : bt s (i : Int) = 92
    · rw [if_pos h] at h1
      by_cases g : j = i
      · rw [g]; exact h
      · exact runs_all s i j (by omega) (by omega)
    · rw [if_neg h] at h1; omega
theorem runs_before (s : ByteArray) : ∀ i, 0 < i - runs s i → bt s ((i - runs s i - 1 : Nat) : Int) ≠ 92
  | 0, h => absurd h (by omega)
  | i + 1, h1 => by
    simp only [runs] at h1 ⊢
    have hr := runs_le s i
    by_cases h : bt s (i : Int) = 92
    · rw [if_pos h] at h1 ⊢
      have := runs_before s i (by omega)
      rw [show i + 1 - (runs s i + 1) - 1 = i - runs s i - 1 by omega]
      exact this
    · rw [if_neg h]; exact h
theorem size_eq (n : Nat) (h : n ≤ 140737488355328) : bitmap_size.f (n : Int) = some ((nwords n : Nat) : Int) := by
  unfold bitmap_size.f
  have e1 : Int.tmod (n : Int) 64 = ((n % 64 : Nat) : Int) := rfl
  have e2 : Int.tdiv (n : Int) 64 = ((n / 64 : Nat) : Int) := rfl
  have e3 : wrap64 ((n / 64 : Nat) : Int) = ((n / 64 : Nat) : Int) := by unfold wrap64; omega
  rw [e1, e2, e3]
  have e4 : wrap64 (((n / 64 : Nat) : Int) + 1) = ((n / 64 : Nat) : Int) + 1 := by unfold wrap64; omega
  rw [e4]
  unfold nwords
  by_cases h : n % 64 = 0
  · rw [if_pos (by omega)]; congr 1; omega
  · rw [if_neg (by omega)]; congr 1; omega
/-- The bits that the last word of a row may have. -/
def tailW (n : Nat) : BitVec 64 := if n % 64 = 0 then 18446744073709551615#64 else BitVec.ofNat 64 (2 ^ (n % 64) - 1)
theorem shl_one (m : Nat) (h : m < 64) : shl .u64 1 (m : Int) = ((2 ^ m : Nat) : Int) := by
  have : ∀ m : Fin 64, shl .u64 1 ((m.val : Nat) : Int) = ((2 ^ m.val : Nat) : Int) := by decide
  exact this ⟨m, h⟩
theorem tail_eq (n : Nat) : bitmap_tail.f (n : Int) = some (iv (tailW n)) := by
  unfold bitmap_tail.f tailW
  have e1 : Int.tmod (n : Int) 64 = ((n % 64 : Nat) : Int) := rfl
  rw [e1]
  by_cases h : n % 64 = 0
  · rw [if_pos (by omega), if_pos h]; rfl
  · rw [if_neg (by omega), if_neg h, if_pos (by omega), shl_one _ (by omega)]
    have hp : 0 < 2 ^ (n % 64) := Nat.pow_pos (by decide)
    have hq : 2 ^ (n % 64) < 2 ^ 64 := Nat.pow_lt_pow_right (by decide) (by omega)
    have : ((2 ^ (n % 64) : Nat) : Int) - 1 = ((2 ^ (n % 64) - 1 : Nat) : Int) := by omega
    rw [this, wrap_nat]
    unfold iv
    rw [BitVec.toNat_ofNat]
theorem rd_words (n : Nat) (p : Nat → Bool) (k : Nat) (h : k < nwords n) : rd (wordsOf n p) (k : Int) = iv (wordAt n p k) := by
  unfold rd
  rw [Int.toNat_natCast]
  exact wordsOf_get n p k h
/-- What is told of a row of bits is well formed. -/
theorem formed_eq (n : Nat) (p : Nat → Bool) (h : n ≤ 140737488355328) : bitmap_Formed.f (n : Int) (wordsOf n p) = some true := by
  unfold bitmap_Formed.f
  rw [if_neg (by omega), size_eq n h, Option.bind_some, wordsOf_length, if_pos rfl]
  by_cases h0 : n = 0
  · rw [if_pos (by omega)]
  · have hw : 0 < nwords n := by unfold nwords; omega
    have hb : nwords n ≤ 140737488355328 := by unfold nwords; omega
    have e : wrap64 (((nwords n : Nat) : Int) - 1) = ((nwords n - 1 : Nat) : Int) := by unfold wrap64; omega
    rw [if_neg (by omega), e, if_pos (by omega), if_pos (by omega), tail_eq, Option.bind_some, rd_words n p _ (by omega), bits_andNot]
    have hz : wordAt n p (nwords n - 1) &&& ~~~tailW n = 0#64 := by
      refine BitVec.eq_of_getLsbD_eq fun i hi => ?_
      rw [BitVec.getLsbD_and, BitVec.getLsbD_not]
      unfold wordAt
      rw [word_bit]
      unfold tailW
      have hn : nwords n = (n + 63) / 64 := rfl
      by_cases g : n % 64 = 0
      · rw [if_pos g]
        have : (18446744073709551615#64).getLsbD i = true := by
          have : ∀ i : Fin 64, (18446744073709551615#64).getLsbD i.val = true := by decide
          exact this ⟨i, hi⟩
        rw [this]; simp
      · rw [if_neg g, BitVec.getLsbD_ofNat, Nat.testBit_two_pow_sub_one]
        by_cases g2 : i < n % 64
        · simp [g2, hi]
        · have : ¬ (64 * (nwords n - 1) + i < n) := by omega
          simp [this]
    rw [hz]
    rfl
theorem get_eq (n : Nat) (p : Nat → Bool) (h : n ≤ 140737488355328) (i : Nat) (hi : i < n) : bitmap_Get.f (n : Int) (wordsOf n p) (i : Int) = some (p i) := by
  unfold bitmap_Get.f
  have e1 : Int.tmod (i : Int) 64 = ((i % 64 : Nat) : Int) := rfl
  have e2 : Int.tdiv (i : Int) 64 = ((i / 64 : Nat) : Int) := rfl
  have e3 : wrap64 ((i / 64 : Nat) : Int) = ((i / 64 : Nat) : Int) := by unfold wrap64; omega
  have hn : nwords n = (n + 63) / 64 := rfl
  rw [formed_eq n p h, Option.bind_some, if_pos rfl, if_pos (by omega), if_pos (by omega), e1, e2, e3, if_pos (by omega), if_pos (by rw [wordsOf_length]; omega), if_pos (by omega), rd_words n p _ (by omega)]
  have es : shr .u64 (iv (wordAt n p (i / 64))) ((i % 64 : Nat) : Int) = iv (wordAt n p (i / 64) >>> (i % 64)) := by
    rw [← shr_iv]
    unfold shr
    rw [Int.toNat_natCast, Nat.min_eq_left (by show i % 64 ≤ 64; omega)]
  have e1' : (1 : Int) = iv (1#64) := rfl
  rw [es, e1', bits_and]
  have hb : (wordAt n p (i / 64) >>> (i % 64)) &&& 1#64 = if p i then 1#64 else 0#64 := by
    refine BitVec.eq_of_getLsbD_eq fun j hj => ?_
    rw [BitVec.getLsbD_and, BitVec.getLsbD_ushiftRight]
    unfold wordAt
    rw [word_bit]
    have h1 : (1#64).getLsbD j = decide (j = 0) := by
      have : ∀ i : Fin 64, (1#64).getLsbD i.val = decide (i.val = 0) := by decide
      exact this ⟨j, hj⟩
    rw [h1]
    by_cases g : j = 0
    · subst g
      have a1 : i % 64 + 0 < 64 := by omega
      have a2 : 64 * (i / 64) + (i % 64 + 0) = i := by omega
      rw [a2]
      rw [decide_eq_true a1, decide_eq_true hi]
      cases p i <;> rfl
    · cases p i <;> simp [g, h1]
  rw [hb]
  cases p i <;> rfl
theorem behind_eq (s : ByteArray) (hn : s.size ≤ 140737488351232) (k : Nat) (hk : s.size + 1 < k) : escape_Behind.f k s false = some (esc s false s.size) := by
  unfold escape_Behind.f
  rw [odd_eq s hn s.size k (Nat.le_refl _) hk, Option.bind_some]
  by_cases h : ((s.size - runs s s.size : Nat) : Int) = 0
  · rw [if_pos h, if_neg (by decide)]
  · rw [if_neg h]
theorem row_end (s : ByteArray) (hn : s.size ≤ 16384) (i k : Nat) (hi : i < s.size) :
    quarrylaw06_EscapeRows.j5 (k + 1) s (i : Int) (esc s false i) false (s.size : Int) (wordsOf s.size (esc s false)) =
      quarrylaw06_EscapeRows.l0 k s ((i + 1 : Nat) : Int) (s.size : Int) (wordsOf s.size (esc s false)) := by
  have e : wrap64 ((i : Int) + 1) = ((i + 1 : Nat) : Int) := by unfold wrap64; omega
  simp only [quarrylaw06_EscapeRows.j5, Bool.false_eq_true, if_false]
  rw [e]
  by_cases h : esc s false i = true
  · rw [if_pos h]
    obtain ⟨i, rfl⟩ : ∃ j, i = j + 1 := by
      cases i with
      | zero => exact absurd h Bool.false_ne_true
      | succ i => exact ⟨i, rfl⟩
    have e1 : wrap64 (((i + 1 : Nat) : Int) - 1) = (i : Int) := by unfold wrap64; omega
    have h2 : decide (bt s (i : Int) = 92) = true ∧ esc s false i = false := by
      have : (decide (bt s (i : Int) = 92) && !esc s false i) = true := h
      simpa using this
    rw [e1, if_pos (by omega), if_pos (by omega), if_pos (of_decide_eq_true h2.1), get_eq _ _ (by omega) i (by omega), Option.bind_some, h2.2, if_neg (by decide)]
  · rw [if_neg h]
theorem row_run (s : ByteArray) (hn : s.size ≤ 16384) (i : Nat) (hi : i < s.size) :
    ∀ (d j k : Nat), j + d = i → i - runs s i ≤ j → d + 1 < k → ∃ m, k ≤ m + d + 2 ∧ quarrylaw06_EscapeRows.l1 k s (i : Int) ((i - runs s i : Nat) : Int) (esc s false i) (j : Int) (s.size : Int) (wordsOf s.size (esc s false)) =
      quarrylaw06_EscapeRows.l0 m s ((i + 1 : Nat) : Int) (s.size : Int) (wordsOf s.size (esc s false)) := by
  intro d
  induction d with
  | zero =>
    intro j k hj h1 hk
    obtain ⟨k, rfl⟩ : ∃ m, k = (m + 1) + 1 := ⟨k - 2, by omega⟩
    refine ⟨k, by omega, ?_⟩
    have hb : (if ((i - runs s i : Nat) : Int) > 0 then (if 0 ≤ (wrap64 (((i - runs s i : Nat) : Int) - 1)) then (if (wrap64 (((i - runs s i : Nat) : Int) - 1)) < (s.size : Int) then (quarrylaw06_EscapeRows.j5 (k + 1) s (i : Int) (esc s false i) ((bt s (wrap64 (((i - runs s i : Nat) : Int) - 1))) == 92) (s.size : Int) (wordsOf s.size (esc s false))) else none) else none) else (quarrylaw06_EscapeRows.j5 (k + 1) s (i : Int) (esc s false i) false (s.size : Int) (wordsOf s.size (esc s false)))) = quarrylaw06_EscapeRows.j5 (k + 1) s (i : Int) (esc s false i) false (s.size : Int) (wordsOf s.size (esc s false)) := by
      by_cases g : 0 < i - runs s i
      · have e : wrap64 (((i - runs s i : Nat) : Int) - 1) = ((i - runs s i - 1 : Nat) : Int) := by unfold wrap64; omega
        rw [if_pos (by omega), e, if_pos (by omega), if_pos (by omega), beq_false_of_ne (runs_before s i g)]
      · rw [if_neg (by omega)]
    unfold quarrylaw06_EscapeRows.l1
    rw [if_neg (by omega)]
    exact hb.trans (row_end s hn i k hi)
  | succ d ih =>
    intro j k hj h1 hk
    obtain ⟨k, rfl⟩ : ∃ m, k = m + 1 := ⟨k - 1, by omega⟩
    have e : wrap64 ((j : Int) + 1) = ((j + 1 : Nat) : Int) := by unfold wrap64; omega
    obtain ⟨m, hm, h2⟩ := ih (j + 1) k (by omega) (by omega) (by omega)
    refine ⟨m, by omega, ?_⟩
    unfold quarrylaw06_EscapeRows.l1
    rw [if_pos (by omega), if_pos (by omega), if_pos (by omega), if_pos (runs_all s i j h1 (by omega)), e, h2]
theorem one_byte : esc (⟨#[92]⟩ : ByteArray) false 1 = true := by decide +kernel
theorem rows_loop (s : ByteArray) (hn : s.size ≤ 16384) :
    ∀ (d i k : Nat), i + d = s.size → (s.size + 5) * (d + 1) ≤ k → quarrylaw06_EscapeRows.l0 k s (i : Int) (s.size : Int) (wordsOf s.size (esc s false)) = some true := by
  intro d
  induction d with
  | zero =>
    intro i k hi hk
    obtain ⟨k, rfl⟩ : ∃ m, k = m + 1 := ⟨k - 1, by omega⟩
    have h1 : (⟨#[92]⟩ : ByteArray).size = 1 := rfl
    unfold quarrylaw06_EscapeRows.l0
    rw [if_neg (by omega), odd_eq s (by omega) s.size k (Nat.le_refl _) (by omega), Option.bind_some, behind_eq s (by omega) k (by omega), Option.bind_some, if_pos (by simp), behind_eq _ (by rw [h1]; omega) k (by rw [h1]; omega), h1, one_byte]
    rfl
  | succ d ih =>
    intro i k hi hk
    rw [Nat.mul_succ] at hk
    have hp : 1 ≤ d + 1 := by omega
    have hq := Nat.mul_le_mul_left (s.size + 5) hp
    obtain ⟨k, rfl⟩ : ∃ m, k = (m + 1) + 1 := ⟨k - 2, by omega⟩
    have hr := runs_le s i
    obtain ⟨m, hm, h2⟩ := row_run s hn i (by omega) (runs s i) (i - runs s i) k (by omega) (by omega) (by omega)
    have h3 := ih (i + 1) m (by omega) (by omega)
    unfold quarrylaw06_EscapeRows.l0
    rw [if_pos (by omega), odd_eq s (by omega) i (k + 1) (by omega) (by omega), Option.bind_some, get_eq _ _ (by omega) i (by omega), Option.bind_some, if_neg (by simp), if_neg (by show ¬ (((i - runs s i : Nat) : Int) < 0); omega), if_neg (by show ¬ (((i - runs s i : Nat) : Int) > (i : Int)); omega)]
    have e : wrap64 ((i : Int) - ((i - runs s i : Nat) : Int)) = ((runs s i : Nat) : Int) := by unfold wrap64; omega
    have e3 : Int.tmod ((runs s i : Nat) : Int) 2 = ((runs s i % 2 : Nat) : Int) := rfl
    have hx : (esc s false i != (Int.tmod (wrap64 ((i : Int) - ((i - runs s i : Nat) : Int))) 2 == 1)) = false := by
      rw [e, e3, esc_runs]
      by_cases g : runs s i % 2 = 1
      · rw [g]; rfl
      · rw [show runs s i % 2 = 0 by omega]; rfl
    show quarrylaw06_EscapeRows.j3 (k + 1) s (i : Int) ((i - runs s i : Nat) : Int) (esc s false i) (esc s false i != (Int.tmod (wrap64 ((i : Int) - ((i - runs s i : Nat) : Int))) 2 == 1)) (s.size : Int) (wordsOf s.size (esc s false)) = _
    rw [hx]
    simp only [quarrylaw06_EscapeRows.j3, Bool.false_eq_true, if_false]
    rw [h2, h3]
theorem rows_all (s : ByteArray) (hn : s.size ≤ 16384) (k : Nat) (hk : (s.size + 5) * (s.size + 1) + 2 ≤ k) : quarrylaw06_EscapeRows.j0 k s = some true := by
  obtain ⟨k, rfl⟩ : ∃ m, k = (m + 1) + 1 := ⟨k - 2, by omega⟩
  simp only [quarrylaw06_EscapeRows.j0, escape_Escaped.f]
  rw [if_pos (by omega), Option.bind_some, if_pos rfl, formed_eq _ _ (by omega), Option.bind_some]
  simp only [quarrylaw06_EscapeRows.j1, Bool.not_true, Bool.false_eq_true, if_false]
  exact rows_loop s hn s.size 0 k (by omega) (by omega)
theorem EscapeRows : quarrylaw06_EscapeRows.Pure := by
  intro s hn
  unfold quarrylaw06_EscapeRows.f
  by_cases h : s.size > 16384
  · have hs : (s.extract 0 16384).size = 16384 := by rw [ByteArray.size_extract]; omega
    refine ⟨(16384 + 5) * (16384 + 1) + 2, ?_⟩
    rw [if_pos (by omega), if_pos (by decide), if_pos (by omega)]
    exact rows_all _ (by omega) _ (by rw [hs]; exact Nat.le_refl _)
  · refine ⟨(s.size + 5) * (s.size + 1) + 2, ?_⟩
    rw [if_neg (by omega)]
    exact rows_all s (by omega) _ (Nat.le_refl _)

end Go.Proofs.Ytoimelcdhkmceaa.Pure
