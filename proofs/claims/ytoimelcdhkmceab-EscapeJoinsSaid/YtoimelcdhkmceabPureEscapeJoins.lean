/-
  EscapeJoins: of two texts, one behind the other, the bits of the first one are as they were, those of the second one as the first one leaves it; and what comes behind both.
-/
import Derived.Test.YtoimelcdhkmceabPJx3
import Derived.Test.YtoimelcdhkmceabQc
namespace Go.Proofs.Ytoimelcdhkmceab.Pure
open Go Go.RowKit Go.Proofs.Ytoimelcdhkmceab.PJ Go.Proofs.YtoimelcdhkmceabW.PrintWords Go.Proofs.YtoimelcdhkmceabW.PrintLast Go.Proofs.YtoimelcdhkmceabQ
/-- How many backslashes end ahead of a place. -/
def runs (s : ByteArray) : Nat → Nat
  | 0 => 0
  | i + 1 => if bt s (i : Int) = 92 then runs s i + 1 else 0
theorem runs_le (s : ByteArray) : ∀ i, runs s i ≤ i
  | 0 => Nat.le_refl _
  | i + 1 => by have := runs_le s i; unfold runs; split <;> omega
theorem odd_loop (s : ByteArray) (a : Int) (ha0 : 0 ≤ a) (ha : a ≤ s.size) (hn : s.size ≤ 281474976702464) :
    ∀ (i k : Nat), (i : Int) ≤ a → i < k → escape_Odd.l0 k s a (i : Int) = some ((i : Int) - runs s i, (Int.tmod (a - ((i : Int) - runs s i)) 2 == 1)) := by
  intro i
  induction i with
  | zero =>
    intro k hi hk
    obtain ⟨k, rfl⟩ : ∃ m, k = m + 1 := ⟨k - 1, by omega⟩
    have e : wrap64 (a - ((0 : Nat) : Int)) = a - ((0 : Nat) : Int) := by unfold wrap64; omega
    simp only [escape_Odd.l0, runs]
    rw [if_neg (by omega), e]
    simp
  | succ i ih =>
    intro k hi hk
    obtain ⟨k, rfl⟩ : ∃ m, k = m + 1 := ⟨k - 1, by omega⟩
    have e1 : wrap64 (((i + 1 : Nat) : Int) - 1) = (i : Int) := by unfold wrap64; omega
    have hr := runs_le s i
    simp only [escape_Odd.l0, e1]
    rw [if_pos (by omega), if_pos (by omega), if_pos (by omega)]
    by_cases h : bt s (i : Int) = 92
    · rw [if_pos h, ih k (by omega) (by omega)]
      simp only [runs, if_pos h]
      have : ((i : Int) - (runs s i : Nat)) = ((i + 1 : Nat) : Int) - ((runs s i + 1 : Nat) : Int) := by omega
      rw [this]
    · rw [if_neg h]
      simp only [runs, if_neg h]
      have e : wrap64 (a - ((i + 1 : Nat) : Int)) = a - ((i + 1 : Nat) : Int) := by unfold wrap64; omega
      rw [e]
      simp
/-- An odd number of backslashes ahead, and the byte is escaped. -/
theorem esc_runs (s : ByteArray) : ∀ i, esc s false i = decide (runs s i % 2 = 1)
  | 0 => rfl
  | i + 1 => by
    have := esc_runs s i
    show (decide (bt s (i : Int) = 92) && !esc s false i) = _
    by_cases h : bt s (i : Int) = 92
    · have e : runs s (i + 1) = runs s i + 1 := if_pos h
      rw [e, this, decide_eq_true h, Bool.true_and]
      by_cases g : runs s i % 2 = 1
      · rw [decide_eq_true g, decide_eq_false (by omega)]; rfl
      · rw [decide_eq_false g, decide_eq_true (by omega)]; rfl
    · have e : runs s (i + 1) = 0 := if_neg h
      rw [e, decide_eq_false h]; rfl
theorem odd_eq (s : ByteArray) (hn : s.size ≤ 281474976702464) (i k : Nat) (hi : i ≤ s.size) (hk : s.size + 1 < k) :
    escape_Odd.f k s (i : Int) = some (((i - runs s i : Nat) : Int), esc s false i) := by
  obtain ⟨k, rfl⟩ : ∃ m, k = m + 1 := ⟨k - 1, by omega⟩
  have hr := runs_le s i
  unfold escape_Odd.f
  rw [if_neg (by omega)]
  simp only [escape_Odd.j0]
  rw [if_neg (by simpa using by omega), odd_loop s (i : Int) (by omega) (by omega) hn i k (by omega) (by omega)]
  have e : (i : Int) - (runs s i : Nat) = ((i - runs s i : Nat) : Int) := by omega
  have e2 : (i : Int) - ((i - runs s i : Nat) : Int) = ((runs s i : Nat) : Int) := by omega
  rw [e, e2, esc_runs]
  have e3 : Int.tmod ((runs s i : Nat) : Int) 2 = ((runs s i % 2 : Nat) : Int) := rfl
  rw [e3]
  by_cases g : runs s i % 2 = 1
  · rw [g]; rfl
  · rw [show runs s i % 2 = 0 by omega]; rfl
/-- The bytes of the run are backslashes, and the byte ahead of it is none. -/
theorem runs_all (s : ByteArray) : ∀ i j, i - runs s i ≤ j → j < i → bt s (j : Int) = 92
  | 0, _, _, h => absurd h (by omega)
  | i + 1, j, h1, h2 => by
    simp only [runs] at h1
    by_cases h : bt s (i : Int) = 92
    · rw [if_pos h] at h1
      by_cases g : j = i
      · rw [g]; exact h
      · exact runs_all s i j (by omega) (by omega)
    · rw [if_neg h] at h1; omega
theorem runs_before (s : ByteArray) : ∀ i, 0 < i - runs s i → bt s ((i - runs s i - 1 : Nat) : Int) ≠ 92
  | 0, h => absurd h (by omega)
  | i + 1, h1 => by
    simp only [runs] at h1 ⊢
    have hr := runs_le s i
    by_cases h : bt s (i : Int) = 92
    · rw [if_pos h] at h1 ⊢
      have := runs_before s i (by omega)
      rw [show i + 1 - (runs s i + 1) - 1 = i - runs s i - 1 by omega]
      exact this
    · rw [if_neg h]; exact h
theorem size_eq (n : Nat) (h : n ≤ 281474976710656) : bitmap_size.f (n : Int) = some ((nwords n : Nat) : Int) := by
  unfold bitmap_size.f
  have e1 : Int.tmod (n : Int) 64 = ((n % 64 : Nat) : Int) := rfl
  have e2 : Int.tdiv (n : Int) 64 = ((n / 64 : Nat) : Int) := rfl
  have e3 : wrap64 ((n / 64 : Nat) : Int) = ((n / 64 : Nat) : Int) := by unfold wrap64; omega
  rw [e1, e2, e3]
  have e4 : wrap64 (((n / 64 : Nat) : Int) + 1) = ((n / 64 : Nat) : Int) + 1 := by unfold wrap64; omega
  rw [e4]
  unfold nwords
  by_cases h : n % 64 = 0
  · rw [if_pos (by omega)]; congr 1; omega
  · rw [if_neg (by omega)]; congr 1; omega
/-- The bits that the last word of a row may have. -/
def tailW (n : Nat) : BitVec 64 := if n % 64 = 0 then 18446744073709551615#64 else BitVec.ofNat 64 (2 ^ (n % 64) - 1)
theorem shl_one (m : Nat) (h : m < 64) : shl .u64 1 (m : Int) = ((2 ^ m : Nat) : Int) := by
  have : ∀ m : Fin 64, shl .u64 1 ((m.val : Nat) : Int) = ((2 ^ m.val : Nat) : Int) := by decide
  exact this ⟨m, h⟩
theorem tail_eq (n : Nat) : bitmap_tail.f (n : Int) = some (iv (tailW n)) := by
  unfold bitmap_tail.f tailW
  have e1 : Int.tmod (n : Int) 64 = ((n % 64 : Nat) : Int) := rfl
  rw [e1]
  by_cases h : n % 64 = 0
  · rw [if_pos (by omega), if_pos h]; rfl
  · rw [if_neg (by omega), if_neg h, if_pos (by omega), shl_one _ (by omega)]
    have hp : 0 < 2 ^ (n % 64) := Nat.pow_pos (by decide)
    have hq : 2 ^ (n % 64) < 2 ^ 64 := Nat.pow_lt_pow_right (by decide) (by omega)
    have : ((2 ^ (n % 64) : Nat) : Int) - 1 = ((2 ^ (n % 64) - 1 : Nat) : Int) := by omega
    rw [this, wrap_nat]
    unfold iv
    rw [BitVec.toNat_ofNat]
theorem rd_words (n : Nat) (p : Nat → Bool) (k : Nat) (h : k < nwords n) : rd (wordsOf n p) (k : Int) = iv (wordAt n p k) := by
  unfold rd
  rw [Int.toNat_natCast]
  exact wordsOf_get n p k h
/-- What is told of a row of bits is well formed. -/
theorem formed_eq (n : Nat) (p : Nat → Bool) (h : n ≤ 281474976710656) : bitmap_Formed.f (n : Int) (wordsOf n p) = some true := by
  unfold bitmap_Formed.f
  rw [if_neg (by omega), size_eq n h, Option.bind_some, wordsOf_length, if_pos rfl]
  by_cases h0 : n = 0
  · rw [if_pos (by omega)]
  · have hw : 0 < nwords n := by unfold nwords; omega
    have hb : nwords n ≤ 281474976710656 := by unfold nwords; omega
    have e : wrap64 (((nwords n : Nat) : Int) - 1) = ((nwords n - 1 : Nat) : Int) := by unfold wrap64; omega
    rw [if_neg (by omega), e, if_pos (by omega), if_pos (by omega), tail_eq, Option.bind_some, rd_words n p _ (by omega), bits_andNot]
    have hz : wordAt n p (nwords n - 1) &&& ~~~tailW n = 0#64 := by
      refine BitVec.eq_of_getLsbD_eq fun i hi => ?_
      rw [BitVec.getLsbD_and, BitVec.getLsbD_not]
      unfold wordAt
      rw [word_bit]
      unfold tailW
      have hn : nwords n = (n + 63) / 64 := rfl
      by_cases g : n % 64 = 0
      · rw [if_pos g]
        have : (18446744073709551615#64).getLsbD i = true := by
          have : ∀ i : Fin 64, (18446744073709551615#64).getLsbD i.val = true := by decide
          exact this ⟨i, hi⟩
        rw [this]; simp
      · rw [if_neg g, BitVec.getLsbD_ofNat, Nat.testBit_two_pow_sub_one]
        by_cases g2 : i < n % 64
        · simp [g2, hi]
        · have : ¬ (64 * (nwords n - 1) + i < n) := by omega
          simp [this]
    rw [hz]
    rfl
theorem get_eq (n : Nat) (p : Nat → Bool) (h : n ≤ 281474976710656) (i : Nat) (hi : i < n) : bitmap_Get.f (n : Int) (wordsOf n p) (i : Int) = some (p i) := by
  unfold bitmap_Get.f
  have e1 : Int.tmod (i : Int) 64 = ((i % 64 : Nat) : Int) := rfl
  have e2 : Int.tdiv (i : Int) 64 = ((i / 64 : Nat) : Int) := rfl
  have e3 : wrap64 ((i / 64 : Nat) : Int) = ((i / 64 : Nat) : Int) := by unfold wrap64; omega
  have hn : nwords n = (n + 63) / 64 := rfl
  rw [formed_eq n p h, Option.bind_some, if_pos rfl, if_pos (by omega), if_pos (by omega), e1, e2, e3, if_pos (by omega), if_pos (by rw [wordsOf_length]; omega), if_pos (by omega), rd_words n p _ (by omega)]
  have es : shr .u64 (iv (wordAt n p (i / 64))) ((i % 64 : Nat) : Int) = iv (wordAt n p (i / 64) >>> (i % 64)) := by
    rw [← shr_iv]
    unfold shr
    rw [Int.toNat_natCast, Nat.min_eq_left (by show i % 64 ≤ 64; omega)]
  have e1' : (1 : Int) = iv (1#64) := rfl
  rw [es, e1', bits_and]
  have hb : (wordAt n p (i / 64) >>> (i % 64)) &&& 1#64 = if p i then 1#64 else 0#64 := by
    refine BitVec.eq_of_getLsbD_eq fun j hj => ?_
    rw [BitVec.getLsbD_and, BitVec.getLsbD_ushiftRight]
    unfold wordAt
    rw [word_bit]
    have h1 : (1#64).getLsbD j = decide (j = 0) := by
      have : ∀ i : Fin 64, (1#64).getLsbD i.val = decide (i.val = 0) := by decide
      exact this ⟨j, hj⟩
    rw [h1]
    by_cases g : j = 0
    · subst g
      have a1 : i % 64 + 0 < 64 := by omega
      have a2 : 64 * (i / 64) + (i % 64 + 0) = i := by omega
      rw [a2]
      rw [decide_eq_true a1, decide_eq_true hi]
      cases p i <;> rfl
    · cases p i <;> simp [g, h1]
  rw [hb]
  cases p i <;> rfl
theorem esc_first (s : ByteArray) (f : Bool) : ∀ i, esc s f i = (esc s false i ^^ (f && decide (runs s i = i)))
  | 0 => by cases f <;> rfl
  | i + 1 => by
    have h := esc_first s f i
    have hr := runs_le s i
    show (decide (bt s (i : Int) = 92) && !esc s f i) = ((decide (bt s (i : Int) = 92) && !esc s false i) ^^ _)
    by_cases g : bt s (i : Int) = 92
    · have e : runs s (i + 1) = runs s i + 1 := if_pos g
      have e2 : decide (runs s i + 1 = i + 1) = decide (runs s i = i) := decide_eq_decide.mpr (by omega)
      rw [e, e2, h, decide_eq_true g]
      cases esc s false i <;> cases (f && decide (runs s i = i)) <;> rfl
    · have e : runs s (i + 1) = 0 := if_neg g
      rw [e, decide_eq_false g, decide_eq_false (show ¬ 0 = i + 1 by omega)]
      cases f <;> rfl
/-- Behind: is what comes behind the text escaped. -/
theorem behind_all (s : ByteArray) (hn : s.size ≤ 281474976702464) (f : Bool) (k : Nat) (hk : s.size + 1 < k) : escape_Behind.f k s f = some (esc s f s.size) := by
  have hr := runs_le s s.size
  unfold escape_Behind.f
  rw [odd_eq s hn s.size k (Nat.le_refl _) hk, Option.bind_some, esc_first s f]
  by_cases h : ((s.size - runs s s.size : Nat) : Int) = 0
  · rw [if_pos h, decide_eq_true (show runs s s.size = s.size by omega)]
    cases f
    · rw [if_neg (by decide)]; simp
    · rw [if_pos rfl]; simp
  · rw [if_neg h, decide_eq_false (show ¬ runs s s.size = s.size by intro g; exact h (by omega))]
    simp
theorem bt_left (s t : ByteArray) (i : Nat) (h : i < s.size) : bt (s ++ t) (i : Int) = bt s (i : Int) := by
  have hz : (s ++ t).size = s.size + t.size := ByteArray.size_append
  unfold bt
  simp only [Int.toNat_natCast]
  rw [dif_pos (by omega), dif_pos h, ByteArray.getElem_append_left h]
theorem bt_right (s t : ByteArray) (i : Nat) : bt (s ++ t) ((s.size + i : Nat) : Int) = bt t (i : Int) := by
  have hz : (s ++ t).size = s.size + t.size := ByteArray.size_append
  unfold bt
  simp only [Int.toNat_natCast]
  by_cases h : i < t.size
  · rw [dif_pos (by omega), dif_pos h, ByteArray.getElem_append_right (by omega)]
    simp only [Nat.add_sub_cancel_left]
  · rw [dif_neg (by omega), dif_neg h]
theorem esc_left (s t : ByteArray) (f : Bool) : ∀ i, i ≤ s.size → esc (s ++ t) f i = esc s f i
  | 0, _ => rfl
  | i + 1, h => by simp only [esc]; rw [esc_left s t f i (by omega), bt_left s t i (by omega)]
theorem esc_right (s t : ByteArray) (f : Bool) : ∀ i, esc (s ++ t) f (s.size + i) = esc t (esc s f s.size) i
  | 0 => esc_left s t f s.size (Nat.le_refl _)
  | i + 1 => by
    show (decide (bt (s ++ t) ((s.size + i : Nat) : Int) = 92) && !esc (s ++ t) f (s.size + i)) = _
    rw [bt_right, esc_right s t f i]; rfl
theorem one_byte : esc (⟨#[92]⟩ : ByteArray) false 1 = true := by decide +kernel
theorem one_other : esc (⟨#[97]⟩ : ByteArray) true 1 = false := by decide +kernel
theorem joins_first (s t : ByteArray) (hs : s.size ≤ 140737488351232) (ht : t.size ≤ 140737488351232) :
    ∀ (d i k : Nat), i + d = s.size → d < k → ∃ m, k ≤ m + d + 1 ∧ quarrylaw06_EscapeJoins.l0 k s t (i : Int) (s.size : Int) (wordsOf s.size (esc s false)) ((s ++ t).size : Int) (wordsOf (s ++ t).size (esc (s ++ t) false)) =
      (escape_Behind.f m s false).bind fun t125 => (quarrylaw06_EscapeJoins.l1 m s t t125 0 ((s ++ t).size : Int) (wordsOf (s ++ t).size (esc (s ++ t) false))) := by
  have hz : (s ++ t).size = s.size + t.size := ByteArray.size_append
  intro d
  induction d with
  | zero =>
    intro i k hi hk
    obtain ⟨k, rfl⟩ : ∃ m, k = m + 1 := ⟨k - 1, by omega⟩
    refine ⟨k, by omega, ?_⟩
    rw [quarrylaw06_EscapeJoins.l0, if_neg (by omega)]
  | succ d ih =>
    intro i k hi hk
    obtain ⟨k, rfl⟩ : ∃ m, k = m + 1 := ⟨k - 1, by omega⟩
    obtain ⟨m, hm, h⟩ := ih (i + 1) k (by omega) (by omega)
    have e : wrap64 ((i : Int) + 1) = ((i + 1 : Nat) : Int) := by unfold wrap64; omega
    refine ⟨m, by omega, ?_⟩
    rw [quarrylaw06_EscapeJoins.l0, if_pos (by omega), get_eq _ _ (by omega) i (by omega), Option.bind_some, get_eq _ _ (by omega) i (by omega), Option.bind_some, esc_left s t false i (by omega), if_neg (by simp), e, h]
theorem joins_second (s t : ByteArray) (hs : s.size ≤ 140737488351232) (ht : t.size ≤ 140737488351232) :
    ∀ (d j k : Nat), j + d = t.size → d + 10 < k → quarrylaw06_EscapeJoins.l1 k s t (esc (s ++ t) false (s.size + j)) (j : Int) ((s ++ t).size : Int) (wordsOf (s ++ t).size (esc (s ++ t) false)) = some true := by
  have hz : (s ++ t).size = s.size + t.size := ByteArray.size_append
  intro d
  induction d with
  | zero =>
    intro j k hj hk
    obtain ⟨k, rfl⟩ : ∃ m, k = m + 1 := ⟨k - 1, by omega⟩
    have h1 : (⟨#[92]⟩ : ByteArray).size = 1 := rfl
    have h2 : (⟨#[97]⟩ : ByteArray).size = 1 := rfl
    have e : wrap64 ((s.size : Int) + (t.size : Int)) = ((s ++ t).size : Int) := by rw [hz]; unfold wrap64; omega
    rw [quarrylaw06_EscapeJoins.l1, if_neg (by omega), e, if_pos rfl, behind_all _ (by rw [h1]; omega) _ k (by rw [h1]; omega), Option.bind_some, h1, one_byte, if_pos rfl, behind_all _ (by rw [h2]; omega) _ k (by rw [h2]; omega), Option.bind_some, h2, one_other]
    rfl
  | succ d ih =>
    intro j k hj hk
    obtain ⟨k, rfl⟩ : ∃ m, k = m + 1 := ⟨k - 1, by omega⟩
    have h := ih (j + 1) k (by omega) (by omega)
    have e : wrap64 ((j : Int) + 1) = ((j + 1 : Nat) : Int) := by unfold wrap64; omega
    have e1 : wrap64 ((s.size : Int) + (j : Int)) = ((s.size + j : Nat) : Int) := by unfold wrap64; omega
    have h3 : esc (s ++ t) false (s.size + (j + 1)) = (decide (bt t (j : Int) = 92) && !esc (s ++ t) false (s.size + j)) := by
      rw [← bt_right s t j]; rfl
    rw [quarrylaw06_EscapeJoins.l1, if_pos (by omega), e1, get_eq _ _ (by omega) (s.size + j) (by omega), Option.bind_some, if_neg (by simp), if_pos (by omega), e]
    by_cases g : bt t (j : Int) = 92
    · rw [h3, decide_eq_true g, Bool.true_and] at h
      rw [if_pos g, h]
    · rw [h3, decide_eq_false g, Bool.false_and] at h
      rw [if_neg g, h]
theorem EscapeJoins : quarrylaw06_EscapeJoins.Pure := by
  intro s t f hs ht
  have hz : (s ++ t).size = s.size + t.size := ByteArray.size_append
  refine ⟨s.size + t.size + s.size + 100, ?_⟩
  have hr := esc_right s t f t.size
  obtain ⟨m, hm, h⟩ := joins_first s t hs ht s.size 0 (s.size + t.size + s.size + 100) (by omega) (by omega)
  have h2 := joins_second s t hs ht t.size 0 m (by omega) (by omega)
  rw [show s.size + 0 = s.size from rfl, esc_left s t false s.size (Nat.le_refl _)] at h2
  rw [behind_all s (by omega) false m (by omega), Option.bind_some] at h
  rw [quarrylaw06_EscapeJoins.f, behind_all s (by omega) f _ (by omega), Option.bind_some, if_pos (by omega), behind_all (s ++ t) (by omega) f _ (by omega), Option.bind_some, behind_all t (by omega) _ _ (by omega), Option.bind_some, hz, hr, if_neg (by simp), escape_Escaped.f, if_pos (by omega), Option.bind_some, escape_Escaped.f, if_pos (by omega), Option.bind_some]
  exact h.trans h2

end Go.Proofs.Ytoimelcdhkmceab.Pure
