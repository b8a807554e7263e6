/-
  PiecesStates: a text is open behind a piece just if quotes say so.
-/
import Derived.Test.YtifpahkgielocaaPTx4
import Derived.Test.YtifpahkgielocaaQf
import Derived.Test.YtifpahkgielocaaQp
import Derived.Test.YtifpahkgielocaaQe
namespace Go.Proofs.Ytifpahkgielocaa.Pure
open Go Go.RowKit Go.Proofs.Ytifpahkgielocaa.PT Go.Proofs.YtifpahkgielocaaW.PrintWords Go.Proofs.YtifpahkgielocaaW.PrintLast Go.Proofs.YtifpahkgielocaaQ
set_option linter.unusedVariables false
set_option linter.unusedSimpArgs false
theorem size_eq (n : Nat) (h : n ≤ 281474976710656) : bitmap_size.f (n : Int) = some ((nwords n : Nat) : Int) := by
  unfold bitmap_size.f
  have e1 : Int.tmod (n : Int) 64 = ((n % 64 : Nat) : Int) := rfl
  have e2 : Int.tdiv (n : Int) 64 = ((n / 64 : Nat) : Int) := rfl
  have e3 : wrap64 ((n / 64 : Nat) : Int) = ((n / 64 : Nat) : Int) := by unfold wrap64; omega
  rw [e1, e2, e3]
  have e4 : wrap64 (((n / 64 : Nat) : Int) + 1) = ((n / 64 : Nat) : Int) + 1 := by unfold wrap64; omega
  rw [e4]
  unfold nwords
  by_cases h : n % 64 = 0
  · rw [if_pos (by omega)]; congr 1; omega
  · rw [if_neg (by omega)]; congr 1; omega
/-- The bits that the last word of a row may have. -/
def tailW (n : Nat) : BitVec 64 := if n % 64 = 0 then 18446744073709551615#64 else BitVec.ofNat 64 (2 ^ (n % 64) - 1)
theorem shl_one (m : Nat) (h : m < 64) : shl .u64 1 (m : Int) = ((2 ^ m : Nat) : Int) := by
  have : ∀ m : Fin 64, shl .u64 1 ((m.val : Nat) : Int) = ((2 ^ m.val : Nat) : Int) := by decide
  exact this ⟨m, h⟩
theorem tail_eq (n : Nat) : bitmap_tail.f (n : Int) = some (iv (tailW n)) := by
  unfold bitmap_tail.f tailW
  have e1 : Int.tmod (n : Int) 64 = ((n % 64 : Nat) : Int) := rfl
  rw [e1]
  by_cases h : n % 64 = 0
  · rw [if_pos (by omega), if_pos h]; rfl
  · rw [if_neg (by omega), if_neg h, if_pos (by omega), shl_one _ (by omega)]
    have hp : 0 < 2 ^ (n % 64) := Nat.pow_pos (by decide)
    have hq : 2 ^ (n % 64) < 2 ^ 64 := Nat.pow_lt_pow_right (by decide) (by omega)
    have : ((2 ^ (n % 64) : Nat) : Int) - 1 = ((2 ^ (n % 64) - 1 : Nat) : Int) := by omega
    rw [this, wrap_nat]
    unfold iv
    rw [BitVec.toNat_ofNat]
theorem rd_words (n : Nat) (p : Nat → Bool) (k : Nat) (h : k < nwords n) : rd (wordsOf n p) (k : Int) = iv (wordAt n p k) := by
  unfold rd
  rw [Int.toNat_natCast]
  exact wordsOf_get n p k h
/-- What is told of a row of bits is well formed. -/
theorem formed_eq (n : Nat) (p : Nat → Bool) (h : n ≤ 281474976710656) : bitmap_Formed.f (n : Int) (wordsOf n p) = some true := by
  unfold bitmap_Formed.f
  rw [if_neg (by omega), size_eq n h, Option.bind_some, wordsOf_length, if_pos rfl]
  by_cases h0 : n = 0
  · rw [if_pos (by omega)]
  · have hw : 0 < nwords n := by unfold nwords; omega
    have hb : nwords n ≤ 281474976710656 := by unfold nwords; omega
    have e : wrap64 (((nwords n : Nat) : Int) - 1) = ((nwords n - 1 : Nat) : Int) := by unfold wrap64; omega
    rw [if_neg (by omega), e, if_pos (by omega), if_pos (by omega), tail_eq, Option.bind_some, rd_words n p _ (by omega), bits_andNot]
    have hz : wordAt n p (nwords n - 1) &&& ~~~tailW n = 0#64 := by
      refine BitVec.eq_of_getLsbD_eq fun i hi => ?_
      rw [BitVec.getLsbD_and, BitVec.getLsbD_not]
      unfold wordAt
      rw [word_bit]
      unfold tailW
      have hn : nwords n = (n + 63) / 64 := rfl
      by_cases g : n % 64 = 0
      · rw [if_pos g]
        have : (18446744073709551615#64).getLsbD i = true := by
          have : ∀ i : Fin 64, (18446744073709551615#64).getLsbD i.val = true := by decide
          exact this ⟨i, hi⟩
        rw [this]; simp
      · rw [if_neg g, BitVec.getLsbD_ofNat, Nat.testBit_two_pow_sub_one]
        by_cases g2 : i < n % 64
        · simp [g2, hi]
        · have : ¬ (64 * (nwords n - 1) + i < n) := by omega
          simp [this]
    rw [hz]
    rfl
theorem cnt_le (q : Nat → Bool) : ∀ n, cnt q n ≤ n
  | 0 => Nat.le_refl _
  | n + 1 => by
    have := cnt_le q n
    have : (q n).toNat ≤ 1 := by cases q n <;> simp
    simp only [cnt]
    omega
theorem cnt_add (q : Nat → Bool) (m : Nat) : ∀ n, cnt q (m + n) = cnt q m + cnt (fun i => q (m + i)) n
  | 0 => rfl
  | n + 1 => by
    show cnt q (m + n) + (q (m + n)).toNat = cnt q m + (cnt (fun i => q (m + i)) n + (q (m + n)).toNat)
    rw [cnt_add q m n, Nat.add_assoc]
theorem cnt_congr {q r : Nat → Bool} : ∀ n, (∀ i, i < n → q i = r i) → cnt q n = cnt r n
  | 0, _ => rfl
  | n + 1, h => by
    show cnt q n + (q n).toNat = cnt r n + (r n).toNat
    rw [cnt_congr n fun i hi => h i (by omega), h n (by omega)]
theorem cnt_none (q : Nat → Bool) : ∀ n, (∀ i, i < n → q i = false) → cnt q n = 0
  | 0, _ => rfl
  | n + 1, h => by
    show cnt q n + (q n).toNat = 0
    rw [cnt_none q n fun i hi => h i (by omega), h n (by omega)]
    rfl
theorem bits_and_i64_127 (f : Nat) (h : f < 9223372036854775808) : bits .and .i64 (f : Int) 127 = ((f % 128 : Nat) : Int) := by
  show IntKind.i64.wrap ((BitVec.ofInt 64 (f : Int) &&& BitVec.ofInt 64 127).toNat : Int) = _
  have e1 : (BitVec.ofInt 64 (f : Int) &&& BitVec.ofInt 64 127).toNat = f % 128 := by
    rw [BitVec.toNat_and, BitVec.ofInt_natCast, BitVec.toNat_ofNat, show (BitVec.ofInt 64 127).toNat = 2 ^ 7 - 1 by decide, Nat.and_two_pow_sub_one_eq_mod]
    omega
  rw [e1, IntKind.wrap_i64]
  omega
theorem wrap_next (i : Nat) (h : i ≤ 281474976710656) : wrap64 ((i : Int) + 1) = ((i + 1 : Nat) : Int) := by
  unfold wrap64
  omega
theorem wrap_sum (a b m : Nat) (h1 : a ≤ m) (h2 : b ≤ 64) (hm : m ≤ 281474976710656) : wrap64 ((a : Int) + (b : Int)) = ((a + b : Nat) : Int) := by
  unfold wrap64
  omega
theorem ones_eq (v : BitVec 64) : bits_OnesCount64.f (iv v) = some ((cnt (fun i => v.getLsbD i) 64 : Nat) : Int) := by
  obtain ⟨N, hN⟩ : ∃ N, N = v.toNat := ⟨_, rfl⟩
  have hl : N < 18446744073709551616 := hN ▸ v.isLt
  have hv : iv v = (N : Int) := by rw [hN]; rfl
  have hc : cnt (fun i => v.getLsbD i) 64 = cnt (fun i => N.testBit i) 64 := cnt_congr _ fun i _ => by rw [hN]; rfl
  rw [hv, hc]
  obtain ⟨a, ha⟩ : ∃ a, a = (N / 2 &&& 6148914691236517205) + (N &&& 6148914691236517205) := ⟨_, rfl⟩
  obtain ⟨b, hb⟩ : ∃ b, b = (a / 4 &&& 3689348814741910323) + (a &&& 3689348814741910323) := ⟨_, rfl⟩
  obtain ⟨c, hcc⟩ : ∃ c, c = (b / 16 + b) &&& 1085102592571150095 := ⟨_, rfl⟩
  obtain ⟨d, hd⟩ : ∃ d, d = c + c / 256 := ⟨_, rfl⟩
  obtain ⟨e, he⟩ : ∃ e, e = d + d / 65536 := ⟨_, rfl⟩
  obtain ⟨la, lb, lb2, lc, ld, le, lf, hr⟩ := pop_nat N a b c d e hl ha hb hcc hd he
  have w : ∀ x : Nat, x < 18446744073709551616 → IntKind.u64.wrap (x : Int) = (x : Int) := fun x hx => by rw [wrap_nat, Nat.mod_eq_of_lt hx]
  have e1 : Go.bits .and .u64 ((N : Int) / 2) 6148914691236517205 = ((N / 2 &&& 6148914691236517205 : Nat) : Int) := bits_and_u64_nat (N / 2) 6148914691236517205 (by omega) (by decide)
  have e2 : Go.bits .and .u64 (N : Int) 6148914691236517205 = ((N &&& 6148914691236517205 : Nat) : Int) := bits_and_u64_nat N 6148914691236517205 hl (by decide)
  have e3 : IntKind.u64.wrap (Go.bits .and .u64 ((N : Int) / 2) 6148914691236517205 + Go.bits .and .u64 (N : Int) 6148914691236517205) = (a : Int) := by
    rw [e1, e2, ← w a la, ha]
    rfl
  have e4 : Go.bits .and .u64 ((a : Int) / 4) 3689348814741910323 = ((a / 4 &&& 3689348814741910323 : Nat) : Int) := bits_and_u64_nat (a / 4) 3689348814741910323 (by omega) (by decide)
  have e5 : Go.bits .and .u64 (a : Int) 3689348814741910323 = ((a &&& 3689348814741910323 : Nat) : Int) := bits_and_u64_nat a 3689348814741910323 la (by decide)
  have e6 : IntKind.u64.wrap (Go.bits .and .u64 ((a : Int) / 4) 3689348814741910323 + Go.bits .and .u64 (a : Int) 3689348814741910323) = (b : Int) := by
    rw [e4, e5, ← w b lb, hb]
    rfl
  have e7 : IntKind.u64.wrap ((b : Int) / 16 + (b : Int)) = ((b / 16 + b : Nat) : Int) := by
    rw [← w (b / 16 + b) lb2]
    rfl
  have e8 : Go.bits .and .u64 ((b / 16 + b : Nat) : Int) 1085102592571150095 = (c : Int) := by
    rw [hcc]
    exact bits_and_u64_nat (b / 16 + b) 1085102592571150095 lb2 (by decide)
  have e9 : IntKind.u64.wrap ((c : Int) + (c : Int) / 256) = (d : Int) := by
    rw [← w d ld, hd]
    rfl
  have e10 : IntKind.u64.wrap ((d : Int) + (d : Int) / 65536) = (e : Int) := by
    rw [← w e le, he]
    rfl
  have e11 : IntKind.u64.wrap ((e : Int) + (e : Int) / 4294967296) = ((e + e / 4294967296 : Nat) : Int) := by
    rw [← w (e + e / 4294967296) (by omega)]
    rfl
  have e12 : wrap64 ((e + e / 4294967296 : Nat) : Int) = ((e + e / 4294967296 : Nat) : Int) := by
    unfold wrap64
    omega
  unfold bits_OnesCount64.f
  rw [e3, e6, e7, e8, e9, e10, e11, e12, bits_and_i64_127 _ lf, hr]
theorem rank_all (v : BitVec 64) : words_Rank.f (iv v) 64 = some ((cnt (fun i => v.getLsbD i) 64 : Nat) : Int) := by
  unfold words_Rank.f
  rw [if_neg (by omega), if_neg (by omega), ones_eq]
  rfl
theorem rank_eq (v : BitVec 64) (k : Nat) (h : k < 64) : words_Rank.f (iv v) (k : Int) = some ((cnt (fun i => v.getLsbD i) k : Nat) : Int) := by
  unfold words_Rank.f
  by_cases h0 : k = 0
  · subst h0
    rfl
  have hp : 0 < 2 ^ k := Nat.pow_pos (by decide)
  have hq : 2 ^ k < 2 ^ 64 := Nat.pow_lt_pow_right (by decide) h
  have em : IntKind.u64.wrap (((2 ^ k : Nat) : Int) - 1) = iv (BitVec.ofNat 64 (2 ^ k - 1)) := by
    have : ((2 ^ k : Nat) : Int) - 1 = ((2 ^ k - 1 : Nat) : Int) := by omega
    rw [this, wrap_nat]
    unfold iv
    rw [BitVec.toNat_ofNat]
  rw [if_neg (by omega), if_pos (by omega), if_pos (by omega), shl_one _ h, em, bits_and, ones_eq, Option.bind_some]
  congr 2
  have e : 64 = k + (64 - k) := by omega
  rw [show cnt (fun i => (v &&& BitVec.ofNat 64 (2 ^ k - 1)).getLsbD i) 64 = cnt (fun i => (v &&& BitVec.ofNat 64 (2 ^ k - 1)).getLsbD i) (k + (64 - k)) by rw [← e], cnt_add, cnt_none _ (64 - k), Nat.add_zero]
  · exact cnt_congr _ fun i hi => by
      rw [BitVec.getLsbD_and, BitVec.getLsbD_ofNat, Nat.testBit_two_pow_sub_one]
      simp [hi, show i < 64 by omega]
  · intro i hi
    rw [BitVec.getLsbD_and, BitVec.getLsbD_ofNat, Nat.testBit_two_pow_sub_one]
    simp [show ¬ (k + i < k) by omega]
theorem cnt_word (n : Nat) (p : Nat → Bool) (k m : Nat) (hm : m ≤ 64) (h : 64 * k + m ≤ n) : cnt (fun i => (wordAt n p k).getLsbD i) m = cnt (fun i => p (64 * k + i)) m := cnt_congr _ fun i hi => by
  unfold wordAt
  rw [word_bit]
  simp [show i < 64 by omega, show 64 * k + i < n by omega]
theorem below_room (i d m n : Nat) (hn : n ≤ 281474976710656) (hm : m ≤ n) (hi : i + (d + 1) = m / 64) : i ≤ 281474976710656 ∧ 64 * i ≤ 281474976710656 ∧ i < m / 64 ∧ 64 * i + 64 ≤ n ∧ i + 1 + d = m / 64 := by
  refine ⟨?_, ?_, ?_, ?_, ?_⟩ <;> omega
theorem below_eq (n : Nat) (p : Nat → Bool) (m k : Nat) (hn : n ≤ 281474976710656) (hm : m ≤ n) (hk : m / 64 < k) : bitmap_below.f k (n : Int) (wordsOf n p) (m : Int) = some ((cnt p m : Nat) : Int) := by
  have e1 : Int.tmod (m : Int) 64 = ((m % 64 : Nat) : Int) := rfl
  have e2 : Int.tdiv (m : Int) 64 = ((m / 64 : Nat) : Int) := rfl
  have e3 : wrap64 ((m / 64 : Nat) : Int) = ((m / 64 : Nat) : Int) := by unfold wrap64; omega
  have hw : nwords n = (n + 63) / 64 := rfl
  have hle := cnt_le p
  unfold bitmap_below.f
  rw [e2, e3, if_pos (by omega), wordsOf_length, if_pos (by omega), Int.toNat_natCast]
  have hlen : ((wordsOf n p).take (m / 64)).length = m / 64 := by rw [List.length_take, wordsOf_length]; omega
  have hrd : ∀ i, i < m / 64 → rd ((wordsOf n p).take (m / 64)) (i : Int) = iv (wordAt n p i) := fun i hi => by
    rw [← rd_words n p i (by omega)]
    unfold rd
    rw [Int.toNat_natCast, List.getD_eq_getElem?_getD, List.getD_eq_getElem?_getD, List.getElem?_take_of_lt hi]
  generalize hL : (wordsOf n p).take (m / 64) = L at hlen hrd ⊢
  have key : ∀ (d i k : Nat), i + d = m / 64 → d < k → bitmap_below.l0 k (m : Int) ((cnt p (64 * i) : Nat) : Int) L (L.length : Int) (i : Int) (n : Int) (wordsOf n p) = some ((cnt p m : Nat) : Int) := by
    intro d
    induction d with
    | zero =>
      intro i k hi hk
      obtain ⟨k, rfl⟩ : ∃ k', k = k' + 1 := ⟨k - 1, by omega⟩
      unfold bitmap_below.l0
      rw [if_neg (by rw [hlen]; omega), e1]
      have hm2 : m = 64 * i + m % 64 := by omega
      by_cases g : m % 64 = 0
      · rw [if_neg (by omega)]
        congr 3
        omega
      · have h6 : m % 64 ≤ 64 := by omega
        have h7 : 64 * i ≤ 281474976710656 := by omega
        have h1 := hle (64 * i)
        have h2 := cnt_le (fun j => p (64 * i + j)) (m % 64)
        have e4 : cnt p m = cnt p (64 * i) + cnt (fun j => p (64 * i + j)) (m % 64) := by
          rw [← cnt_add, ← hm2]
        rw [if_pos (by omega), e2, e3, if_pos (by omega), wordsOf_length, if_pos (by omega), rd_words n p _ (by omega), rank_eq _ _ (by omega), Option.bind_some, show m / 64 = i by omega,
          cnt_word n p i (m % 64) (by omega) (by omega), e4, wrap_sum _ _ _ h1 (Nat.le_trans h2 h6) h7]
    | succ d ih =>
      intro i k hi hk
      obtain ⟨k, rfl⟩ : ∃ k', k = k' + 1 := ⟨k - 1, by omega⟩
      obtain ⟨l0, h7, l1, l2, l3⟩ := below_room i d m n hn hm hi
      have e6 := wrap_next i l0
      have l4 : d < k := Nat.lt_of_succ_lt_succ hk
      have l5 : (i : Int) < (L.length : Int) := by
        rw [hlen]
        exact Int.ofNat_lt.mpr l1
      have h1 := hle (64 * i)
      have h2 := cnt_le (fun j => p (64 * i + j)) 64
      have h3 : cnt p (64 * (i + 1)) = cnt p (64 * i) + cnt (fun j => p (64 * i + j)) 64 := by
        rw [show 64 * (i + 1) = 64 * i + 64 from rfl]
        rw [← cnt_add]
      have e5 : wrap64 (((cnt p (64 * i) : Nat) : Int) + ((cnt (fun j => p (64 * i + j)) 64 : Nat) : Int)) = ((cnt p (64 * (i + 1)) : Nat) : Int) := by
        rw [h3]
        exact wrap_sum _ _ _ h1 h2 h7
      unfold bitmap_below.l0
      rw [if_pos l5, if_pos (Int.natCast_nonneg i), if_pos l5, hrd i l1, rank_all, Option.bind_some, cnt_word n p i 64 (Nat.le_refl _) l2, e5, e6]
      exact ih (i + 1) k l3 l4
  exact key (m / 64) 0 k (by omega) hk
theorem count_all (n : Nat) (p : Nat → Bool) (k : Nat) (hn : n ≤ 281474976710656) (hk : n / 64 < k) : bitmap_Count.f k (n : Int) (wordsOf n p) 0 (n : Int) = some ((cnt p n : Nat) : Int) := by
  unfold bitmap_Count.f
  rw [formed_eq n p hn, Option.bind_some, if_pos rfl]
  have e1 : mx (0 : Int) 0 = ((0 : Nat) : Int) := by unfold mx; simp
  have e2 : mn (n : Int) (n : Int) = (n : Int) := by unfold mn; simp
  have h := cnt_le p n
  rw [e1, e2]
  by_cases h0 : n = 0
  · subst h0
    rfl
  · rw [if_neg (by omega), below_eq n p n k hn (Nat.le_refl _) hk, below_eq n p 0 k hn (by omega) (by omega), Option.bind_some, Option.bind_some]
    congr 1
    show wrap64 (_ - 0) = _
    unfold wrap64
    omega
theorem cnt_par (q : Nat → Bool) : ∀ n, (decide (cnt q n % 2 = 1)) = par q n
  | 0 => rfl
  | n + 1 => by
    rw [par_succ, ← cnt_par q n]
    show decide ((cnt q n + (q n).toNat) % 2 = 1) = _
    cases q n
    · simp
    · simp only [Bool.toNat_true, Bool.xor_true]
      by_cases h : cnt q n % 2 = 1
      · rw [decide_eq_true h, decide_eq_false (by omega)]; rfl
      · rw [decide_eq_false h, decide_eq_true (by omega)]; rfl
theorem par_odd (s : ByteArray) : ∀ n, par (mkq s) n = oddQ s false n
  | 0 => rfl
  | n + 1 => by
    rw [par_succ, par_odd s n]
    show _ = (oddQ s false n != _)
    unfold mkq
    cases oddQ s false n <;> cases (decide (bt s (n : Int) = 34) && !esc s false n) <;> rfl
theorem open_eq (s : ByteArray) (hs : s.size ≤ 281474976702464) (k : Nat) (hk : s.size / 64 < k) : quotes_Open.f k s = some (oddQ s false s.size) := by
  unfold quotes_Open.f quotes_Marks.f
  rw [if_pos hs, Option.bind_some]
  show (bitmap_Count.f k (s.size : Int) (wordsOf s.size (mkq s)) 0 (s.size : Int)).bind _ = _
  rw [count_all s.size (mkq s) k (by omega) hk, Option.bind_some, ← par_odd, ← cnt_par]
  congr 1
  have e : Int.tmod ((cnt (mkq s) s.size : Nat) : Int) 2 = ((cnt (mkq s) s.size % 2 : Nat) : Int) := rfl
  rw [e, Bool.eq_iff_iff, beq_iff_eq, decide_eq_true_iff]
  omega
theorem bt_left (s t : ByteArray) (i : Nat) (h : i < s.size) : bt (s ++ t) (i : Int) = bt s (i : Int) := by
  have hz : (s ++ t).size = s.size + t.size := ByteArray.size_append
  unfold bt
  simp only [Int.toNat_natCast]
  rw [dif_pos (by omega), dif_pos h, ByteArray.getElem_append_left h]
theorem bt_right (s t : ByteArray) (i : Nat) : bt (s ++ t) ((s.size + i : Nat) : Int) = bt t (i : Int) := by
  have hz : (s ++ t).size = s.size + t.size := ByteArray.size_append
  unfold bt
  simp only [Int.toNat_natCast]
  by_cases h : i < t.size
  · rw [dif_pos (by omega), dif_pos h, ByteArray.getElem_append_right (by omega)]
    simp only [Nat.add_sub_cancel_left]
  · rw [dif_neg (by omega), dif_neg h]
theorem esc_left (s t : ByteArray) (f : Bool) : ∀ i, i ≤ s.size → esc (s ++ t) f i = esc s f i
  | 0, _ => rfl
  | i + 1, h => by simp only [esc]; rw [esc_left s t f i (by omega), bt_left s t i (by omega)]
theorem esc_right (s t : ByteArray) (f : Bool) : ∀ i, esc (s ++ t) f (s.size + i) = esc t (esc s f s.size) i
  | 0 => esc_left s t f s.size (Nat.le_refl _)
  | i + 1 => by
    show (decide (bt (s ++ t) ((s.size + i : Nat) : Int) = 92) && !esc (s ++ t) f (s.size + i)) = _
    rw [bt_right, esc_right s t f i]; rfl
theorem esc_lead (s : ByteArray) (i : Nat) : esc (({ data := #[92] } : ByteArray) ++ s) false (1 + i) = esc s true i := by
  have := esc_right ({ data := #[92] } : ByteArray) s false i
  exact this
theorem odd_lead (s : ByteArray) : ∀ i, oddQ (({ data := #[92] } : ByteArray) ++ s) false (1 + i) = oddQ s true i
  | 0 => by
    show (false != (decide (bt (({ data := #[92] } : ByteArray) ++ s) ((0 : Nat) : Int) = 34) && _)) = false
    rw [bt_left _ _ 0 (by decide)]
    rfl
  | i + 1 => by
    show (oddQ (({ data := #[92] } : ByteArray) ++ s) false (1 + i) != (decide (bt (({ data := #[92] } : ByteArray) ++ s) ((1 + i : Nat) : Int) = 34) && !esc (({ data := #[92] } : ByteArray) ++ s) false (1 + i))) = (oddQ s true i != _)
    rw [odd_lead s i, esc_lead]
    have := bt_right ({ data := #[92] } : ByteArray) s i
    rw [show ((({ data := #[92] } : ByteArray).size + i : Nat) : Int) = ((1 + i : Nat) : Int) from rfl] at this
    rw [this]
theorem PiecesStates : quarrylaw09_PiecesStates.Pure := by
  intro s hs
  refine ⟨⟨s.size + 1, open_eq s (by omega) _ (by omega)⟩, ⟨s.size + 2, ?_⟩⟩
  have hz : (({ data := #[92] } : ByteArray) ++ s).size = 1 + s.size := ByteArray.size_append
  rw [open_eq _ (by omega) _ (by omega), hz, odd_lead]
  rfl

end Go.Proofs.Ytifpahkgielocaa.Pure
