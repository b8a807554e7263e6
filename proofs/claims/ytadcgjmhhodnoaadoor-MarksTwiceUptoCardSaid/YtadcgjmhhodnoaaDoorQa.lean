/-
  Plain facts on words of 64 bits, told as whole numbers, and on rows of bits. No program in sight.
-/
import Derived.Laws.BitsAllLaws
import Derived.Laws.Bits64b
import Derived.RowKit
namespace Go.Proofs.YtadcgjmhhodnoaaDoorQ
open Go Go.RowKit

/-- A word as a number. -/
def iv (v : BitVec 64) : Int := (v.toNat : Int)
theorem iv_nonneg (v : BitVec 64) : 0 ≤ iv v := Int.natCast_nonneg _
theorem iv_lt (v : BitVec 64) : iv v < 18446744073709551616 := by
  have := v.isLt
  unfold iv
  omega
theorem iv_inj {a b : BitVec 64} : iv a = iv b ↔ a = b := by
  unfold iv
  rw [Int.ofNat_inj]
  exact ⟨BitVec.eq_of_toNat_eq, fun h => by rw [h]⟩
theorem ofInt_iv (v : BitVec 64) : BitVec.ofInt 64 (iv v) = v := by
  unfold iv
  rw [BitVec.ofInt_natCast, BitVec.ofNat_toNat, BitVec.setWidth_eq]
theorem wrap_nat (n : Nat) : IntKind.u64.wrap (n : Int) = ((n % 18446744073709551616 : Nat) : Int) := by
  rw [IntKind.wrap_u64]
  omega
theorem bits_and (a b : BitVec 64) : bits .and .u64 (iv a) (iv b) = iv (a &&& b) := by
  show IntKind.u64.wrap ((BitVec.ofInt 64 (iv a) &&& BitVec.ofInt 64 (iv b)).toNat : Int) = _
  rw [ofInt_iv, ofInt_iv, wrap_nat, Nat.mod_eq_of_lt (BitVec.isLt _)]
  rfl
theorem bits_or (a b : BitVec 64) : bits .or .u64 (iv a) (iv b) = iv (a ||| b) := by
  show IntKind.u64.wrap ((BitVec.ofInt 64 (iv a) ||| BitVec.ofInt 64 (iv b)).toNat : Int) = _
  rw [ofInt_iv, ofInt_iv, wrap_nat, Nat.mod_eq_of_lt (BitVec.isLt _)]
  rfl
theorem bits_xor (a b : BitVec 64) : bits .xor .u64 (iv a) (iv b) = iv (a ^^^ b) := by
  show IntKind.u64.wrap ((BitVec.ofInt 64 (iv a) ^^^ BitVec.ofInt 64 (iv b)).toNat : Int) = _
  rw [ofInt_iv, ofInt_iv, wrap_nat, Nat.mod_eq_of_lt (BitVec.isLt _)]
  rfl
theorem bits_andNot (a b : BitVec 64) : bits .andNot .u64 (iv a) (iv b) = iv (a &&& ~~~b) := by
  show IntKind.u64.wrap ((BitVec.ofInt 64 (iv a) &&& ~~~(BitVec.ofInt 64 (iv b))).toNat : Int) = _
  rw [ofInt_iv, ofInt_iv, wrap_nat, Nat.mod_eq_of_lt (BitVec.isLt _)]
  rfl
theorem wrap_add (a b : BitVec 64) : IntKind.u64.wrap (iv a + iv b) = iv (a + b) := by
  rw [IntKind.wrap_u64]
  unfold iv
  rw [BitVec.toNat_add]
  omega
theorem wrap_sub (a b : BitVec 64) : IntKind.u64.wrap (iv a - iv b) = iv (a - b) := by
  have := b.isLt
  rw [IntKind.wrap_u64]
  unfold iv
  rw [BitVec.toNat_sub]
  omega
theorem wrap_mul (a b : BitVec 64) : IntKind.u64.wrap (iv a * iv b) = iv (a * b) := by
  unfold iv
  rw [← Int.natCast_mul, wrap_nat, BitVec.toNat_mul]
theorem wrap_shl (a : BitVec 64) (n : Nat) : IntKind.u64.wrap (iv a * 2 ^ n) = iv (a <<< n) := by
  unfold iv
  have e : ((a.toNat : Int) * 2 ^ n) = ((a.toNat * 2 ^ n : Nat) : Int) := by rw [Int.natCast_mul, Int.natCast_pow]; rfl
  rw [e, wrap_nat, BitVec.toNat_shiftLeft, Nat.shiftLeft_eq]
theorem shr_iv (a : BitVec 64) (n : Nat) : iv a / 2 ^ n = iv (a >>> n) := by
  unfold iv
  have e : (2 : Int) ^ n = ((2 ^ n : Nat) : Int) := by rw [Int.natCast_pow]; rfl
  rw [BitVec.toNat_ushiftRight, Nat.shiftRight_eq_div_pow, e, Int.natCast_ediv]
theorem iv_wrap (a : BitVec 64) : IntKind.u64.wrap (iv a) = iv a := by
  rw [IntKind.wrap_u64]
  have := iv_nonneg a
  have := iv_lt a
  omega
/-- Every number of the kind is a word. -/
theorem iv_of {x : Int} (h0 : 0 ≤ x) (h1 : x < 18446744073709551616) : ∃ v, x = iv v := by
  refine ⟨BitVec.ofNat 64 x.toNat, ?_⟩
  unfold iv
  rw [BitVec.toNat_ofNat]
  omega

/-- The number of the bits that say yes, below a bound. -/
def wordN (p : Nat → Bool) : Nat → Nat
  | 0 => 0
  | n + 1 => wordN p n + if p n then 2 ^ n else 0
theorem wordN_lt (p : Nat → Bool) : ∀ n, wordN p n < 2 ^ n
  | 0 => by simp [wordN]
  | n + 1 => by
    have := wordN_lt p n
    unfold wordN
    rw [Nat.pow_succ]
    split <;> omega
theorem wordN_bit (p : Nat → Bool) (i : Nat) : ∀ n, (wordN p n).testBit i = (decide (i < n) && p i)
  | 0 => by simp [wordN]
  | n + 1 => by
    have hl := wordN_lt p n
    have ih := wordN_bit p i n
    unfold wordN
    by_cases hp : p n = true
    · rw [if_pos hp, Nat.add_comm]
      by_cases hi : i = n
      · subst hi
        rw [Nat.testBit_two_pow_add_eq, ih]
        simp [hp]
      · by_cases hlt : i < n
        · rw [Nat.testBit_two_pow_add_gt hlt, ih]
          simp [hlt, show i < n + 1 by omega]
        · rw [Nat.testBit_lt_two_pow (Nat.lt_of_lt_of_le (show 2 ^ n + wordN p n < 2 ^ (n + 1) by rw [Nat.pow_succ]; omega) (Nat.pow_le_pow_right (by omega) (by omega)))]
          simp [show ¬ i < n + 1 by omega]
    · rw [if_neg hp, Nat.add_zero, ih]
      by_cases hi : i = n
      · subst hi
        simp [hp]
      · have : (i < n + 1) ↔ (i < n) := by omega
        simp [this]
/-- The word of a test. -/
def word (p : Nat → Bool) : BitVec 64 := BitVec.ofNat 64 (wordN p 64)
theorem word_bit (p : Nat → Bool) (i : Nat) : (word p).getLsbD i = (decide (i < 64) && p i) := by
  unfold word
  rw [BitVec.getLsbD_ofNat, wordN_bit]
  by_cases h : i < 64 <;> simp [h]
theorem word_ext {p q : Nat → Bool} (h : ∀ i, i < 64 → p i = q i) : word p = word q := by
  apply BitVec.eq_of_getLsbD_eq
  intro i hi
  rw [word_bit, word_bit, h i hi]
theorem eq_word {v : BitVec 64} {p : Nat → Bool} (h : ∀ i, i < 64 → v.getLsbD i = p i) : v = word p := by
  apply BitVec.eq_of_getLsbD_eq
  intro i hi
  rw [word_bit, h i hi]
  simp [hi]

theorem iv_word (p : Nat → Bool) : iv (word p) = ((wordN p 64 : Nat) : Int) := by
  unfold iv word
  rw [BitVec.toNat_ofNat, Nat.mod_eq_of_lt (wordN_lt p 64)]
theorem wordN_add (p : Nat → Bool) (m : Nat) : ∀ n, wordN p (m + n) = wordN p m + 2 ^ m * wordN (fun j => p (m + j)) n
  | 0 => by simp [wordN]
  | n + 1 => by
    have e1 : wordN p (m + (n + 1)) = wordN p (m + n) + if p (m + n) then 2 ^ (m + n) else 0 := rfl
    have e2 : wordN (fun j => p (m + j)) (n + 1) = wordN (fun j => p (m + j)) n + if p (m + n) then 2 ^ n else 0 := rfl
    rw [e1, e2, wordN_add p m n, Nat.mul_add, Nat.add_assoc]
    congr 2
    by_cases h : p (m + n) = true
    · rw [if_pos h, if_pos h, Nat.pow_add]
    · rw [if_neg h, if_neg h, Nat.mul_zero]
theorem wordN_congr {p q : Nat → Bool} : ∀ n, (∀ j, j < n → p j = q j) → wordN p n = wordN q n
  | 0, _ => rfl
  | n + 1, e => by
    unfold wordN
    rw [wordN_congr n fun j hj => e j (by omega), e n (by omega)]
/-- Eight bits more. -/
theorem eight_step (p : Nat → Bool) {i : Nat} (hi : i < 8) :
    bits .or .u64 ((wordN p (8 * i) : Nat) : Int) (IntKind.u64.wrap (IntKind.u64.wrap ((wordN (fun j => p (8 * i + j)) 8 : Nat) : Int) * 2 ^ (8 * i))) = ((wordN p (8 * (i + 1)) : Nat) : Int) := by
  rw [show IntKind.u64.wrap ((wordN (fun j => p (8 * i + j)) 8 : Nat) : Int) = ((wordN (fun j => p (8 * i + j)) 8 : Nat) : Int) by
    have := wordN_lt (fun j => p (8 * i + j)) 8
    rw [wrap_nat, Nat.mod_eq_of_lt (by omega)]]
  have h1 := wordN_lt p (8 * i)
  have h2 := wordN_lt (fun j => p (8 * i + j)) 8
  have h3 := wordN_lt p (8 * (i + 1))
  have hp1 : 2 ^ (8 * i) ≤ 2 ^ 64 := Nat.pow_le_pow_right (by omega) (by omega)
  have hp3 : 2 ^ (8 * (i + 1)) ≤ 2 ^ 64 := Nat.pow_le_pow_right (by omega) (by omega)
  have hs : wordN p (8 * (i + 1)) = wordN p (8 * i) + 2 ^ (8 * i) * wordN (fun j => p (8 * i + j)) 8 := wordN_add p (8 * i) 8
  rw [hs] at h3 ⊢
  generalize wordN p (8 * i) = a at *
  generalize wordN (fun j => p (8 * i + j)) 8 = b at *
  have e : ((b : Nat) : Int) * 2 ^ (8 * i) = ((2 ^ (8 * i) * b : Nat) : Int) := by rw [Int.natCast_mul, Int.natCast_pow, Int.mul_comm]; rfl
  rw [e, wrap_nat, Nat.mod_eq_of_lt (by omega), bits_or_u64_nat _ _ (by omega) (by omega), Nat.or_comm, ← Nat.two_pow_add_eq_or_of_lt h1 b, Nat.add_comm]
/-- A row of so many bits, as words. -/
def nwords (n : Nat) : Nat := (n + 63) / 64
theorem nwords_room {n : Nat} (h : n ≤ 281474976702464) : nwords n * 8 ≤ 140737488355328 := by unfold nwords; omega
def wordAt (n : Nat) (p : Nat → Bool) (k : Nat) : BitVec 64 := word fun i => decide (64 * k + i < n) && p (64 * k + i)
def wordsOf (n : Nat) (p : Nat → Bool) : List Int := (List.range (nwords n)).map fun k => iv (wordAt n p k)
theorem wordsOf_length (n : Nat) (p : Nat → Bool) : (wordsOf n p).length = nwords n := by simp [wordsOf]
theorem wordsOf_get (n : Nat) (p : Nat → Bool) (k : Nat) (h : k < nwords n) : (wordsOf n p).getD k 0 = iv (wordAt n p k) := by
  rw [List.getD_eq_getElem?_getD, wordsOf, List.getElem?_map, List.getElem?_range h]
  rfl
theorem wordsOf_ext {n : Nat} {p q : Nat → Bool} (h : ∀ i, i < n → p i = q i) : wordsOf n p = wordsOf n q := by
  have e : ∀ k, wordAt n p k = wordAt n q k := fun k => word_ext fun i _ => by
    by_cases hi : 64 * k + i < n
    · rw [h _ hi]
    · rw [decide_eq_false hi]
      rfl
  exact List.map_congr_left fun k _ => by rw [e k]

/-- Bytes as a word, the first one lowest. -/
def loadN (f : Nat → Int) : Nat → Nat
  | 0 => 0
  | n + 1 => loadN f n + (f n).toNat * 256 ^ n
theorem loadN_lt (f : Nat → Int) (hf : ∀ i, 0 ≤ f i ∧ f i < 256) : ∀ n, loadN f n < 256 ^ n
  | 0 => by simp [loadN]
  | n + 1 => by
    have := loadN_lt f hf n
    have h := hf n
    have hb : (f n).toNat ≤ 255 := by omega
    have := Nat.mul_le_mul_right (256 ^ n) hb
    unfold loadN
    rw [Nat.pow_succ]
    omega
theorem load_step (f : Nat → Int) (hf : ∀ i, 0 ≤ f i ∧ f i < 256) {i : Nat} (hi : i < 8) :
    bits .or .u64 ((loadN f i : Nat) : Int) (IntKind.u64.wrap (IntKind.u64.wrap (f i) * 2 ^ (8 * i))) = ((loadN f (i + 1) : Nat) : Int) := by
  have h := hf i
  have hl := loadN_lt f hf i
  have e256 : ∀ k, 256 ^ k = 2 ^ (8 * k) := fun k => by rw [show (256 : Nat) = 2 ^ 8 from rfl, ← Nat.pow_mul]
  have hp : 256 ^ (i + 1) ≤ 18446744073709551616 := Nat.le_trans (Nat.pow_le_pow_right (by omega) (show i + 1 ≤ 8 by omega)) (by decide)
  have hl' := loadN_lt f hf (i + 1)
  obtain ⟨x, hx⟩ : ∃ x : Nat, f i = x := ⟨(f i).toNat, by omega⟩
  have e1 : IntKind.u64.wrap (f i) = ((x : Nat) : Int) := by rw [hx, wrap_nat, Nat.mod_eq_of_lt (by omega)]
  have ex : (f i).toNat = x := by omega
  have hs : loadN f (i + 1) = loadN f i + x * 256 ^ i := by rw [← ex]; rfl
  have e2 : IntKind.u64.wrap (((x : Nat) : Int) * 2 ^ (8 * i)) = ((x * 256 ^ i : Nat) : Int) := by
    have : ((x : Nat) : Int) * 2 ^ (8 * i) = ((x * 256 ^ i : Nat) : Int) := by rw [e256]; norm_cast
    rw [this, wrap_nat, Nat.mod_eq_of_lt (by rw [hs] at hl'; omega)]
  rw [e1, e2, bits_or_u64_nat _ _ (by rw [Nat.pow_succ] at hp; omega) (by rw [hs] at hl'; omega), hs]
  norm_cast
  rw [e256] at hl ⊢
  rw [Nat.or_comm, ← Nat.mul_comm, ← Nat.two_pow_add_eq_or_of_lt hl x, Nat.add_comm]
theorem finRange_take (n k : Nat) (h : k < n) : (List.finRange n).take (k + 1) = (List.finRange n).take k ++ [⟨k, h⟩] := by
  rw [List.take_succ_eq_append_getElem (by rw [List.length_finRange]; exact h)]
  simp
end Go.Proofs.YtadcgjmhhodnoaaDoorQ
