/-
  Classes of bytes as four words. Plain Lean; no program in sight.
-/
import Derived.Test.YtadcgjmhhodnoaaDoorMc
import Derived.Test.YtadcgjmhhodnoaaDoorQc
namespace Go.Proofs.YtadcgjmhhodnoaaDoorQ
open Go Go.RowKit Go.Lib Go.Proofs.YtadcgjmhhodnoaaDoorW.PrintWords
/-- The word of a class. -/
def clsW (p : Nat → Bool) (k : Nat) : BitVec 64 := word fun j => p (64 * k + j)
def clsA (p : Nat → Bool) : Array Value := Array.ofFn (n := 4) fun i => .int .u64 (iv (clsW p i))
theorem clsA_size (p : Nat → Bool) : (clsA p).size = 4 := by simp [clsA]
theorem clsA_get (p : Nat → Bool) {i : Nat} (h : i < 4) : (clsA p)[i]? = some (.int .u64 (iv (clsW p i))) := by
  simp [clsA, h]
theorem clsA_lit (p : Nat → Bool) : clsA p = #[.int .u64 (iv (clsW p 0)), .int .u64 (iv (clsW p 1)), .int .u64 (iv (clsW p 2)), .int .u64 (iv (clsW p 3))] := rfl
theorem clsA_ext {cs : Array Value} {p : Nat → Bool} (hs : cs.size = 4) (h : ∀ i, i < 4 → cs[i]? = some (.int .u64 (iv (clsW p i)))) : cs = clsA p := by
  apply Array.ext_getElem?
  intro i
  by_cases hi : i < 4
  · rw [h i hi, clsA_get p hi]
  · rw [Array.getElem?_eq_none (by omega), Array.getElem?_eq_none (by rw [clsA_size]; omega)]
theorem clsW_congr {p q : Nat → Bool} {k : Nat} (h : ∀ j, j < 64 → p (64 * k + j) = q (64 * k + j)) : clsW p k = clsW q k := word_ext h
theorem clsA_congr {p q : Nat → Bool} (h : ∀ x, x < 256 → p x = q x) : clsA p = clsA q :=
  clsA_ext (clsA_size p) fun i hi => by rw [clsA_get p hi, clsW_congr fun j hj => h _ (by omega)]
theorem clsA_set {p q : Nat → Bool} {k : Nat} {v : Int} (hk : k < 4) (h1 : v = iv (clsW q k)) (h2 : ∀ x, x < 256 → x / 64 ≠ k → p x = q x) : (clsA p).setIfInBounds k (.int .u64 v) = clsA q := by
  refine clsA_ext (by simp [clsA_size]) fun i hi => ?_
  rw [Array.getElem?_setIfInBounds]
  by_cases g : k = i
  · subst g
    simp [clsA_size, hk, h1]
  · rw [if_neg g, clsA_get p hi, clsW_congr fun j hj => h2 _ (by omega) (by omega)]
theorem clsW_none (k : Nat) : clsW (fun _ => false) k = 0#64 := by
  have : ∀ p, (∀ i, p i = false) → word p = 0#64 := fun p h => (eq_word fun i hi => by simp [h]).symm
  exact this _ fun _ => rfl
theorem clsA_zero : (Array.replicate 4 (.int .u64 0) : Array Value) = clsA fun _ => false :=
  clsA_ext (by simp) fun i hi => by
    rw [clsW_none]
    simp [hi]
    rfl
theorem clsA_one (p : Nat → Bool) : (clsA p).all (·.oneCell') = true := by
  rw [Array.all_eq_true]
  intro i hi
  have h4 : i < 4 := by simpa [clsA_size] using hi
  have := clsA_get p h4
  rw [Array.getElem?_eq_getElem hi] at this
  rw [Option.some.inj this]
  rfl
/-- Which bytes stand in the first n of a text. -/
def inT (s : ByteArray) : Nat → Nat → Bool
  | 0, _ => false
  | n + 1, x => inT s n x || decide (bt s (n : Int) = (x : Int))
theorem word_set (p : Nat → Bool) (b : Nat) (hb : b < 64) : word p ||| (1#64 <<< b) = word fun i => p i || decide (i = b) := by
  refine eq_word fun i hi => ?_
  simp only [BitVec.getLsbD_or, word_bit, BitVec.getLsbD_shiftLeft, hi, decide_true, Bool.true_and, BitVec.getLsbD_one]
  by_cases g : i = b
  · subst g
    simp
  · simp [g]
    omega
theorem bits_and_u8_63 (n : Nat) (h : n < 256) : bits .and .u8 (n : Int) 63 = ((n % 64 : Nat) : Int) := by
  have : ∀ m : Fin 256, bits .and .u8 (m.val : Int) 63 = ((m.val % 64 : Nat) : Int) := by decide +kernel
  exact this ⟨n, h⟩
theorem cls_or {p q : Nat → Bool} {k m : Nat} (hm : m < 64) (h : ∀ x, q x = (p x || decide (x = 64 * k + m))) :
    bits .or .u64 (iv (clsW p k)) (IntKind.u64.wrap (2 ^ m)) = iv (clsW q k) := by
  have e : IntKind.u64.wrap ((2 : Int) ^ m) = iv (1#64 <<< m) := by
    have := wrap_shl 1#64 m
    rw [← this]
    congr 1
    have : iv 1#64 = 1 := rfl
    rw [this, Int.one_mul]
  rw [e, bits_or]
  unfold clsW
  rw [word_set _ _ hm]
  congr 1
  exact word_ext fun i _ => by
    rw [h]
    congr 1
    exact decide_eq_decide.mpr (by omega)
theorem inT_step {s : ByteArray} {i k m : Nat} (h : i < s.size) (hk : k = (s[i]'h).toNat / 64) (hm : m = (s[i]'h).toNat % 64) (x : Nat) : inT s (i + 1) x = (inT s i x || decide (x = 64 * k + m)) := by
  show (inT s i x || decide (bt s (i : Int) = (x : Int))) = _
  congr 1
  have e : bt s (i : Int) = ((s[i]'h).toNat : Int) := (bt_at s (i : Int) h).symm
  rw [e]
  exact decide_eq_decide.mpr (by omega)
theorem inT_else {s : ByteArray} {i k x : Nat} (h : i < s.size) (hk : k = (s[i]'h).toNat / 64) (hx : x / 64 ≠ k) : inT s (i + 1) x = inT s i x := by
  rw [inT_step h hk rfl, decide_eq_false (by omega), Bool.or_false]
theorem w64_up {i n : Nat} (h : i < n) (hn : n ≤ 281474976702464) : wrap64 ((i : Int) + 1) = ((i + 1 : Nat) : Int) := by unfold wrap64; omega
theorem cls_bit (p : Nat → Bool) {k m : Nat} (hm : m < 64) : (clsW p k).getLsbD m = p (64 * k + m) := by
  unfold clsW
  rw [word_bit]
  simp [hm]
theorem cls_none {p : Nat → Bool} (h : ((List.range 4).all fun j => iv (clsW p j) == 0) = true) : ∀ x, x < 256 → p x = false := by
  intro x hx
  rw [List.all_eq_true] at h
  have h1 := h (x / 64) (List.mem_range.mpr (by omega))
  have h2 : iv (clsW p (x / 64)) = iv 0#64 := by
    have e0 : iv 0#64 = 0 := rfl
    rw [e0]
    simpa using h1
  have h3 := cls_bit p (k := x / 64) (m := x % 64) (by omega)
  rw [iv_inj.mp h2] at h3
  have e : 64 * (x / 64) + x % 64 = x := by omega
  rw [e] at h3
  rw [← h3]
  exact BitVec.getLsbD_zero
theorem word_none {p : Nat → Bool} (h : ∀ i, i < 64 → p i = false) : iv (word p) = 0 := by
  rw [word_ext (q := fun _ => false) h]
  have := clsW_none 0
  unfold clsW at this
  rw [this]
  rfl
/-- One place more. -/
theorem mask_step (p q : Nat → Bool) {k m i : Nat} (hm : m < 64) (hi : i < 64) (h : q i = p (64 * k + m)) :
    bits .or .u64 (iv (word fun j => decide (j < i) && q j)) (IntKind.u64.wrap (bits .and .u64 (iv (clsW p k) / 2 ^ m) 1 * 2 ^ i)) = iv (word fun j => decide (j < i + 1) && q j) := by
  have e1 : (1 : Int) = iv 1#64 := rfl
  rw [shr_iv, e1, bits_and, wrap_shl, bits_or]
  congr 1
  refine eq_word fun j hj => ?_
  simp only [BitVec.getLsbD_or, word_bit, BitVec.getLsbD_shiftLeft, BitVec.getLsbD_and, BitVec.getLsbD_ushiftRight, BitVec.getLsbD_one, hj, decide_true, Bool.true_and]
  by_cases g : j < i
  · simp [g, show j < i + 1 by omega]
  · by_cases g2 : j = i
    · subst g2
      simp [cls_bit p hm, h]
    · have : ¬ j < i + 1 := by omega
      have : j - i ≠ 0 := by omega
      simp [*]
theorem mask_step_at (p : Nat → Bool) (f : Nat → Int) {i x k m : Nat} (hx : f i = (x : Int)) (hk : k = x / 64) (hm : m = x % 64) (hi : i < 64) :
    bits .or .u64 (iv (word fun j => decide (j < i) && p (f j).toNat)) (IntKind.u64.wrap (bits .and .u64 (iv (clsW p k) / 2 ^ m) 1 * 2 ^ i)) = iv (word fun j => decide (j < i + 1) && p (f j).toNat) := by
  refine mask_step p (fun j => p (f j).toNat) (by omega) hi ?_
  show p (f i).toNat = _
  rw [hx]
  congr 1
  simp only [Int.toNat_natCast]
  omega
theorem word_done (q : Nat → Bool) : (word fun j => decide (j < 64) && q j) = word q := word_ext fun i hi => by simp [hi]
/-- Is it in the class. -/
theorem has_eq (p : Nat → Bool) {k m x : Nat} (hk : k = x / 64) (hm : m = x % 64) : (bits .and .u64 (iv (clsW p k) / 2 ^ m) 1 == 1) = p x := by
  have e1 : (1 : Int) = iv 1#64 := rfl
  have hm6 : m < 64 := by omega
  rw [shr_iv, e1, bits_and, Bool.eq_iff_iff, beq_iff_eq, iv_inj]
  have hb := cls_bit p (k := k) hm6
  rw [show 64 * k + m = x by omega] at hb
  constructor
  · intro h
    have := congrArg (fun v => v.getLsbD 0) h
    simp at this
    rw [← hb]
    exact this
  · intro h
    rw [h] at hb
    apply BitVec.eq_of_getLsbD_eq
    intro i hi
    simp only [BitVec.getLsbD_and, BitVec.getLsbD_ushiftRight, BitVec.getLsbD_one]
    by_cases g : i = 0
    · subst g
      simpa using hb
    · simp [g]
theorem tdiv64 (x : Nat) : Int.tdiv (x : Int) 64 = ((x / 64 : Nat) : Int) := rfl
theorem tmod64 (x : Nat) : Int.tmod (x : Int) 64 = ((x % 64 : Nat) : Int) := rfl
/-- One byte more. -/
def clsPut (p : Nat → Bool) (x y : Nat) : Bool := p y || decide (y = x)
theorem put_eq (p : Nat → Bool) {k m x : Nat} (hk : k = x / 64) (hm : m = x % 64) : bits .or .u64 (iv (clsW p k)) (IntKind.u64.wrap (2 ^ m)) = iv (clsW (clsPut p x) k) :=
  cls_or (by omega) fun y => by
    unfold clsPut
    congr 1
    exact decide_eq_decide.mpr (by omega)
theorem put_else (p : Nat → Bool) {k x y : Nat} (hk : k = x / 64) (hy : y / 64 ≠ k) : p y = clsPut p x y := by
  unfold clsPut
  rw [decide_eq_false (by intro h; subst h; exact hy hk.symm), Bool.or_false]
theorem inT_put {s : ByteArray} {i x : Nat} (h : i < s.size) (hx : x = (s[i]'h).toNat) (y : Nat) : inT s (i + 1) y = clsPut (inT s i) x y := by
  show (inT s i y || decide (bt s (i : Int) = (y : Int))) = _
  unfold clsPut
  congr 1
  have e : bt s (i : Int) = ((s[i]'h).toNat : Int) := (bt_at s (i : Int) h).symm
  rw [e]
  exact decide_eq_decide.mpr (by omega)
theorem mask_put (q : Nat → Bool) {i : Nat} (hi : i < 64) (h : q i = true) : bits .or .u64 (iv (word fun j => decide (j < i) && q j)) (IntKind.u64.wrap (2 ^ i)) = iv (word fun j => decide (j < i + 1) && q j) := by
  have e : IntKind.u64.wrap ((2 : Int) ^ i) = iv (1#64 <<< i) := by
    have := wrap_shl 1#64 i
    rw [← this]
    congr 1
    have : iv 1#64 = 1 := rfl
    rw [this, Int.one_mul]
  rw [e, bits_or, word_set _ _ hi]
  congr 1
  refine word_ext fun j _ => ?_
  by_cases g : j = i
  · subst g
    simp [h]
  · have : (j < i + 1) ↔ (j < i) := by omega
    simp [g, this]
theorem mask_skip (q : Nat → Bool) {i : Nat} (h : q i = false) : (word fun j => decide (j < i) && q j) = (word fun j => decide (j < i + 1) && q j) := by
  refine word_ext fun j _ => ?_
  by_cases g : j = i
  · subst g
    simp [h]
  · have : (j < i + 1) ↔ (j < i) := by omega
    simp [this]
/-- The first k words done. -/
def mixA (r p : Nat → Bool) (k x : Nat) : Bool := if x < 64 * k then r x else p x
theorem mix_zero (r p : Nat → Bool) : clsA p = clsA (mixA r p 0) := clsA_congr fun x _ => by simp [mixA]
theorem mix_at (r p : Nat → Bool) (k : Nat) : clsW (mixA r p k) k = clsW p k := clsW_congr fun j _ => by
  unfold mixA
  rw [if_neg (by omega)]
theorem mix_step (r p : Nat → Bool) {k : Nat} (hk : k < 4) {v : Int} (hv : v = iv (clsW r k)) : (clsA (mixA r p k)).setIfInBounds k (.int .u64 v) = clsA (mixA r p (k + 1)) :=
  clsA_set hk (by
    rw [hv]
    exact congrArg iv (clsW_congr fun j hj => by
      unfold mixA
      rw [if_pos (by omega)])) (fun x _ hx => by
    unfold mixA
    by_cases g : x < 64 * k
    · rw [if_pos g, if_pos (by omega)]
    · rw [if_neg g, if_neg (by omega)])
theorem mix_end (r p : Nat → Bool) : clsA (mixA r p 4) = clsA r := clsA_congr fun x hx => by
  unfold mixA
  rw [if_pos (by omega)]
def joinC (p q : Nat → Bool) (x : Nat) : Bool := p x || q x
def minusC (p q : Nat → Bool) (x : Nat) : Bool := p x && !q x
def notC (p : Nat → Bool) (x : Nat) : Bool := !p x
theorem join_word (p q : Nat → Bool) (k : Nat) : bits .or .u64 (iv (clsW p k)) (iv (clsW q k)) = iv (clsW (joinC p q) k) := by
  rw [bits_or]
  exact congrArg iv (eq_word fun j hj => by
    rw [BitVec.getLsbD_or, cls_bit p hj, cls_bit q hj]
    rfl)
theorem minus_word (p q : Nat → Bool) (k : Nat) : bits .andNot .u64 (iv (clsW p k)) (iv (clsW q k)) = iv (clsW (minusC p q) k) := by
  rw [bits_andNot]
  exact congrArg iv (eq_word fun j hj => by
    rw [BitVec.getLsbD_and, BitVec.getLsbD_not, cls_bit p hj, cls_bit q hj, decide_eq_true hj, Bool.true_and]
    rfl)
theorem not_word (p : Nat → Bool) (k : Nat) : bits .xor .u64 18446744073709551615 (iv (clsW p k)) = iv (clsW (notC p) k) := by
  have e2 : (18446744073709551615 : Int) = iv (BitVec.allOnes 64) := by decide
  rw [e2, bits_xor, BitVec.allOnes_xor]
  exact congrArg iv (eq_word fun j hj => by
    rw [BitVec.getLsbD_not, cls_bit p hj, decide_eq_true hj, Bool.true_and]
    rfl)
/-- The first x bytes looked at. -/
def lowC (r : Nat → Bool) (x y : Nat) : Bool := decide (y < x) && r y
theorem low_zero (r : Nat → Bool) : clsA (fun _ => false) = clsA (lowC r 0) := clsA_congr fun y _ => by simp [lowC]
theorem low_put (r : Nat → Bool) {x : Nat} (h : r x = true) : clsA (clsPut (lowC r x) x) = clsA (lowC r (x + 1)) := clsA_congr fun y _ => by
  unfold clsPut lowC
  by_cases g : y = x
  · subst g
    simp [h]
  · have : (y < x + 1) ↔ (y < x) := by omega
    simp [g, this]
theorem low_skip (r : Nat → Bool) {x : Nat} (h : r x = false) : clsA (lowC r x) = clsA (lowC r (x + 1)) := clsA_congr fun y _ => by
  unfold lowC
  by_cases g : y = x
  · subst g
    simp [h]
  · have : (y < x + 1) ↔ (y < x) := by omega
    simp [this]
theorem low_end (r : Nat → Bool) : clsA (lowC r 256) = clsA r := clsA_congr fun y h => by simp [lowC, h]
theorem u8_wrap {x : Nat} (h : x < 256) : IntKind.u8.wrap (x : Int) = (x : Int) := by
  simp [IntKind.wrap, IntKind.signed, IntKind.bits]
  omega
theorem bit_at (p : Nat → Bool) {i : Nat} (h : i < 64) : (bits .and .u64 (iv (word p) / 2 ^ i) 1 == 1) = p i := by
  have := has_eq p (k := 0) (m := i) (x := i) (by omega) (by omega)
  rwa [show clsW p 0 = word p from word_ext fun j _ => by simp] at this
theorem mask_or (p q : Nat → Bool) : bits .or .u64 (iv (word p)) (iv (word q)) = iv (word fun j => p j || q j) := by
  rw [bits_or]
  exact congrArg iv (eq_word fun j hj => by rw [BitVec.getLsbD_or, word_bit, word_bit, decide_eq_true hj, Bool.true_and, Bool.true_and])
theorem mask_andNot (p q : Nat → Bool) : bits .andNot .u64 (iv (word p)) (iv (word q)) = iv (word fun j => p j && !q j) := by
  rw [bits_andNot]
  exact congrArg iv (eq_word fun j hj => by rw [BitVec.getLsbD_and, BitVec.getLsbD_not, word_bit, word_bit, decide_eq_true hj, Bool.true_and, Bool.true_and, Bool.true_and])
theorem mask_not (p : Nat → Bool) : bits .xor .u64 18446744073709551615 (iv (word p)) = iv (word fun j => !p j) := by
  have e2 : (18446744073709551615 : Int) = iv (BitVec.allOnes 64) := by decide
  rw [e2, bits_xor, BitVec.allOnes_xor]
  exact congrArg iv (eq_word fun j hj => by rw [BitVec.getLsbD_not, word_bit, decide_eq_true hj, Bool.true_and, Bool.true_and])
theorem u8_of {x : Nat} (hx : x < 256) : (((UInt8.ofNat x).toNat : Nat) : Int) = (x : Int) := by
  have h : (UInt8.ofNat x).toNat = x % 256 := by simp
  rw [h, Nat.mod_eq_of_lt hx]
theorem one_byte (x : Nat) (hx : x < 256) (y : Nat) : inT (⟨#[UInt8.ofNat x]⟩ : ByteArray) 1 y = decide (y = x) := by
  show (false || decide (bt (⟨#[UInt8.ofNat x]⟩ : ByteArray) ((0 : Nat) : Int) = (y : Int))) = _
  have e : bt (⟨#[UInt8.ofNat x]⟩ : ByteArray) ((0 : Nat) : Int) = (x : Int) := by
    have h := (bt_at (⟨#[UInt8.ofNat x]⟩ : ByteArray) ((0 : Nat) : Int) (Nat.zero_lt_one)).symm
    rw [h]
    show (((UInt8.ofNat x).toNat : Nat) : Int) = (x : Int)
    exact u8_of hx
  rw [e, Bool.false_or]
  exact decide_eq_decide.mpr (by omega)
theorem u64_wrap {x : Nat} (h : x < 64) : IntKind.u64.wrap (x : Int) = (x : Int) := by
  simp [IntKind.wrap, IntKind.signed, IntKind.bits]
  omega
end Go.Proofs.YtadcgjmhhodnoaaDoorQ
