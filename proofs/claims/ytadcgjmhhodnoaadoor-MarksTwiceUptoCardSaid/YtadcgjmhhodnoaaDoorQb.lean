/-
  Plain facts on the eight bytes of a word: which of them are one byte (lanes.Equal, lanes.tops). No program in sight.
-/
import Derived.Test.YtadcgjmhhodnoaaDoorQa
namespace Go.Proofs.YtadcgjmhhodnoaaDoorQ
open Go Go.RowKit

/-- Eight lanes of a word. -/
def laneN (g : Nat → Nat) : Nat → Nat
  | 0 => 0
  | n + 1 => laneN g n + g n * 256 ^ n
theorem pow256 (n : Nat) : 256 ^ n = 2 ^ (8 * n) := by rw [show (256 : Nat) = 2 ^ 8 from rfl, ← Nat.pow_mul]
theorem laneN_lt (g : Nat → Nat) (hg : ∀ j, g j < 256) : ∀ n, laneN g n < 256 ^ n
  | 0 => by simp [laneN]
  | n + 1 => by
    have := laneN_lt g hg n
    have := Nat.mul_le_mul_right (256 ^ n) (Nat.le_of_lt_succ (hg n))
    unfold laneN
    rw [Nat.pow_succ]
    omega
theorem laneN_congr {g h : Nat → Nat} : ∀ n, (∀ j, j < n → g j = h j) → laneN g n = laneN h n
  | 0, _ => rfl
  | n + 1, e => by
    unfold laneN
    rw [laneN_congr n fun j hj => e j (by omega), e n (by omega)]
theorem laneN_add (g h : Nat → Nat) : ∀ n, laneN g n + laneN h n = laneN (fun j => g j + h j) n
  | 0 => rfl
  | n + 1 => by
    unfold laneN
    rw [← laneN_add g h n, Nat.add_mul]
    omega
/-- A bit of a lane. -/
theorem laneN_bit (g : Nat → Nat) (hg : ∀ j, g j < 256) (i : Nat) : ∀ n, (laneN g n).testBit i = (decide (i < 8 * n) && (g (i / 8)).testBit (i % 8))
  | 0 => by simp [laneN]
  | n + 1 => by
    have hl := laneN_lt g hg n
    have ih := laneN_bit g hg i n
    unfold laneN
    rw [pow256, Nat.add_comm, Nat.mul_comm, Nat.two_pow_add_eq_or_of_lt (by rw [← pow256]; exact hl), Nat.testBit_or, ih, Nat.testBit_two_pow_mul]
    by_cases h : i < 8 * n
    · simp [h, show ¬ 8 * n ≤ i by omega, show i < 8 * (n + 1) by omega]
    · by_cases h2 : i < 8 * (n + 1)
      · have e1 : i / 8 = n := by omega
        have e2 : i - 8 * n = i % 8 := by omega
        simp [h, h2, show 8 * n ≤ i by omega, e1, e2]
      · have h3 : (g n).testBit (i - 8 * n) = false := Nat.testBit_lt_two_pow (Nat.lt_of_lt_of_le (hg n) (show 2 ^ 8 ≤ 2 ^ (i - 8 * n) from Nat.pow_le_pow_right (by omega) (by omega)))
        simp [h, h2, h3]
theorem lane_xor (g h : Nat → Nat) (hg : ∀ j, g j < 256) (hh : ∀ j, h j < 256) (n : Nat) : laneN g n ^^^ laneN h n = laneN (fun j => g j ^^^ h j) n := by
  apply Nat.eq_of_testBit_eq
  intro i
  rw [Nat.testBit_xor, laneN_bit g hg, laneN_bit h hh, laneN_bit _ (fun j => Nat.xor_lt_two_pow (n := 8) (hg j) (hh j)), Nat.testBit_xor]
  cases decide (i < 8 * n) <;> simp
theorem lane_or (g h : Nat → Nat) (hg : ∀ j, g j < 256) (hh : ∀ j, h j < 256) (n : Nat) : laneN g n ||| laneN h n = laneN (fun j => g j ||| h j) n := by
  apply Nat.eq_of_testBit_eq
  intro i
  rw [Nat.testBit_or, laneN_bit g hg, laneN_bit h hh, laneN_bit _ (fun j => Nat.or_lt_two_pow (n := 8) (hg j) (hh j)), Nat.testBit_or]
  cases decide (i < 8 * n) <;> simp
theorem lane_and (g h : Nat → Nat) (hg : ∀ j, g j < 256) (hh : ∀ j, h j < 256) (n : Nat) : laneN g n &&& laneN h n = laneN (fun j => g j &&& h j) n := by
  apply Nat.eq_of_testBit_eq
  intro i
  rw [Nat.testBit_and, laneN_bit g hg, laneN_bit h hh, laneN_bit _ (fun j => Nat.and_lt_two_pow (n := 8) _ (hh j)), Nat.testBit_and]
  cases decide (i < 8 * n) <;> simp
theorem loadN_lane (f : Nat → Int) (n : Nat) : loadN f n = laneN (fun j => (f j).toNat) n := by
  induction n with
  | zero => rfl
  | succ n ih => unfold loadN laneN; rw [ih]

theorem fill_lane (c : Nat) : 72340172838076673 * c = laneN (fun _ => c) 8 := by
  simp only [laneN]
  omega
theorem bits_andNot_u64_nat (a b : Nat) (ha : a < 18446744073709551616) (hb : b < 18446744073709551616) :
    bits .andNot .u64 (a : Int) (b : Int) = ((a &&& (18446744073709551615 - b) : Nat) : Int) := by
  have e1 : (a : Int) = iv (BitVec.ofNat 64 a) := by unfold iv; rw [BitVec.toNat_ofNat]; omega
  have e2 : (b : Int) = iv (BitVec.ofNat 64 b) := by unfold iv; rw [BitVec.toNat_ofNat]; omega
  rw [e1, e2, bits_andNot]
  unfold iv
  rw [BitVec.toNat_and, BitVec.toNat_not, BitVec.toNat_ofNat, BitVec.toNat_ofNat, Nat.mod_eq_of_lt (by omega), Nat.mod_eq_of_lt (by omega)]
theorem bits_not_u64_nat (a : Nat) (ha : a < 18446744073709551616) :
    bits .xor .u64 18446744073709551615 (a : Int) = ((18446744073709551615 - a : Nat) : Int) := by
  have e1 : (a : Int) = iv (BitVec.ofNat 64 a) := by unfold iv; rw [BitVec.toNat_ofNat]; omega
  have e2 : (18446744073709551615 : Int) = iv (BitVec.allOnes 64) := by decide
  rw [e1, e2, bits_xor, BitVec.allOnes_xor]
  unfold iv
  rw [BitVec.toNat_not, BitVec.toNat_ofNat, Nat.mod_eq_of_lt (by omega)]
/-- The product that brings eight bits beside one another. -/
theorem gather_sum (x0 x1 x2 x3 x4 x5 x6 x7 : Nat) :
    (x0 + x1 * 256 + x2 * 65536 + x3 * 16777216 + x4 * 4294967296 + x5 * 1099511627776 + x6 * 281474976710656 + x7 * 72057594037927936) * 72624976668147840 =
      (x0 * 128 + (x0 * 64 + x1 * 128) * 256 + (x0 * 32 + x1 * 64 + x2 * 128) * 65536 + (x0 * 16 + x1 * 32 + x2 * 64 + x3 * 128) * 16777216 + (x0 * 8 + x1 * 16 + x2 * 32 + x3 * 64 + x4 * 128) * 4294967296
        + (x0 * 4 + x1 * 8 + x2 * 16 + x3 * 32 + x4 * 64 + x5 * 128) * 1099511627776 + (x0 * 2 + x1 * 4 + x2 * 8 + x3 * 16 + x4 * 32 + x5 * 64 + x6 * 128) * 281474976710656)
      + 72057594037927936 * (x0 + x1 * 2 + x2 * 4 + x3 * 8 + x4 * 16 + x5 * 32 + x6 * 64 + x7 * 128)
      + 18446744073709551616 * ((x1 + x2 * 2 + x3 * 4 + x4 * 8 + x5 * 16 + x6 * 32 + x7 * 64) + (x2 + x3 * 2 + x4 * 4 + x5 * 8 + x6 * 16 + x7 * 32) * 256 + (x3 + x4 * 2 + x5 * 4 + x6 * 8 + x7 * 16) * 65536 + (x4 + x5 * 2 + x6 * 4 + x7 * 8) * 16777216
        + (x5 + x6 * 2 + x7 * 4) * 4294967296 + (x6 + x7 * 2) * 1099511627776 + x7 * 281474976710656) := by omega
theorem gather_low {x0 x1 x2 x3 x4 x5 x6 : Nat} (h0 : x0 ≤ 1) (h1 : x1 ≤ 1) (h2 : x2 ≤ 1) (h3 : x3 ≤ 1) (h4 : x4 ≤ 1) (h5 : x5 ≤ 1) (h6 : x6 ≤ 1) :
    (x0 * 128 + (x0 * 64 + x1 * 128) * 256 + (x0 * 32 + x1 * 64 + x2 * 128) * 65536 + (x0 * 16 + x1 * 32 + x2 * 64 + x3 * 128) * 16777216 + (x0 * 8 + x1 * 16 + x2 * 32 + x3 * 64 + x4 * 128) * 4294967296
        + (x0 * 4 + x1 * 8 + x2 * 16 + x3 * 32 + x4 * 64 + x5 * 128) * 1099511627776 + (x0 * 2 + x1 * 4 + x2 * 8 + x3 * 16 + x4 * 32 + x5 * 64 + x6 * 128) * 281474976710656) < 72057594037927936 := by omega
theorem gather_mid {x0 x1 x2 x3 x4 x5 x6 x7 : Nat} (h0 : x0 ≤ 1) (h1 : x1 ≤ 1) (h2 : x2 ≤ 1) (h3 : x3 ≤ 1) (h4 : x4 ≤ 1) (h5 : x5 ≤ 1) (h6 : x6 ≤ 1) (h7 : x7 ≤ 1) :
    x0 + x1 * 2 + x2 * 4 + x3 * 8 + x4 * 16 + x5 * 32 + x6 * 64 + x7 * 128 < 256 := by omega
theorem gather_top (A B C : Nat) (hA : A < 72057594037927936) (hB : B < 256) : (((A + 72057594037927936 * B + 18446744073709551616 * C) % 18446744073709551616 : Nat) : Int) / 72057594037927936 % 256 = (B : Int) := by omega
/-- The highest bits of eight lanes, beside one another. -/
def topsN (x : Int) : Int := ((IntKind.u64.wrap (((bits .and .u64 x 9259542123273814144) / 128) * 72624976668147840)) / 72057594037927936) % 256
theorem tops_lane (g : Nat → Nat) (hg : ∀ j, g j < 256) : topsN ((laneN g 8 : Nat) : Int) = ((wordN (fun j => decide (128 ≤ g j)) 8 : Nat) : Int) := by
  have hl : laneN g 8 < 18446744073709551616 := laneN_lt g hg 8
  have eh : (9259542123273814144 : Nat) = laneN (fun _ => 128) 8 := by decide
  have e1 : bits .and .u64 ((laneN g 8 : Nat) : Int) 9259542123273814144 = ((laneN (fun j => g j &&& 128) 8 : Nat) : Int) := by
    have := bits_and_u64_nat (laneN g 8) 9259542123273814144 hl (by decide)
    rw [eh, lane_and g _ hg (fun _ => by decide)] at this
    rw [← this]
    rfl
  have e2 : ∀ j, g j &&& 128 = 128 * (if 128 ≤ g j then 1 else 0) := by
    intro j
    have : ∀ x : Fin 256, x.val &&& 128 = 128 * (if 128 ≤ x.val then 1 else 0) := by decide +kernel
    exact this ⟨g j, hg j⟩
  unfold topsN
  rw [e1, laneN_congr 8 fun j _ => e2 j]
  obtain ⟨b, hb⟩ : ∃ b : Nat → Nat, b = fun j => if 128 ≤ g j then 1 else 0 := ⟨_, rfl⟩
  have hb1 : ∀ j, b j ≤ 1 := fun j => by rw [hb]; dsimp only; split <;> omega
  have hw : wordN (fun j => decide (128 ≤ g j)) 8 = b 0 + b 1 * 2 + b 2 * 4 + b 3 * 8 + b 4 * 16 + b 5 * 32 + b 6 * 64 + b 7 * 128 := by
    have : ∀ j k : Nat, (if decide (128 ≤ g j) = true then k else 0) = b j * k := fun j k => by
      rw [hb]
      dsimp only
      by_cases h : 128 ≤ g j <;> simp [h]
    simp only [wordN, this]
    omega
  have hlane : laneN (fun j => 128 * if 128 ≤ g j then 1 else 0) 8 = 128 * (b 0 + b 1 * 256 + b 2 * 65536 + b 3 * 16777216 + b 4 * 4294967296 + b 5 * 1099511627776 + b 6 * 281474976710656 + b 7 * 72057594037927936) := by
    have : ∀ j, (if 128 ≤ g j then 1 else 0) = b j := fun j => by rw [hb]
    simp only [laneN, this]
    omega
  rw [hw, hlane]
  have h0 := hb1 0
  have h1 := hb1 1
  have h2 := hb1 2
  have h3 := hb1 3
  have h4 := hb1 4
  have h5 := hb1 5
  have h6 := hb1 6
  have h7 := hb1 7
  generalize b 0 = x0 at *
  generalize b 1 = x1 at *
  generalize b 2 = x2 at *
  generalize b 3 = x3 at *
  generalize b 4 = x4 at *
  generalize b 5 = x5 at *
  generalize b 6 = x6 at *
  generalize b 7 = x7 at *
  have e3 : ∀ S : Nat, ((128 * S : Nat) : Int) / 128 = (S : Int) := fun S => by omega
  have e4 : ∀ S : Nat, ((S : Int) * 72624976668147840) = ((S * 72624976668147840 : Nat) : Int) := fun S => by rw [Int.natCast_mul]; rfl
  rw [e3, e4, gather_sum, wrap_nat]
  exact gather_top _ _ _ (gather_low h0 h1 h2 h3 h4 h5 h6) (gather_mid h0 h1 h2 h3 h4 h5 h6 h7)
/-- Which of the eight bytes are one byte. -/
theorem equal_lanes (f : Nat → Int) (hf : ∀ i, 0 ≤ f i ∧ f i < 256) (c : Int) (h0 : 0 ≤ c) (h1 : c < 256) :
    topsN (bits .xor .u64 18446744073709551615 (bits .or .u64 (IntKind.u64.wrap (bits .andNot .u64 (bits .xor .u64 ((loadN f 8 : Nat) : Int) (IntKind.u64.wrap (72340172838076673 * IntKind.u64.wrap c))) 9259542123273814144 + 9187201950435737471))
      (bits .xor .u64 ((loadN f 8 : Nat) : Int) (IntKind.u64.wrap (72340172838076673 * IntKind.u64.wrap c))))) = ((wordN (fun j => decide (f j = c)) 8 : Nat) : Int) := by
  obtain ⟨d, rfl⟩ : ∃ d : Nat, c = d := ⟨c.toNat, by omega⟩
  have hd : d < 256 := by omega
  have hg : ∀ j, (f j).toNat < 256 := fun j => by have := hf j; omega
  have e1 : IntKind.u64.wrap (72340172838076673 * IntKind.u64.wrap (d : Int)) = ((laneN (fun _ => d) 8 : Nat) : Int) := by
    rw [wrap_nat, Nat.mod_eq_of_lt (by omega), ← fill_lane]
    have := wrap_nat (72340172838076673 * d)
    rw [Nat.mod_eq_of_lt (by omega), Int.natCast_mul] at this
    rw [Int.natCast_mul, ← this]
    rfl
  have hl1 : laneN (fun j => (f j).toNat) 8 < 18446744073709551616 := laneN_lt _ hg 8
  have hl2 : laneN (fun _ => d) 8 < 18446744073709551616 := laneN_lt _ (fun _ => hd) 8
  obtain ⟨x, hx⟩ : ∃ x : Nat → Nat, x = fun j => (f j).toNat ^^^ d := ⟨_, rfl⟩
  have hx256 : ∀ j, x j < 256 := fun j => by rw [hx]; exact Nat.xor_lt_two_pow (n := 8) (hg j) hd
  have e2 : bits .xor .u64 ((loadN f 8 : Nat) : Int) ((laneN (fun _ => d) 8 : Nat) : Int) = ((laneN x 8 : Nat) : Int) := by
    rw [loadN_lane, bits_xor_u64_nat _ _ hl1 hl2, lane_xor _ _ hg (fun _ => hd), hx]
  have hl3 : laneN x 8 < 18446744073709551616 := laneN_lt _ hx256 8
  have e3 : bits .andNot .u64 ((laneN x 8 : Nat) : Int) 9259542123273814144 = ((laneN (fun j => x j % 128) 8 : Nat) : Int) := by
    have := bits_andNot_u64_nat (laneN x 8) 9259542123273814144 hl3 (by decide)
    rw [show (18446744073709551615 - 9259542123273814144 : Nat) = laneN (fun _ => 127) 8 by decide, lane_and x _ hx256 (fun _ => by decide)] at this
    have e : ∀ j, x j &&& 127 = x j % 128 := fun j => Nat.and_two_pow_sub_one_eq_mod (x j) 7
    rw [laneN_congr 8 fun j _ => e j] at this
    rw [← this]
    rfl
  have e4 : IntKind.u64.wrap (((laneN (fun j => x j % 128) 8 : Nat) : Int) + 9187201950435737471) = ((laneN (fun j => x j % 128 + 127) 8 : Nat) : Int) := by
    have h : laneN (fun j => x j % 128) 8 + 9187201950435737471 = laneN (fun j => x j % 128 + 127) 8 := by
      rw [show (9187201950435737471 : Nat) = laneN (fun _ => 127) 8 by decide, laneN_add]
    have hl4 : laneN (fun j => x j % 128 + 127) 8 < 18446744073709551616 := laneN_lt _ (fun j => by omega) 8
    have := wrap_nat (laneN (fun j => x j % 128) 8 + 9187201950435737471)
    rw [Nat.mod_eq_of_lt (by rw [h]; exact hl4), Int.natCast_add] at this
    rw [← h, Int.natCast_add, ← this]
    rfl
  have hl4 : laneN (fun j => x j % 128 + 127) 8 < 18446744073709551616 := laneN_lt _ (fun j => by omega) 8
  have hy : ∀ j, (x j % 128 + 127) ||| x j < 256 := fun j => Nat.or_lt_two_pow (n := 8) (by omega) (hx256 j)
  have hl5 : laneN (fun j => (x j % 128 + 127) ||| x j) 8 < 18446744073709551616 := laneN_lt _ hy 8
  have e5 : 18446744073709551615 - laneN (fun j => (x j % 128 + 127) ||| x j) 8 = laneN (fun j => 255 - ((x j % 128 + 127) ||| x j)) 8 := by
    have h := laneN_add (fun j => (x j % 128 + 127) ||| x j) (fun j => 255 - ((x j % 128 + 127) ||| x j)) 8
    rw [laneN_congr (h := fun _ => 255) 8 fun j _ => Nat.add_sub_of_le (Nat.le_of_lt_succ (hy j))] at h
    have : laneN (fun _ => 255) 8 = 18446744073709551615 := by decide
    omega
  rw [e1, e2, e3, e4, bits_or_u64_nat _ _ hl4 hl3, lane_or _ _ (fun j => by omega) hx256, bits_not_u64_nat _ hl5, e5, tops_lane _ (fun j => by omega)]
  have : ∀ j, decide (128 ≤ 255 - ((x j % 128 + 127) ||| x j)) = decide (f j = (d : Int)) := by
    intro j
    have hz : ∀ z : Fin 256, (decide (128 ≤ 255 - ((z.val % 128 + 127) ||| z.val)) = decide (z.val = 0)) := by decide +kernel
    have h := hz ⟨x j, hx256 j⟩
    dsimp only at h
    rw [h]
    have hfj := hf j
    have : x j = 0 ↔ f j = (d : Int) := by
      rw [hx]
      dsimp only
      constructor
      · intro e
        have : (f j).toNat = d := by
          have h := congrArg (· ^^^ d) e
          simpa [Nat.xor_assoc] using h
        omega
      · intro e
        have : (f j).toNat = d := by omega
        rw [this, Nat.xor_self]
    simp [this]
  have hfun : (fun j => decide (128 ≤ 255 - ((x j % 128 + 127) ||| x j))) = fun j => decide (f j = (d : Int)) := funext this
  rw [hfun]
end Go.Proofs.YtadcgjmhhodnoaaDoorQ
