/-
  How many bits of a word are set: what math/bits reckons. Plain Lean; no program in sight.
-/
import Derived.Test.YtadcgjmhhodnoaaDoorQc
import Derived.Test.YtadcgjmhhodnoaaDoorQb
namespace Go.Proofs.YtadcgjmhhodnoaaDoorQ
open Go Go.RowKit Go.Proofs.YtadcgjmhhodnoaaDoorW.PrintWords
/-- How many bits of a byte are set. -/
def pcB (x : Nat) : Nat := x % 2 + x / 2 % 2 + x / 4 % 2 + x / 8 % 2 + x / 16 % 2 + x / 32 % 2 + x / 64 % 2 + x / 128 % 2
def dig (a b c d e f g h : Nat) : Nat := a + 256 * (b + 256 * (c + 256 * (d + 256 * (e + 256 * (f + 256 * (g + 256 * h))))))
theorem and_cons (a b c d : Nat) (ha : a < 256) (hc : c < 256) : (a + 256 * b) &&& (c + 256 * d) = (a &&& c) + 256 * (b &&& d) := by
  have h1 : ((a + 256 * b) &&& (c + 256 * d)) % 2 ^ 8 = ((a + 256 * b) % 2 ^ 8) &&& ((c + 256 * d) % 2 ^ 8) := Nat.and_mod_two_pow
  have h2 : ((a + 256 * b) &&& (c + 256 * d)) / 2 ^ 8 = ((a + 256 * b) / 2 ^ 8) &&& ((c + 256 * d) / 2 ^ 8) := Nat.and_div_two_pow
  rw [show (a + 256 * b) % 2 ^ 8 = a by omega, show (c + 256 * d) % 2 ^ 8 = c by omega] at h1
  rw [show (a + 256 * b) / 2 ^ 8 = b by omega, show (c + 256 * d) / 2 ^ 8 = d by omega] at h2
  omega
theorem and_dig (m a b c d e f g h : Nat) (hm : m < 256) (ha : a < 256) (hb : b < 256) (hc : c < 256) (hd : d < 256) (he : e < 256) (hf : f < 256) (hg : g < 256) :
    dig a b c d e f g h &&& dig m m m m m m m m = dig (a &&& m) (b &&& m) (c &&& m) (d &&& m) (e &&& m) (f &&& m) (g &&& m) (h &&& m) := by
  unfold dig
  rw [and_cons _ _ _ _ ha hm, and_cons _ _ _ _ hb hm, and_cons _ _ _ _ hc hm, and_cons _ _ _ _ hd hm, and_cons _ _ _ _ he hm, and_cons _ _ _ _ hf hm, and_cons _ _ _ _ hg hm]
def g1 (x : Nat) : Nat := (x / 2 &&& 85) + (x &&& 85)
def g2 (x : Nat) : Nat := (x / 4 &&& 51) + (x &&& 51)
theorem half_and : ∀ x, x < 256 → ∀ p, p < 2 → (x / 2 + 128 * p) &&& 85 = x / 2 &&& 85 := by decide +kernel
theorem quarter_and : ∀ x, x < 256 → ∀ p, p < 4 → (x / 4 + 64 * p) &&& 51 = x / 4 &&& 51 := by decide +kernel
theorem step1 (a b c d e f g h : Nat) (ha : a < 256) (hb : b < 256) (hc : c < 256) (hd : d < 256) (he : e < 256) (hf : f < 256) (hg : g < 256) (hh : h < 256) :
    (dig a b c d e f g h / 2 &&& 6148914691236517205) + (dig a b c d e f g h &&& 6148914691236517205) = dig (g1 a) (g1 b) (g1 c) (g1 d) (g1 e) (g1 f) (g1 g) (g1 h) := by
  rw [show (6148914691236517205 : Nat) = dig 85 85 85 85 85 85 85 85 by decide]
  have e1 : dig a b c d e f g h / 2 = dig (a / 2 + 128 * (b % 2)) (b / 2 + 128 * (c % 2)) (c / 2 + 128 * (d % 2)) (d / 2 + 128 * (e % 2)) (e / 2 + 128 * (f % 2)) (f / 2 + 128 * (g % 2)) (g / 2 + 128 * (h % 2)) (h / 2 + 128 * 0) := by unfold dig; omega
  rw [e1, and_dig _ _ _ _ _ _ _ _ _ (by decide) (by omega) (by omega) (by omega) (by omega) (by omega) (by omega) (by omega), and_dig _ _ _ _ _ _ _ _ _ (by decide) ha hb hc hd he hf hg,
    half_and a ha _ (by omega), half_and b hb _ (by omega), half_and c hc _ (by omega), half_and d hd _ (by omega), half_and e he _ (by omega), half_and f hf _ (by omega), half_and g hg _ (by omega), half_and h hh _ (by omega)]
  unfold dig g1
  omega
theorem step2 (a b c d e f g h : Nat) (ha : a < 256) (hb : b < 256) (hc : c < 256) (hd : d < 256) (he : e < 256) (hf : f < 256) (hg : g < 256) (hh : h < 256) :
    (dig a b c d e f g h / 4 &&& 3689348814741910323) + (dig a b c d e f g h &&& 3689348814741910323) = dig (g2 a) (g2 b) (g2 c) (g2 d) (g2 e) (g2 f) (g2 g) (g2 h) := by
  rw [show (3689348814741910323 : Nat) = dig 51 51 51 51 51 51 51 51 by decide]
  have e1 : dig a b c d e f g h / 4 = dig (a / 4 + 64 * (b % 4)) (b / 4 + 64 * (c % 4)) (c / 4 + 64 * (d % 4)) (d / 4 + 64 * (e % 4)) (e / 4 + 64 * (f % 4)) (f / 4 + 64 * (g % 4)) (g / 4 + 64 * (h % 4)) (h / 4 + 64 * 0) := by unfold dig; omega
  rw [e1, and_dig _ _ _ _ _ _ _ _ _ (by decide) (by omega) (by omega) (by omega) (by omega) (by omega) (by omega) (by omega), and_dig _ _ _ _ _ _ _ _ _ (by decide) ha hb hc hd he hf hg,
    quarter_and a ha _ (by omega), quarter_and b hb _ (by omega), quarter_and c hc _ (by omega), quarter_and d hd _ (by omega), quarter_and e he _ (by omega), quarter_and f hf _ (by omega), quarter_and g hg _ (by omega), quarter_and h hh _ (by omega)]
  unfold dig g2
  omega
theorem nib : ∀ u, u ≤ 4 → ∀ v, v ≤ 4 → ∀ p, p ≤ 4 → ((16 * u + v) / 16 + 16 * p + (16 * u + v)) &&& 15 = u + v := by decide +kernel
theorem step3 (a b c d e f g h : Nat) (ha : a / 16 ≤ 4 ∧ a % 16 ≤ 4) (hb : b / 16 ≤ 4 ∧ b % 16 ≤ 4) (hc : c / 16 ≤ 4 ∧ c % 16 ≤ 4) (hd : d / 16 ≤ 4 ∧ d % 16 ≤ 4) (he : e / 16 ≤ 4 ∧ e % 16 ≤ 4) (hf : f / 16 ≤ 4 ∧ f % 16 ≤ 4) (hg : g / 16 ≤ 4 ∧ g % 16 ≤ 4) (hh : h / 16 ≤ 4 ∧ h % 16 ≤ 4) :
    (dig a b c d e f g h / 16 + dig a b c d e f g h) &&& 1085102592571150095 = dig (a / 16 + a % 16) (b / 16 + b % 16) (c / 16 + c % 16) (d / 16 + d % 16) (e / 16 + e % 16) (f / 16 + f % 16) (g / 16 + g % 16) (h / 16 + h % 16) := by
  rw [show (1085102592571150095 : Nat) = dig 15 15 15 15 15 15 15 15 by decide]
  have k : ∀ x p, x / 16 ≤ 4 ∧ x % 16 ≤ 4 → p ≤ 4 → (x / 16 + 16 * p + x) &&& 15 = x / 16 + x % 16 := fun x p hx hp => by
    have := nib (x / 16) hx.1 (x % 16) hx.2 p hp
    rwa [show 16 * (x / 16) + x % 16 = x by omega] at this
  have e1 : dig a b c d e f g h / 16 + dig a b c d e f g h = dig (a / 16 + 16 * (b % 16) + a) (b / 16 + 16 * (c % 16) + b) (c / 16 + 16 * (d % 16) + c) (d / 16 + 16 * (e % 16) + d) (e / 16 + 16 * (f % 16) + e) (f / 16 + 16 * (g % 16) + f) (g / 16 + 16 * (h % 16) + g) (h / 16 + 16 * 0 + h) := by unfold dig; omega
  rw [e1, and_dig _ _ _ _ _ _ _ _ _ (by decide) (by omega) (by omega) (by omega) (by omega) (by omega) (by omega) (by omega),
    k a _ ha hb.2, k b _ hb hc.2, k c _ hc hd.2, k d _ hd he.2, k e _ he hf.2, k f _ hf hg.2, k g _ hg hh.2, k h _ hh (by omega)]
theorem nibs : ∀ x, x < 256 → g1 x < 256 ∧ g2 (g1 x) / 16 ≤ 4 ∧ g2 (g1 x) % 16 ≤ 4 ∧ g2 (g1 x) / 16 + g2 (g1 x) % 16 = pcB x ∧ pcB x ≤ 8 := by decide +kernel
theorem step4 (a b c d e f g h : Nat) (ha : a ≤ 8) (hb : b ≤ 8) (hc : c ≤ 8) (hd : d ≤ 8) (he : e ≤ 8) (hf : f ≤ 8) (hg : g ≤ 8) (hh : h ≤ 8) (C D E : Nat) (hC : C = dig a b c d e f g h) (hD : D = C + C / 256) (hE : E = D + D / 65536) :
    D < 18446744073709551616 ∧ E < 18446744073709551616 ∧ E + E / 4294967296 < 9223372036854775808 ∧ (E + E / 4294967296) % 128 = a + b + c + d + e + f + g + h := by
  have h1 : C / 256 = dig b c d e f g h 0 := by rw [hC]; unfold dig; omega
  have hD' : D = dig (a + b) (b + c) (c + d) (d + e) (e + f) (f + g) (g + h) h := by rw [hD, h1, hC]; unfold dig; omega
  clear hD h1 hC
  have h2 : D / 65536 = dig (c + d) (d + e) (e + f) (f + g) (g + h) h 0 0 := by rw [hD']; unfold dig; omega
  have hE' : E = dig (a + b + c + d) (b + c + d + e) (c + d + e + f) (d + e + f + g) (e + f + g + h) (f + g + h) (g + h) h := by rw [hE, h2, hD']; unfold dig; omega
  clear hE h2
  have h3 : E / 4294967296 = dig (e + f + g + h) (f + g + h) (g + h) h 0 0 0 0 := by rw [hE']; unfold dig; omega
  have hF : E + E / 4294967296 = dig (a + b + c + d + (e + f + g + h)) (b + c + d + e + (f + g + h)) (c + d + e + f + (g + h)) (d + e + f + g + h) (e + f + g + h) (f + g + h) (g + h) h := by rw [h3, hE']; unfold dig; omega
  refine ⟨by rw [hD']; unfold dig; omega, by rw [hE']; unfold dig; omega, by rw [hF]; unfold dig; omega, ?_⟩
  rw [hF]
  unfold dig
  omega
def cnt (q : Nat → Bool) : Nat → Nat
  | 0 => 0
  | n + 1 => cnt q n + (q n).toNat
theorem bit_nat (N i : Nat) : (N.testBit i).toNat = N / 2 ^ i % 2 := by
  rw [Nat.testBit_eq_decide_div_mod_eq]
  by_cases h : N / 2 ^ i % 2 = 1
  · rw [decide_eq_true h, h]; rfl
  · rw [decide_eq_false h]
    show 0 = _
    omega
theorem cnt_byte (N k : Nat) : cnt (fun i => N.testBit i) (8 * (k + 1)) = cnt (fun i => N.testBit i) (8 * k) + pcB (N / 256 ^ k % 256) := by
  have h : ∀ j, N / 2 ^ (8 * k + j) = N / 256 ^ k / 2 ^ j := fun j => by
    rw [Nat.pow_add, Nat.pow_mul, Nat.div_div_eq_div_mul]
  rw [show 8 * (k + 1) = 8 * k + 7 + 1 by omega]
  simp only [cnt, bit_nat]
  rw [h 7, h 6, h 5, h 4, h 3, h 2, h 1, show 8 * k = 8 * k + 0 by omega, h 0]
  unfold pcB
  generalize N / 256 ^ k = y
  omega
theorem dig_of (N : Nat) (h : N < 18446744073709551616) : N = dig (N % 256) (N / 256 % 256) (N / 65536 % 256) (N / 16777216 % 256) (N / 4294967296 % 256) (N / 1099511627776 % 256) (N / 281474976710656 % 256) (N / 72057594037927936 % 256) := by
  unfold dig
  omega
theorem dig_lt (a b c d e f g h : Nat) (ha : a < 256) (hb : b < 256) (hc : c < 256) (hd : d < 256) (he : e < 256) (hf : f < 256) (hg : g < 256) (hh : h < 256) : dig a b c d e f g h < 18446744073709551616 := by
  unfold dig
  omega
set_option maxHeartbeats 4000000 in
/-- The sum of the bits, as it is reckoned. -/
theorem pop_nat (N a b c d e : Nat) (hN : N < 18446744073709551616)
    (ha : a = (N / 2 &&& 6148914691236517205) + (N &&& 6148914691236517205))
    (hb : b = (a / 4 &&& 3689348814741910323) + (a &&& 3689348814741910323))
    (hc : c = (b / 16 + b) &&& 1085102592571150095)
    (hd : d = c + c / 256) (he : e = d + d / 65536) :
    a < 18446744073709551616 ∧ b < 18446744073709551616 ∧ b / 16 + b < 18446744073709551616 ∧ c < 18446744073709551616 ∧ d < 18446744073709551616 ∧ e < 18446744073709551616 ∧ e + e / 4294967296 < 9223372036854775808 ∧ (e + e / 4294967296) % 128 = cnt (fun i => N.testBit i) 64 := by
  have l0 : N % 256 < 256 := by omega
  have l1 : N / 256 % 256 < 256 := by omega
  have l2 : N / 65536 % 256 < 256 := by omega
  have l3 : N / 16777216 % 256 < 256 := by omega
  have l4 : N / 4294967296 % 256 < 256 := by omega
  have l5 : N / 1099511627776 % 256 < 256 := by omega
  have l6 : N / 281474976710656 % 256 < 256 := by omega
  have l7 : N / 72057594037927936 % 256 < 256 := by omega
  have hcnt : cnt (fun i => N.testBit i) 64 = pcB (N % 256) + pcB (N / 256 % 256) + pcB (N / 65536 % 256) + pcB (N / 16777216 % 256) + pcB (N / 4294967296 % 256) + pcB (N / 1099511627776 % 256) + pcB (N / 281474976710656 % 256) + pcB (N / 72057594037927936 % 256) := by
    have h0 := cnt_byte N 0
    have h1 := cnt_byte N 1
    have h2 := cnt_byte N 2
    have h3 := cnt_byte N 3
    have h4 := cnt_byte N 4
    have h5 := cnt_byte N 5
    have h6 := cnt_byte N 6
    have h7 := cnt_byte N 7
    simp only [Nat.reduceMul, Nat.reduceAdd, Nat.reducePow, Nat.div_one] at h0 h1 h2 h3 h4 h5 h6 h7
    have z : cnt (fun i => N.testBit i) 0 = 0 := rfl
    omega
  have hNd := dig_of N hN
  rw [hcnt]
  generalize N % 256 = x0 at *
  generalize N / 256 % 256 = x1 at *
  generalize N / 65536 % 256 = x2 at *
  generalize N / 16777216 % 256 = x3 at *
  generalize N / 4294967296 % 256 = x4 at *
  generalize N / 1099511627776 % 256 = x5 at *
  generalize N / 281474976710656 % 256 = x6 at *
  generalize N / 72057594037927936 % 256 = x7 at *
  obtain ⟨p0, q0, r0, s0, t0⟩ := nibs x0 l0
  obtain ⟨p1, q1, r1, s1, t1⟩ := nibs x1 l1
  obtain ⟨p2, q2, r2, s2, t2⟩ := nibs x2 l2
  obtain ⟨p3, q3, r3, s3, t3⟩ := nibs x3 l3
  obtain ⟨p4, q4, r4, s4, t4⟩ := nibs x4 l4
  obtain ⟨p5, q5, r5, s5, t5⟩ := nibs x5 l5
  obtain ⟨p6, q6, r6, s6, t6⟩ := nibs x6 l6
  obtain ⟨p7, q7, r7, s7, t7⟩ := nibs x7 l7
  rw [hNd, step1 _ _ _ _ _ _ _ _ l0 l1 l2 l3 l4 l5 l6 l7] at ha
  have la := dig_lt _ _ _ _ _ _ _ _ p0 p1 p2 p3 p4 p5 p6 p7
  rw [ha, step2 _ _ _ _ _ _ _ _ p0 p1 p2 p3 p4 p5 p6 p7] at hb
  have m : ∀ y, y / 16 ≤ 4 ∧ y % 16 ≤ 4 → y < 69 := fun y hy => by omega
  have lb := dig_lt _ _ _ _ _ _ _ _ (Nat.lt_trans (m _ ⟨q0, r0⟩) (by decide)) (Nat.lt_trans (m _ ⟨q1, r1⟩) (by decide)) (Nat.lt_trans (m _ ⟨q2, r2⟩) (by decide)) (Nat.lt_trans (m _ ⟨q3, r3⟩) (by decide)) (Nat.lt_trans (m _ ⟨q4, r4⟩) (by decide)) (Nat.lt_trans (m _ ⟨q5, r5⟩) (by decide)) (Nat.lt_trans (m _ ⟨q6, r6⟩) (by decide)) (Nat.lt_trans (m _ ⟨q7, r7⟩) (by decide))
  have lb2 : b / 16 + b < 18446744073709551616 := by
    have k : b < 69 * 72057594037927936 := by
      have k0 := m _ ⟨q0, r0⟩
      have k1 := m _ ⟨q1, r1⟩
      have k2 := m _ ⟨q2, r2⟩
      have k3 := m _ ⟨q3, r3⟩
      have k4 := m _ ⟨q4, r4⟩
      have k5 := m _ ⟨q5, r5⟩
      have k6 := m _ ⟨q6, r6⟩
      have k7 := m _ ⟨q7, r7⟩
      rw [hb]
      unfold dig
      omega
    omega
  rw [hb] at lb2
  rw [hb, step3 _ _ _ _ _ _ _ _ ⟨q0, r0⟩ ⟨q1, r1⟩ ⟨q2, r2⟩ ⟨q3, r3⟩ ⟨q4, r4⟩ ⟨q5, r5⟩ ⟨q6, r6⟩ ⟨q7, r7⟩, s0, s1, s2, s3, s4, s5, s6, s7] at hc
  have lc := dig_lt _ _ _ _ _ _ _ _ (Nat.lt_of_le_of_lt t0 (by decide)) (Nat.lt_of_le_of_lt t1 (by decide)) (Nat.lt_of_le_of_lt t2 (by decide)) (Nat.lt_of_le_of_lt t3 (by decide)) (Nat.lt_of_le_of_lt t4 (by decide)) (Nat.lt_of_le_of_lt t5 (by decide)) (Nat.lt_of_le_of_lt t6 (by decide)) (Nat.lt_of_le_of_lt t7 (by decide))
  obtain ⟨g1', g2', g3', g4'⟩ := step4 _ _ _ _ _ _ _ _ t0 t1 t2 t3 t4 t5 t6 t7 c d e hc hd he
  refine ⟨by rw [ha]; exact la, by rw [hb]; exact lb, by rw [hb]; exact lb2, by rw [hc]; exact lc, g1', g2', g3', g4'⟩
end Go.Proofs.YtadcgjmhhodnoaaDoorQ
