-- Written by a program (myprint.py, over the kit's print) for this claim. Not trusted: Lean checks it.
import Derived.Test.YtadcgjmhhodnoaaDoorMh
import Derived.Test.YtadcgjmhhodnoaaDoorPSx0
import Derived.Test.YtadcgjmhhodnoaaDoorPSx1
import Derived.Test.YtadcgjmhhodnoaaDoorPSx2
import Derived.Test.YtadcgjmhhodnoaaDoorPSx3
namespace Go.Proofs.YtadcgjmhhodnoaaDoor.PS
attribute [local go_sem] Go.Proofs.YtadcgjmhhodnoaaDoorM.fieldBits0 Go.Proofs.YtadcgjmhhodnoaaDoorM.fieldBits1
open Go.RowKit Go.Proofs.YtadcgjmhhodnoaaDoorW.PrintWords Go.Proofs.YtadcgjmhhodnoaaDoorW.PrintLast Go.Proofs.YtadcgjmhhodnoaaDoorW.PrintMore
attribute [local go_sem] max2_int min2_int max_two min_two max_three min_three max_four min_four   -- for this text's walks alone
set_option linter.unusedVariables false
set_option linter.unusedSimpArgs false

/-! ### quarrylaw07_QuotesSpans: function 9 -/
section
open Go.Proofs.YtadcgjmhhodnoaaDoorQ Go.Proofs.YtadcgjmhhodnoaaDoorM Go.Shelf
open Go.Proofs.YtadcgjmhhodnoaaDoorW.PrintWords
namespace QsF
/-- How many bits of a byte are set. -/
def q9_pcB (x : Nat) : Nat := x % 2 + x / 2 % 2 + x / 4 % 2 + x / 8 % 2 + x / 16 % 2 + x / 32 % 2 + x / 64 % 2 + x / 128 % 2
def q9_dig (a b c d e f g h : Nat) : Nat := a + 256 * (b + 256 * (c + 256 * (d + 256 * (e + 256 * (f + 256 * (g + 256 * h))))))
theorem q9_and_cons (a b c d : Nat) (ha : a < 256) (hc : c < 256) : (a + 256 * b) &&& (c + 256 * d) = (a &&& c) + 256 * (b &&& d) := by
  have h1 : ((a + 256 * b) &&& (c + 256 * d)) % 2 ^ 8 = ((a + 256 * b) % 2 ^ 8) &&& ((c + 256 * d) % 2 ^ 8) := Nat.and_mod_two_pow
  have h2 : ((a + 256 * b) &&& (c + 256 * d)) / 2 ^ 8 = ((a + 256 * b) / 2 ^ 8) &&& ((c + 256 * d) / 2 ^ 8) := Nat.and_div_two_pow
  rw [show (a + 256 * b) % 2 ^ 8 = a by omega, show (c + 256 * d) % 2 ^ 8 = c by omega] at h1
  rw [show (a + 256 * b) / 2 ^ 8 = b by omega, show (c + 256 * d) / 2 ^ 8 = d by omega] at h2
  omega
theorem q9_and_dig (m a b c d e f g h : Nat) (hm : m < 256) (ha : a < 256) (hb : b < 256) (hc : c < 256) (hd : d < 256) (he : e < 256) (hf : f < 256) (hg : g < 256) :
    q9_dig a b c d e f g h &&& q9_dig m m m m m m m m = q9_dig (a &&& m) (b &&& m) (c &&& m) (d &&& m) (e &&& m) (f &&& m) (g &&& m) (h &&& m) := by
  unfold q9_dig
  rw [q9_and_cons _ _ _ _ ha hm, q9_and_cons _ _ _ _ hb hm, q9_and_cons _ _ _ _ hc hm, q9_and_cons _ _ _ _ hd hm, q9_and_cons _ _ _ _ he hm, q9_and_cons _ _ _ _ hf hm, q9_and_cons _ _ _ _ hg hm]
def q9_g1 (x : Nat) : Nat := (x / 2 &&& 85) + (x &&& 85)
def q9_g2 (x : Nat) : Nat := (x / 4 &&& 51) + (x &&& 51)
theorem q9_half_and : ∀ x, x < 256 → ∀ p, p < 2 → (x / 2 + 128 * p) &&& 85 = x / 2 &&& 85 := by decide +kernel
theorem q9_quarter_and : ∀ x, x < 256 → ∀ p, p < 4 → (x / 4 + 64 * p) &&& 51 = x / 4 &&& 51 := by decide +kernel
theorem q9_step1 (a b c d e f g h : Nat) (ha : a < 256) (hb : b < 256) (hc : c < 256) (hd : d < 256) (he : e < 256) (hf : f < 256) (hg : g < 256) (hh : h < 256) :
    (q9_dig a b c d e f g h / 2 &&& 6148914691236517205) + (q9_dig a b c d e f g h &&& 6148914691236517205) = q9_dig (q9_g1 a) (q9_g1 b) (q9_g1 c) (q9_g1 d) (q9_g1 e) (q9_g1 f) (q9_g1 g) (q9_g1 h) := by
  rw [show (6148914691236517205 : Nat) = q9_dig 85 85 85 85 85 85 85 85 by decide]
  have e1 : q9_dig a b c d e f g h / 2 = q9_dig (a / 2 + 128 * (b % 2)) (b / 2 + 128 * (c % 2)) (c / 2 + 128 * (d % 2)) (d / 2 + 128 * (e % 2)) (e / 2 + 128 * (f % 2)) (f / 2 + 128 * (g % 2)) (g / 2 + 128 * (h % 2)) (h / 2 + 128 * 0) := by unfold q9_dig; omega
  rw [e1, q9_and_dig _ _ _ _ _ _ _ _ _ (by decide) (by omega) (by omega) (by omega) (by omega) (by omega) (by omega) (by omega), q9_and_dig _ _ _ _ _ _ _ _ _ (by decide) ha hb hc hd he hf hg,
    q9_half_and a ha _ (by omega), q9_half_and b hb _ (by omega), q9_half_and c hc _ (by omega), q9_half_and d hd _ (by omega), q9_half_and e he _ (by omega), q9_half_and f hf _ (by omega), q9_half_and g hg _ (by omega), q9_half_and h hh _ (by omega)]
  unfold q9_dig q9_g1
  omega
theorem q9_step2 (a b c d e f g h : Nat) (ha : a < 256) (hb : b < 256) (hc : c < 256) (hd : d < 256) (he : e < 256) (hf : f < 256) (hg : g < 256) (hh : h < 256) :
    (q9_dig a b c d e f g h / 4 &&& 3689348814741910323) + (q9_dig a b c d e f g h &&& 3689348814741910323) = q9_dig (q9_g2 a) (q9_g2 b) (q9_g2 c) (q9_g2 d) (q9_g2 e) (q9_g2 f) (q9_g2 g) (q9_g2 h) := by
  rw [show (3689348814741910323 : Nat) = q9_dig 51 51 51 51 51 51 51 51 by decide]
  have e1 : q9_dig a b c d e f g h / 4 = q9_dig (a / 4 + 64 * (b % 4)) (b / 4 + 64 * (c % 4)) (c / 4 + 64 * (d % 4)) (d / 4 + 64 * (e % 4)) (e / 4 + 64 * (f % 4)) (f / 4 + 64 * (g % 4)) (g / 4 + 64 * (h % 4)) (h / 4 + 64 * 0) := by unfold q9_dig; omega
  rw [e1, q9_and_dig _ _ _ _ _ _ _ _ _ (by decide) (by omega) (by omega) (by omega) (by omega) (by omega) (by omega) (by omega), q9_and_dig _ _ _ _ _ _ _ _ _ (by decide) ha hb hc hd he hf hg,
    q9_quarter_and a ha _ (by omega), q9_quarter_and b hb _ (by omega), q9_quarter_and c hc _ (by omega), q9_quarter_and d hd _ (by omega), q9_quarter_and e he _ (by omega), q9_quarter_and f hf _ (by omega), q9_quarter_and g hg _ (by omega), q9_quarter_and h hh _ (by omega)]
  unfold q9_dig q9_g2
  omega
theorem q9_nib : ∀ u, u ≤ 4 → ∀ v, v ≤ 4 → ∀ p, p ≤ 4 → ((16 * u + v) / 16 + 16 * p + (16 * u + v)) &&& 15 = u + v := by decide +kernel
theorem q9_step3 (a b c d e f g h : Nat) (ha : a / 16 ≤ 4 ∧ a % 16 ≤ 4) (hb : b / 16 ≤ 4 ∧ b % 16 ≤ 4) (hc : c / 16 ≤ 4 ∧ c % 16 ≤ 4) (hd : d / 16 ≤ 4 ∧ d % 16 ≤ 4) (he : e / 16 ≤ 4 ∧ e % 16 ≤ 4) (hf : f / 16 ≤ 4 ∧ f % 16 ≤ 4) (hg : g / 16 ≤ 4 ∧ g % 16 ≤ 4) (hh : h / 16 ≤ 4 ∧ h % 16 ≤ 4) :
    (q9_dig a b c d e f g h / 16 + q9_dig a b c d e f g h) &&& 1085102592571150095 = q9_dig (a / 16 + a % 16) (b / 16 + b % 16) (c / 16 + c % 16) (d / 16 + d % 16) (e / 16 + e % 16) (f / 16 + f % 16) (g / 16 + g % 16) (h / 16 + h % 16) := by
  rw [show (1085102592571150095 : Nat) = q9_dig 15 15 15 15 15 15 15 15 by decide]
  have k : ∀ x p, x / 16 ≤ 4 ∧ x % 16 ≤ 4 → p ≤ 4 → (x / 16 + 16 * p + x) &&& 15 = x / 16 + x % 16 := fun x p hx hp => by
    have := q9_nib (x / 16) hx.1 (x % 16) hx.2 p hp
    rwa [show 16 * (x / 16) + x % 16 = x by omega] at this
  have e1 : q9_dig a b c d e f g h / 16 + q9_dig a b c d e f g h = q9_dig (a / 16 + 16 * (b % 16) + a) (b / 16 + 16 * (c % 16) + b) (c / 16 + 16 * (d % 16) + c) (d / 16 + 16 * (e % 16) + d) (e / 16 + 16 * (f % 16) + e) (f / 16 + 16 * (g % 16) + f) (g / 16 + 16 * (h % 16) + g) (h / 16 + 16 * 0 + h) := by unfold q9_dig; omega
  rw [e1, q9_and_dig _ _ _ _ _ _ _ _ _ (by decide) (by omega) (by omega) (by omega) (by omega) (by omega) (by omega) (by omega),
    k a _ ha hb.2, k b _ hb hc.2, k c _ hc hd.2, k d _ hd he.2, k e _ he hf.2, k f _ hf hg.2, k g _ hg hh.2, k h _ hh (by omega)]
theorem q9_nibs : ∀ x, x < 256 → q9_g1 x < 256 ∧ q9_g2 (q9_g1 x) / 16 ≤ 4 ∧ q9_g2 (q9_g1 x) % 16 ≤ 4 ∧ q9_g2 (q9_g1 x) / 16 + q9_g2 (q9_g1 x) % 16 = q9_pcB x ∧ q9_pcB x ≤ 8 := by decide +kernel
theorem q9_step4 (a b c d e f g h : Nat) (ha : a ≤ 8) (hb : b ≤ 8) (hc : c ≤ 8) (hd : d ≤ 8) (he : e ≤ 8) (hf : f ≤ 8) (hg : g ≤ 8) (hh : h ≤ 8) (C D E : Nat) (hC : C = q9_dig a b c d e f g h) (hD : D = C + C / 256) (hE : E = D + D / 65536) :
    D < 18446744073709551616 ∧ E < 18446744073709551616 ∧ E + E / 4294967296 < 9223372036854775808 ∧ (E + E / 4294967296) % 128 = a + b + c + d + e + f + g + h := by
  have h1 : C / 256 = q9_dig b c d e f g h 0 := by rw [hC]; unfold q9_dig; omega
  have hD' : D = q9_dig (a + b) (b + c) (c + d) (d + e) (e + f) (f + g) (g + h) h := by rw [hD, h1, hC]; unfold q9_dig; omega
  clear hD h1 hC
  have h2 : D / 65536 = q9_dig (c + d) (d + e) (e + f) (f + g) (g + h) h 0 0 := by rw [hD']; unfold q9_dig; omega
  have hE' : E = q9_dig (a + b + c + d) (b + c + d + e) (c + d + e + f) (d + e + f + g) (e + f + g + h) (f + g + h) (g + h) h := by rw [hE, h2, hD']; unfold q9_dig; omega
  clear hE h2
  have h3 : E / 4294967296 = q9_dig (e + f + g + h) (f + g + h) (g + h) h 0 0 0 0 := by rw [hE']; unfold q9_dig; omega
  have hF : E + E / 4294967296 = q9_dig (a + b + c + d + (e + f + g + h)) (b + c + d + e + (f + g + h)) (c + d + e + f + (g + h)) (d + e + f + g + h) (e + f + g + h) (f + g + h) (g + h) h := by rw [h3, hE']; unfold q9_dig; omega
  refine ⟨by rw [hD']; unfold q9_dig; omega, by rw [hE']; unfold q9_dig; omega, by rw [hF]; unfold q9_dig; omega, ?_⟩
  rw [hF]
  unfold q9_dig
  omega
def q9_cnt (q : Nat → Bool) : Nat → Nat
  | 0 => 0
  | n + 1 => q9_cnt q n + (q n).toNat
theorem q9_bit_nat (N i : Nat) : (N.testBit i).toNat = N / 2 ^ i % 2 := by
  rw [Nat.testBit_eq_decide_div_mod_eq]
  by_cases h : N / 2 ^ i % 2 = 1
  · rw [decide_eq_true h, h]; rfl
  · rw [decide_eq_false h]
    show 0 = _
    omega
theorem q9_cnt_byte (N k : Nat) : q9_cnt (fun i => N.testBit i) (8 * (k + 1)) = q9_cnt (fun i => N.testBit i) (8 * k) + q9_pcB (N / 256 ^ k % 256) := by
  have h : ∀ j, N / 2 ^ (8 * k + j) = N / 256 ^ k / 2 ^ j := fun j => by
    rw [Nat.pow_add, Nat.pow_mul, Nat.div_div_eq_div_mul]
  rw [show 8 * (k + 1) = 8 * k + 7 + 1 by omega]
  simp only [q9_cnt, q9_bit_nat]
  rw [h 7, h 6, h 5, h 4, h 3, h 2, h 1, show 8 * k = 8 * k + 0 by omega, h 0]
  unfold q9_pcB
  generalize N / 256 ^ k = y
  omega
theorem q9_dig_of (N : Nat) (h : N < 18446744073709551616) : N = q9_dig (N % 256) (N / 256 % 256) (N / 65536 % 256) (N / 16777216 % 256) (N / 4294967296 % 256) (N / 1099511627776 % 256) (N / 281474976710656 % 256) (N / 72057594037927936 % 256) := by
  unfold q9_dig
  omega
theorem q9_dig_lt (a b c d e f g h : Nat) (ha : a < 256) (hb : b < 256) (hc : c < 256) (hd : d < 256) (he : e < 256) (hf : f < 256) (hg : g < 256) (hh : h < 256) : q9_dig a b c d e f g h < 18446744073709551616 := by
  unfold q9_dig
  omega
set_option maxHeartbeats 4000000 in
/-- The sum of the bits, as it is reckoned. -/
theorem q9_pop_nat (N a b c d e : Nat) (hN : N < 18446744073709551616)
    (ha : a = (N / 2 &&& 6148914691236517205) + (N &&& 6148914691236517205))
    (hb : b = (a / 4 &&& 3689348814741910323) + (a &&& 3689348814741910323))
    (hc : c = (b / 16 + b) &&& 1085102592571150095)
    (hd : d = c + c / 256) (he : e = d + d / 65536) :
    a < 18446744073709551616 ∧ b < 18446744073709551616 ∧ b / 16 + b < 18446744073709551616 ∧ c < 18446744073709551616 ∧ d < 18446744073709551616 ∧ e < 18446744073709551616 ∧ e + e / 4294967296 < 9223372036854775808 ∧ (e + e / 4294967296) % 128 = q9_cnt (fun i => N.testBit i) 64 := by
  have l0 : N % 256 < 256 := by omega
  have l1 : N / 256 % 256 < 256 := by omega
  have l2 : N / 65536 % 256 < 256 := by omega
  have l3 : N / 16777216 % 256 < 256 := by omega
  have l4 : N / 4294967296 % 256 < 256 := by omega
  have l5 : N / 1099511627776 % 256 < 256 := by omega
  have l6 : N / 281474976710656 % 256 < 256 := by omega
  have l7 : N / 72057594037927936 % 256 < 256 := by omega
  have hcnt : q9_cnt (fun i => N.testBit i) 64 = q9_pcB (N % 256) + q9_pcB (N / 256 % 256) + q9_pcB (N / 65536 % 256) + q9_pcB (N / 16777216 % 256) + q9_pcB (N / 4294967296 % 256) + q9_pcB (N / 1099511627776 % 256) + q9_pcB (N / 281474976710656 % 256) + q9_pcB (N / 72057594037927936 % 256) := by
    have h0 := q9_cnt_byte N 0
    have h1 := q9_cnt_byte N 1
    have h2 := q9_cnt_byte N 2
    have h3 := q9_cnt_byte N 3
    have h4 := q9_cnt_byte N 4
    have h5 := q9_cnt_byte N 5
    have h6 := q9_cnt_byte N 6
    have h7 := q9_cnt_byte N 7
    simp only [Nat.reduceMul, Nat.reduceAdd, Nat.reducePow, Nat.div_one] at h0 h1 h2 h3 h4 h5 h6 h7
    have z : q9_cnt (fun i => N.testBit i) 0 = 0 := rfl
    omega
  have hNd := q9_dig_of N hN
  rw [hcnt]
  generalize N % 256 = x0 at *
  generalize N / 256 % 256 = x1 at *
  generalize N / 65536 % 256 = x2 at *
  generalize N / 16777216 % 256 = x3 at *
  generalize N / 4294967296 % 256 = x4 at *
  generalize N / 1099511627776 % 256 = x5 at *
  generalize N / 281474976710656 % 256 = x6 at *
  generalize N / 72057594037927936 % 256 = x7 at *
  obtain ⟨p0, q0, r0, s0, t0⟩ := q9_nibs x0 l0
  obtain ⟨p1, q1, r1, s1, t1⟩ := q9_nibs x1 l1
  obtain ⟨p2, q2, r2, s2, t2⟩ := q9_nibs x2 l2
  obtain ⟨p3, q3, r3, s3, t3⟩ := q9_nibs x3 l3
  obtain ⟨p4, q4, r4, s4, t4⟩ := q9_nibs x4 l4
  obtain ⟨p5, q5, r5, s5, t5⟩ := q9_nibs x5 l5
  obtain ⟨p6, q6, r6, s6, t6⟩ := q9_nibs x6 l6
  obtain ⟨p7, q7, r7, s7, t7⟩ := q9_nibs x7 l7
  rw [hNd, q9_step1 _ _ _ _ _ _ _ _ l0 l1 l2 l3 l4 l5 l6 l7] at ha
  have la := q9_dig_lt _ _ _ _ _ _ _ _ p0 p1 p2 p3 p4 p5 p6 p7
  rw [ha, q9_step2 _ _ _ _ _ _ _ _ p0 p1 p2 p3 p4 p5 p6 p7] at hb
  have m : ∀ y, y / 16 ≤ 4 ∧ y % 16 ≤ 4 → y < 69 := fun y hy => by omega
  have lb := q9_dig_lt _ _ _ _ _ _ _ _ (Nat.lt_trans (m _ ⟨q0, r0⟩) (by decide)) (Nat.lt_trans (m _ ⟨q1, r1⟩) (by decide)) (Nat.lt_trans (m _ ⟨q2, r2⟩) (by decide)) (Nat.lt_trans (m _ ⟨q3, r3⟩) (by decide)) (Nat.lt_trans (m _ ⟨q4, r4⟩) (by decide)) (Nat.lt_trans (m _ ⟨q5, r5⟩) (by decide)) (Nat.lt_trans (m _ ⟨q6, r6⟩) (by decide)) (Nat.lt_trans (m _ ⟨q7, r7⟩) (by decide))
  have lb2 : b / 16 + b < 18446744073709551616 := by
    have k : b < 69 * 72057594037927936 := by
      have k0 := m _ ⟨q0, r0⟩
      have k1 := m _ ⟨q1, r1⟩
      have k2 := m _ ⟨q2, r2⟩
      have k3 := m _ ⟨q3, r3⟩
      have k4 := m _ ⟨q4, r4⟩
      have k5 := m _ ⟨q5, r5⟩
      have k6 := m _ ⟨q6, r6⟩
      have k7 := m _ ⟨q7, r7⟩
      rw [hb]
      unfold q9_dig
      omega
    omega
  rw [hb] at lb2
  rw [hb, q9_step3 _ _ _ _ _ _ _ _ ⟨q0, r0⟩ ⟨q1, r1⟩ ⟨q2, r2⟩ ⟨q3, r3⟩ ⟨q4, r4⟩ ⟨q5, r5⟩ ⟨q6, r6⟩ ⟨q7, r7⟩, s0, s1, s2, s3, s4, s5, s6, s7] at hc
  have lc := q9_dig_lt _ _ _ _ _ _ _ _ (Nat.lt_of_le_of_lt t0 (by decide)) (Nat.lt_of_le_of_lt t1 (by decide)) (Nat.lt_of_le_of_lt t2 (by decide)) (Nat.lt_of_le_of_lt t3 (by decide)) (Nat.lt_of_le_of_lt t4 (by decide)) (Nat.lt_of_le_of_lt t5 (by decide)) (Nat.lt_of_le_of_lt t6 (by decide)) (Nat.lt_of_le_of_lt t7 (by decide))
  obtain ⟨q9_g1', q9_g2', g3', g4'⟩ := q9_step4 _ _ _ _ _ _ _ _ t0 t1 t2 t3 t4 t5 t6 t7 c d e hc hd he
  refine ⟨by rw [ha]; exact la, by rw [hb]; exact lb, by rw [hb]; exact lb2, by rw [hc]; exact lc, q9_g1', q9_g2', g3', g4'⟩
theorem q9_size_eq (n : Nat) (h : n ≤ 281474976710656) : bitmap_size.f (n : Int) = some ((nwords n : Nat) : Int) := by
  unfold bitmap_size.f
  have e1 : Int.tmod (n : Int) 64 = ((n % 64 : Nat) : Int) := rfl
  have e2 : Int.tdiv (n : Int) 64 = ((n / 64 : Nat) : Int) := rfl
  have e3 : wrap64 ((n / 64 : Nat) : Int) = ((n / 64 : Nat) : Int) := by unfold wrap64; omega
  rw [e1, e2, e3]
  have e4 : wrap64 (((n / 64 : Nat) : Int) + 1) = ((n / 64 : Nat) : Int) + 1 := by unfold wrap64; omega
  rw [e4]
  unfold nwords
  by_cases h : n % 64 = 0
  · rw [if_pos (by omega)]; congr 1; omega
  · rw [if_neg (by omega)]; congr 1; omega
/-- The bits that the last word of a row may have. -/
def q9_tailW (n : Nat) : BitVec 64 := if n % 64 = 0 then 18446744073709551615#64 else BitVec.ofNat 64 (2 ^ (n % 64) - 1)
theorem q9_shl_one (m : Nat) (h : m < 64) : shl .u64 1 (m : Int) = ((2 ^ m : Nat) : Int) := by
  have : ∀ m : Fin 64, shl .u64 1 ((m.val : Nat) : Int) = ((2 ^ m.val : Nat) : Int) := by decide
  exact this ⟨m, h⟩
theorem q9_tail_eq (n : Nat) : bitmap_tail.f (n : Int) = some (iv (q9_tailW n)) := by
  unfold bitmap_tail.f q9_tailW
  have e1 : Int.tmod (n : Int) 64 = ((n % 64 : Nat) : Int) := rfl
  rw [e1]
  by_cases h : n % 64 = 0
  · rw [if_pos (by omega), if_pos h]; rfl
  · rw [if_neg (by omega), if_neg h, if_pos (by omega), q9_shl_one _ (by omega)]
    have hp : 0 < 2 ^ (n % 64) := Nat.pow_pos (by decide)
    have hq : 2 ^ (n % 64) < 2 ^ 64 := Nat.pow_lt_pow_right (by decide) (by omega)
    have : ((2 ^ (n % 64) : Nat) : Int) - 1 = ((2 ^ (n % 64) - 1 : Nat) : Int) := by omega
    rw [this, wrap_nat]
    unfold iv
    rw [BitVec.toNat_ofNat]
theorem q9_rd_words (n : Nat) (p : Nat → Bool) (k : Nat) (h : k < nwords n) : rd (wordsOf n p) (k : Int) = iv (wordAt n p k) := by
  unfold rd
  rw [Int.toNat_natCast]
  exact wordsOf_get n p k h
/-- What is told of a row of bits is well formed. -/
theorem q9_formed_eq (n : Nat) (p : Nat → Bool) (h : n ≤ 281474976710656) : bitmap_Formed.f (n : Int) (wordsOf n p) = some true := by
  unfold bitmap_Formed.f
  rw [if_neg (by omega), q9_size_eq n h, Option.bind_some, wordsOf_length, if_pos rfl]
  by_cases h0 : n = 0
  · rw [if_pos (by omega)]
  · have hw : 0 < nwords n := by unfold nwords; omega
    have hb : nwords n ≤ 281474976710656 := by unfold nwords; omega
    have e : wrap64 (((nwords n : Nat) : Int) - 1) = ((nwords n - 1 : Nat) : Int) := by unfold wrap64; omega
    rw [if_neg (by omega), e, if_pos (by omega), if_pos (by omega), q9_tail_eq, Option.bind_some, q9_rd_words n p _ (by omega), bits_andNot]
    have hz : wordAt n p (nwords n - 1) &&& ~~~q9_tailW n = 0#64 := by
      refine BitVec.eq_of_getLsbD_eq fun i hi => ?_
      rw [BitVec.getLsbD_and, BitVec.getLsbD_not]
      unfold wordAt
      rw [word_bit]
      unfold q9_tailW
      have hn : nwords n = (n + 63) / 64 := rfl
      by_cases g : n % 64 = 0
      · rw [if_pos g]
        have : (18446744073709551615#64).getLsbD i = true := by
          have : ∀ i : Fin 64, (18446744073709551615#64).getLsbD i.val = true := by decide
          exact this ⟨i, hi⟩
        rw [this]; simp
      · rw [if_neg g, BitVec.getLsbD_ofNat, Nat.testBit_two_pow_sub_one]
        by_cases q9_g2 : i < n % 64
        · simp [q9_g2, hi]
        · have : ¬ (64 * (nwords n - 1) + i < n) := by omega
          simp [this]
    rw [hz]
    rfl
theorem q9_get_eq (n : Nat) (p : Nat → Bool) (h : n ≤ 281474976710656) (i : Nat) (hi : i < n) : bitmap_Get.f (n : Int) (wordsOf n p) (i : Int) = some (p i) := by
  unfold bitmap_Get.f
  have e1 : Int.tmod (i : Int) 64 = ((i % 64 : Nat) : Int) := rfl
  have e2 : Int.tdiv (i : Int) 64 = ((i / 64 : Nat) : Int) := rfl
  have e3 : wrap64 ((i / 64 : Nat) : Int) = ((i / 64 : Nat) : Int) := by unfold wrap64; omega
  have hn : nwords n = (n + 63) / 64 := rfl
  rw [q9_formed_eq n p h, Option.bind_some, if_pos rfl, if_pos (by omega), if_pos (by omega), e1, e2, e3, if_pos (by omega), if_pos (by rw [wordsOf_length]; omega), if_pos (by omega), q9_rd_words n p _ (by omega)]
  have es : shr .u64 (iv (wordAt n p (i / 64))) ((i % 64 : Nat) : Int) = iv (wordAt n p (i / 64) >>> (i % 64)) := by
    rw [← shr_iv]
    unfold shr
    rw [Int.toNat_natCast, Nat.min_eq_left (by show i % 64 ≤ 64; omega)]
  have e1' : (1 : Int) = iv (1#64) := rfl
  rw [es, e1', bits_and]
  have hb : (wordAt n p (i / 64) >>> (i % 64)) &&& 1#64 = if p i then 1#64 else 0#64 := by
    refine BitVec.eq_of_getLsbD_eq fun j hj => ?_
    rw [BitVec.getLsbD_and, BitVec.getLsbD_ushiftRight]
    unfold wordAt
    rw [word_bit]
    have h1 : (1#64).getLsbD j = decide (j = 0) := by
      have : ∀ i : Fin 64, (1#64).getLsbD i.val = decide (i.val = 0) := by decide
      exact this ⟨j, hj⟩
    rw [h1]
    by_cases g : j = 0
    · subst g
      have a1 : i % 64 + 0 < 64 := by omega
      have a2 : 64 * (i / 64) + (i % 64 + 0) = i := by omega
      rw [a2]
      rw [decide_eq_true a1, decide_eq_true hi]
      cases p i <;> rfl
    · cases p i <;> simp [g, h1]
  rw [hb]
  cases p i <;> rfl
theorem q9_cnt_le (q : Nat → Bool) : ∀ n, q9_cnt q n ≤ n
  | 0 => Nat.le_refl _
  | n + 1 => by
    have := q9_cnt_le q n
    have : (q n).toNat ≤ 1 := by cases q n <;> simp
    simp only [q9_cnt]
    omega
theorem q9_cnt_add (q : Nat → Bool) (m : Nat) : ∀ n, q9_cnt q (m + n) = q9_cnt q m + q9_cnt (fun i => q (m + i)) n
  | 0 => rfl
  | n + 1 => by
    show q9_cnt q (m + n) + (q (m + n)).toNat = q9_cnt q m + (q9_cnt (fun i => q (m + i)) n + (q (m + n)).toNat)
    rw [q9_cnt_add q m n, Nat.add_assoc]
theorem q9_cnt_congr {q r : Nat → Bool} : ∀ n, (∀ i, i < n → q i = r i) → q9_cnt q n = q9_cnt r n
  | 0, _ => rfl
  | n + 1, h => by
    show q9_cnt q n + (q n).toNat = q9_cnt r n + (r n).toNat
    rw [q9_cnt_congr n fun i hi => h i (by omega), h n (by omega)]
theorem q9_cnt_none (q : Nat → Bool) : ∀ n, (∀ i, i < n → q i = false) → q9_cnt q n = 0
  | 0, _ => rfl
  | n + 1, h => by
    show q9_cnt q n + (q n).toNat = 0
    rw [q9_cnt_none q n fun i hi => h i (by omega), h n (by omega)]
    rfl
theorem q9_bits_and_i64_127 (f : Nat) (h : f < 9223372036854775808) : bits .and .i64 (f : Int) 127 = ((f % 128 : Nat) : Int) := by
  show IntKind.i64.wrap ((BitVec.ofInt 64 (f : Int) &&& BitVec.ofInt 64 127).toNat : Int) = _
  have e1 : (BitVec.ofInt 64 (f : Int) &&& BitVec.ofInt 64 127).toNat = f % 128 := by
    rw [BitVec.toNat_and, BitVec.ofInt_natCast, BitVec.toNat_ofNat, show (BitVec.ofInt 64 127).toNat = 2 ^ 7 - 1 by decide, Nat.and_two_pow_sub_one_eq_mod]
    omega
  rw [e1, IntKind.wrap_i64]
  omega
theorem q9_wrap_next (i : Nat) (h : i ≤ 281474976710656) : wrap64 ((i : Int) + 1) = ((i + 1 : Nat) : Int) := by
  unfold wrap64
  omega
theorem q9_wrap_sum (a b m : Nat) (h1 : a ≤ m) (h2 : b ≤ 64) (hm : m ≤ 281474976710656) : wrap64 ((a : Int) + (b : Int)) = ((a + b : Nat) : Int) := by
  unfold wrap64
  omega
theorem q9_ones_eq (v : BitVec 64) : bits_OnesCount64.f (iv v) = some ((q9_cnt (fun i => v.getLsbD i) 64 : Nat) : Int) := by
  obtain ⟨N, hN⟩ : ∃ N, N = v.toNat := ⟨_, rfl⟩
  have hl : N < 18446744073709551616 := hN ▸ v.isLt
  have hv : iv v = (N : Int) := by rw [hN]; rfl
  have hc : q9_cnt (fun i => v.getLsbD i) 64 = q9_cnt (fun i => N.testBit i) 64 := q9_cnt_congr _ fun i _ => by rw [hN]; rfl
  rw [hv, hc]
  obtain ⟨a, ha⟩ : ∃ a, a = (N / 2 &&& 6148914691236517205) + (N &&& 6148914691236517205) := ⟨_, rfl⟩
  obtain ⟨b, hb⟩ : ∃ b, b = (a / 4 &&& 3689348814741910323) + (a &&& 3689348814741910323) := ⟨_, rfl⟩
  obtain ⟨c, hcc⟩ : ∃ c, c = (b / 16 + b) &&& 1085102592571150095 := ⟨_, rfl⟩
  obtain ⟨d, hd⟩ : ∃ d, d = c + c / 256 := ⟨_, rfl⟩
  obtain ⟨e, he⟩ : ∃ e, e = d + d / 65536 := ⟨_, rfl⟩
  obtain ⟨la, lb, lb2, lc, ld, le, lf, hr⟩ := q9_pop_nat N a b c d e hl ha hb hcc hd he
  have w : ∀ x : Nat, x < 18446744073709551616 → IntKind.u64.wrap (x : Int) = (x : Int) := fun x hx => by rw [wrap_nat, Nat.mod_eq_of_lt hx]
  have e1 : Go.bits .and .u64 ((N : Int) / 2) 6148914691236517205 = ((N / 2 &&& 6148914691236517205 : Nat) : Int) := bits_and_u64_nat (N / 2) 6148914691236517205 (by omega) (by decide)
  have e2 : Go.bits .and .u64 (N : Int) 6148914691236517205 = ((N &&& 6148914691236517205 : Nat) : Int) := bits_and_u64_nat N 6148914691236517205 hl (by decide)
  have e3 : IntKind.u64.wrap (Go.bits .and .u64 ((N : Int) / 2) 6148914691236517205 + Go.bits .and .u64 (N : Int) 6148914691236517205) = (a : Int) := by
    rw [e1, e2, ← w a la, ha]
    rfl
  have e4 : Go.bits .and .u64 ((a : Int) / 4) 3689348814741910323 = ((a / 4 &&& 3689348814741910323 : Nat) : Int) := bits_and_u64_nat (a / 4) 3689348814741910323 (by omega) (by decide)
  have e5 : Go.bits .and .u64 (a : Int) 3689348814741910323 = ((a &&& 3689348814741910323 : Nat) : Int) := bits_and_u64_nat a 3689348814741910323 la (by decide)
  have e6 : IntKind.u64.wrap (Go.bits .and .u64 ((a : Int) / 4) 3689348814741910323 + Go.bits .and .u64 (a : Int) 3689348814741910323) = (b : Int) := by
    rw [e4, e5, ← w b lb, hb]
    rfl
  have e7 : IntKind.u64.wrap ((b : Int) / 16 + (b : Int)) = ((b / 16 + b : Nat) : Int) := by
    rw [← w (b / 16 + b) lb2]
    rfl
  have e8 : Go.bits .and .u64 ((b / 16 + b : Nat) : Int) 1085102592571150095 = (c : Int) := by
    rw [hcc]
    exact bits_and_u64_nat (b / 16 + b) 1085102592571150095 lb2 (by decide)
  have e9 : IntKind.u64.wrap ((c : Int) + (c : Int) / 256) = (d : Int) := by
    rw [← w d ld, hd]
    rfl
  have e10 : IntKind.u64.wrap ((d : Int) + (d : Int) / 65536) = (e : Int) := by
    rw [← w e le, he]
    rfl
  have e11 : IntKind.u64.wrap ((e : Int) + (e : Int) / 4294967296) = ((e + e / 4294967296 : Nat) : Int) := by
    rw [← w (e + e / 4294967296) (by omega)]
    rfl
  have e12 : wrap64 ((e + e / 4294967296 : Nat) : Int) = ((e + e / 4294967296 : Nat) : Int) := by
    unfold wrap64
    omega
  unfold bits_OnesCount64.f
  rw [e3, e6, e7, e8, e9, e10, e11, e12, q9_bits_and_i64_127 _ lf, hr]
theorem q9_rank_all (v : BitVec 64) : words_Rank.f (iv v) 64 = some ((q9_cnt (fun i => v.getLsbD i) 64 : Nat) : Int) := by
  unfold words_Rank.f
  rw [if_neg (by omega), if_neg (by omega), q9_ones_eq]
  rfl
theorem q9_rank_eq (v : BitVec 64) (k : Nat) (h : k < 64) : words_Rank.f (iv v) (k : Int) = some ((q9_cnt (fun i => v.getLsbD i) k : Nat) : Int) := by
  unfold words_Rank.f
  by_cases h0 : k = 0
  · subst h0
    rfl
  have hp : 0 < 2 ^ k := Nat.pow_pos (by decide)
  have hq : 2 ^ k < 2 ^ 64 := Nat.pow_lt_pow_right (by decide) h
  have em : IntKind.u64.wrap (((2 ^ k : Nat) : Int) - 1) = iv (BitVec.ofNat 64 (2 ^ k - 1)) := by
    have : ((2 ^ k : Nat) : Int) - 1 = ((2 ^ k - 1 : Nat) : Int) := by omega
    rw [this, wrap_nat]
    unfold iv
    rw [BitVec.toNat_ofNat]
  rw [if_neg (by omega), if_pos (by omega), if_pos (by omega), q9_shl_one _ h, em, bits_and, q9_ones_eq, Option.bind_some]
  congr 2
  have e : 64 = k + (64 - k) := by omega
  rw [show q9_cnt (fun i => (v &&& BitVec.ofNat 64 (2 ^ k - 1)).getLsbD i) 64 = q9_cnt (fun i => (v &&& BitVec.ofNat 64 (2 ^ k - 1)).getLsbD i) (k + (64 - k)) by rw [← e], q9_cnt_add, q9_cnt_none _ (64 - k), Nat.add_zero]
  · exact q9_cnt_congr _ fun i hi => by
      rw [BitVec.getLsbD_and, BitVec.getLsbD_ofNat, Nat.testBit_two_pow_sub_one]
      simp [hi, show i < 64 by omega]
  · intro i hi
    rw [BitVec.getLsbD_and, BitVec.getLsbD_ofNat, Nat.testBit_two_pow_sub_one]
    simp [show ¬ (k + i < k) by omega]
theorem q9_cnt_word (n : Nat) (p : Nat → Bool) (k m : Nat) (hm : m ≤ 64) (h : 64 * k + m ≤ n) : q9_cnt (fun i => (wordAt n p k).getLsbD i) m = q9_cnt (fun i => p (64 * k + i)) m := q9_cnt_congr _ fun i hi => by
  unfold wordAt
  rw [word_bit]
  simp [show i < 64 by omega, show 64 * k + i < n by omega]
theorem q9_below_room (i d m n : Nat) (hn : n ≤ 281474976710656) (hm : m ≤ n) (hi : i + (d + 1) = m / 64) : i ≤ 281474976710656 ∧ 64 * i ≤ 281474976710656 ∧ i < m / 64 ∧ 64 * i + 64 ≤ n ∧ i + 1 + d = m / 64 := by
  refine ⟨?_, ?_, ?_, ?_, ?_⟩ <;> omega
theorem q9_below_eq (n : Nat) (p : Nat → Bool) (m k : Nat) (hn : n ≤ 281474976710656) (hm : m ≤ n) (hk : m / 64 < k) : bitmap_below.f k (n : Int) (wordsOf n p) (m : Int) = some ((q9_cnt p m : Nat) : Int) := by
  have e1 : Int.tmod (m : Int) 64 = ((m % 64 : Nat) : Int) := rfl
  have e2 : Int.tdiv (m : Int) 64 = ((m / 64 : Nat) : Int) := rfl
  have e3 : wrap64 ((m / 64 : Nat) : Int) = ((m / 64 : Nat) : Int) := by unfold wrap64; omega
  have hw : nwords n = (n + 63) / 64 := rfl
  have hle := q9_cnt_le p
  unfold bitmap_below.f
  rw [e2, e3, if_pos (by omega), wordsOf_length, if_pos (by omega), Int.toNat_natCast]
  have hlen : ((wordsOf n p).take (m / 64)).length = m / 64 := by rw [List.length_take, wordsOf_length]; omega
  have hrd : ∀ i, i < m / 64 → rd ((wordsOf n p).take (m / 64)) (i : Int) = iv (wordAt n p i) := fun i hi => by
    rw [← q9_rd_words n p i (by omega)]
    unfold rd
    rw [Int.toNat_natCast, List.getD_eq_getElem?_getD, List.getD_eq_getElem?_getD, List.getElem?_take_of_lt hi]
  generalize hL : (wordsOf n p).take (m / 64) = L at hlen hrd ⊢
  have key : ∀ (d i k : Nat), i + d = m / 64 → d < k → bitmap_below.l0 k (m : Int) ((q9_cnt p (64 * i) : Nat) : Int) L (L.length : Int) (i : Int) (n : Int) (wordsOf n p) = some ((q9_cnt p m : Nat) : Int) := by
    intro d
    induction d with
    | zero =>
      intro i k hi hk
      obtain ⟨k, rfl⟩ : ∃ k', k = k' + 1 := ⟨k - 1, by omega⟩
      unfold bitmap_below.l0
      rw [if_neg (by rw [hlen]; omega), e1]
      have hm2 : m = 64 * i + m % 64 := by omega
      by_cases g : m % 64 = 0
      · rw [if_neg (by omega)]
        congr 3
        omega
      · have h6 : m % 64 ≤ 64 := by omega
        have h7 : 64 * i ≤ 281474976710656 := by omega
        have h1 := hle (64 * i)
        have h2 := q9_cnt_le (fun j => p (64 * i + j)) (m % 64)
        have e4 : q9_cnt p m = q9_cnt p (64 * i) + q9_cnt (fun j => p (64 * i + j)) (m % 64) := by
          rw [← q9_cnt_add, ← hm2]
        rw [if_pos (by omega), e2, e3, if_pos (by omega), wordsOf_length, if_pos (by omega), q9_rd_words n p _ (by omega), q9_rank_eq _ _ (by omega), Option.bind_some, show m / 64 = i by omega,
          q9_cnt_word n p i (m % 64) (by omega) (by omega), e4, q9_wrap_sum _ _ _ h1 (Nat.le_trans h2 h6) h7]
    | succ d ih =>
      intro i k hi hk
      obtain ⟨k, rfl⟩ : ∃ k', k = k' + 1 := ⟨k - 1, by omega⟩
      obtain ⟨l0, h7, l1, l2, l3⟩ := q9_below_room i d m n hn hm hi
      have e6 := q9_wrap_next i l0
      have l4 : d < k := Nat.lt_of_succ_lt_succ hk
      have l5 : (i : Int) < (L.length : Int) := by
        rw [hlen]
        exact Int.ofNat_lt.mpr l1
      have h1 := hle (64 * i)
      have h2 := q9_cnt_le (fun j => p (64 * i + j)) 64
      have h3 : q9_cnt p (64 * (i + 1)) = q9_cnt p (64 * i) + q9_cnt (fun j => p (64 * i + j)) 64 := by
        rw [show 64 * (i + 1) = 64 * i + 64 from rfl]
        rw [← q9_cnt_add]
      have e5 : wrap64 (((q9_cnt p (64 * i) : Nat) : Int) + ((q9_cnt (fun j => p (64 * i + j)) 64 : Nat) : Int)) = ((q9_cnt p (64 * (i + 1)) : Nat) : Int) := by
        rw [h3]
        exact q9_wrap_sum _ _ _ h1 h2 h7
      unfold bitmap_below.l0
      rw [if_pos l5, if_pos (Int.natCast_nonneg i), if_pos l5, hrd i l1, q9_rank_all, Option.bind_some, q9_cnt_word n p i 64 (Nat.le_refl _) l2, e5, e6]
      exact ih (i + 1) k l3 l4
  exact key (m / 64) 0 k (by omega) hk
theorem q9_count_all (n : Nat) (p : Nat → Bool) (k : Nat) (hn : n ≤ 281474976710656) (hk : n / 64 < k) : bitmap_Count.f k (n : Int) (wordsOf n p) 0 (n : Int) = some ((q9_cnt p n : Nat) : Int) := by
  unfold bitmap_Count.f
  rw [q9_formed_eq n p hn, Option.bind_some, if_pos rfl]
  have e1 : mx (0 : Int) 0 = ((0 : Nat) : Int) := by unfold mx; simp
  have e2 : mn (n : Int) (n : Int) = (n : Int) := by unfold mn; simp
  have h := q9_cnt_le p n
  rw [e1, e2]
  by_cases h0 : n = 0
  · subst h0
    rfl
  · rw [if_neg (by omega), q9_below_eq n p n k hn (Nat.le_refl _) hk, q9_below_eq n p 0 k hn (by omega) (by omega), Option.bind_some, Option.bind_some]
    congr 1
    show wrap64 (_ - 0) = _
    unfold wrap64
    omega
theorem q9_cnt_gap (p : Nat → Bool) (a b : Nat) (h : a ≤ b) (h0 : ∀ j, a ≤ j → j < b → p j = false) : q9_cnt p b - q9_cnt p a = 0 := by
  obtain ⟨d, rfl⟩ : ∃ d, b = a + d := ⟨b - a, by omega⟩
  rw [q9_cnt_add, q9_cnt_none _ d fun i hi => h0 (a + i) (by omega) (by omega)]
  omega
theorem q9_cnt_allset (p : Nat → Bool) : ∀ n, (∀ i, i < n → p i = true) → q9_cnt p n = n
  | 0, _ => rfl
  | n + 1, h => by
    show q9_cnt p n + (p n).toNat = n + 1
    rw [q9_cnt_allset p n fun i hi => h i (by omega), h n (by omega)]
    rfl
theorem q9_cnt_full (p : Nat → Bool) (a b : Nat) (h : a ≤ b) (h0 : ∀ j, a ≤ j → j < b → p j = true) : q9_cnt p b - q9_cnt p a = b - a := by
  obtain ⟨d, rfl⟩ : ∃ d, b = a + d := ⟨b - a, by omega⟩
  rw [q9_cnt_add, q9_cnt_allset _ d fun i hi => h0 (a + i) (by omega) (by omega)]
  omega
theorem q9_cnt_mono (p : Nat → Bool) (a b : Nat) (h : a ≤ b) : q9_cnt p a ≤ q9_cnt p b := by
  obtain ⟨d, rfl⟩ : ∃ d, b = a + d := ⟨b - a, by omega⟩
  rw [q9_cnt_add]
  omega
theorem q9_count_eq (n : Nat) (p : Nat → Bool) (k a b : Nat) (hn : n ≤ 281474976710656) (hk : n / 64 < k) (hab : a ≤ b) (hb : b ≤ n) : bitmap_Count.f k (n : Int) (wordsOf n p) (a : Int) (b : Int) = some ((q9_cnt p b - q9_cnt p a : Nat) : Int) := by
  unfold bitmap_Count.f
  rw [q9_formed_eq n p hn, Option.bind_some, if_pos rfl]
  have e1 : mx (a : Int) 0 = (a : Int) := by unfold mx; split <;> omega
  have e2 : mn (b : Int) (n : Int) = (b : Int) := by unfold mn; split <;> omega
  rw [e1, e2]
  have h1 := q9_cnt_le p b
  have h2 := q9_cnt_mono p a b hab
  by_cases h0 : a = b
  · subst h0
    rw [if_pos (by omega), Nat.sub_self]
    rfl
  · rw [if_neg (by omega), q9_below_eq n p b k hn hb (by omega), q9_below_eq n p a k hn (by omega) (by omega), Option.bind_some, Option.bind_some]
    congr 1
    show wrap64 (_ - _) = _
    unfold wrap64
    omega
theorem q9_count_out (n : Nat) (p : Nat → Bool) (k a b : Nat) (hn : n ≤ 281474976710656) (hab : b ≤ a) : bitmap_Count.f k (n : Int) (wordsOf n p) (a : Int) (b : Int) = some 0 := by
  unfold bitmap_Count.f
  rw [q9_formed_eq n p hn, Option.bind_some, if_pos rfl]
  have e1 : mx (a : Int) 0 = (a : Int) := by unfold mx; split <;> omega
  have e2 : mn (b : Int) (n : Int) ≤ (b : Int) := by unfold mn; split <;> omega
  rw [e1, if_pos (by omega)]
theorem q9_get_out (n : Nat) (p : Nat → Bool) (i : Int) (hn : n ≤ 281474976710656) (hi : (n : Int) ≤ i) : bitmap_Get.f (n : Int) (wordsOf n p) i = some false := by
  unfold bitmap_Get.f
  rw [q9_formed_eq n p hn, Option.bind_some, if_pos rfl]
  by_cases h : i ≥ 0
  · rw [if_pos h, if_neg (by omega)]
  · rw [if_neg h]
/-- What the law asks of a span. -/
structure q9_SpanF (s : ByteArray) (K : Nat) (a f t : Int) : Prop where mk ::
  c1 : decide (f < 1) = false
  c2 : decide (f ≤ a) = false
  c3 : decide (t < f) = false
  c4 : decide ((s.size : Int) < t) = false
  v1 : bitmap_Get.f (s.size : Int) (wordsOf s.size (mkq s)) (wrap64 (f - 1)) = some true
  v2 : t < (s.size : Int) → bitmap_Get.f (s.size : Int) (wordsOf s.size (mkq s)) t = some true
  k1 : bitmap_Count.f K (s.size : Int) (wordsOf s.size (mkq s)) a (wrap64 (f - 1)) = some 0
  k2 : bitmap_Count.f K (s.size : Int) (wordsOf s.size (insq (mkq s))) a (wrap64 (f - 1)) = some 0
  k3 : bitmap_Count.f K (s.size : Int) (wordsOf s.size (mkq s)) f t = some 0
  k4 : bitmap_Count.f K (s.size : Int) (wordsOf s.size (insq (mkq s))) (wrap64 (f - 1)) t = some (wrap64 (wrap64 (t - f) + 1))
  v3 : bitmap_Get.f (s.size : Int) (wordsOf s.size (insq (mkq s))) t = some false
theorem q9_spanF_of (s : ByteArray) (hs : s.size ≤ 1048576) {K a : Nat} (hK : s.size / 64 < K) {x : Nat × Nat} (h : SpanOk s a x) : q9_SpanF s K (a : Int) (x.1 : Int) (x.2 : Int) := by
  obtain ⟨f, t⟩ := x
  obtain ⟨lo, le, hi, m1, m2, gap, mid, ins⟩ := h
  simp only at lo le hi m1 m2 gap mid ins
  obtain ⟨p, rfl⟩ : ∃ p, f = p + 1 := ⟨f - 1, by omega⟩
  rw [Nat.add_sub_cancel] at m1 gap ins
  have e : wrap64 (((p + 1 : Nat) : Int) - 1) = (p : Int) := by unfold wrap64; omega
  have e2 : wrap64 (wrap64 ((t : Int) - ((p + 1 : Nat) : Int)) + 1) = ((t - p : Nat) : Int) := by unfold wrap64; omega
  simp only
  refine ⟨decide_eq_false (by omega), decide_eq_false (by omega), decide_eq_false (by omega), decide_eq_false (by omega), ?_, ?_, ?_, ?_, ?_, ?_, ?_⟩
  · rw [e, q9_get_eq s.size (mkq s) (by omega) p (by omega), m1]
  · intro h
    rw [q9_get_eq s.size (mkq s) (by omega) t (by omega), (m2 (by omega)).1]
  · rw [e, q9_count_eq s.size (mkq s) K a p (by omega) hK (by omega) (by omega), q9_cnt_gap _ _ _ (by omega) fun j h1 h2 => (gap j h1 h2).1]
    rfl
  · rw [e, q9_count_eq s.size _ K a p (by omega) hK (by omega) (by omega), q9_cnt_gap _ _ _ (by omega) fun j h1 h2 => (gap j h1 h2).2]
    rfl
  · rw [q9_count_eq s.size _ K (p + 1) t (by omega) hK (by omega) (by omega), q9_cnt_gap _ _ _ (by omega) fun j h1 h2 => mid j h1 h2]
    rfl
  · rw [e, e2, q9_count_eq s.size _ K p t (by omega) hK (by omega) (by omega), q9_cnt_full _ _ _ (by omega) fun j h1 h2 => ins j h1 h2]
  · by_cases h : t < s.size
    · rw [q9_get_eq s.size _ (by omega) t h, (m2 h).2]
    · exact q9_get_out s.size _ _ (by omega) (by omega)
theorem q9_endF_of (s : ByteArray) (hs : s.size ≤ 1048576) {K : Nat} (hK : s.size / 64 < K) : bitmap_Count.f K (s.size : Int) (wordsOf s.size (mkq s)) (endU (textsL s) : Int) (s.size : Int) = some 0 ∧ bitmap_Count.f K (s.size : Int) (wordsOf s.size (insq (mkq s))) (endU (textsL s) : Int) (s.size : Int) = some 0 := by
  obtain ⟨_, h, _⟩ := texts_spans s
  by_cases g : endU (textsL s) ≤ s.size
  · rw [q9_count_eq s.size _ K _ _ (by omega) hK g (Nat.le_refl _), q9_count_eq s.size _ K _ _ (by omega) hK g (Nat.le_refl _), q9_cnt_gap _ _ _ g fun j h1 h2 => (h j h1 h2).1, q9_cnt_gap _ _ _ g fun j h1 h2 => (h j h1 h2).2]
    exact ⟨rfl, rfl⟩
  · exact ⟨q9_count_out s.size _ K _ _ (by omega) (by omega), q9_count_out s.size _ K _ _ (by omega) (by omega)⟩
/-- As the regions that draw their order spell it. -/
theorem q9_spanW {s : ByteArray} {K : Nat} {a f t : Int} (h : q9_SpanF s K a f t) : bitmap_Count.f K (s.size : Int) (wordsOf s.size (mkq s)) a (IntKind.i64.wrap (f - 1)) = some 0 ∧ bitmap_Count.f K (s.size : Int) (wordsOf s.size (insq (mkq s))) a (IntKind.i64.wrap (f - 1)) = some 0 ∧
    bitmap_Count.f K (s.size : Int) (wordsOf s.size (insq (mkq s))) (IntKind.i64.wrap (f - 1)) t = some (IntKind.i64.wrap (IntKind.i64.wrap (t - f) + 1)) := by
  simp only [i64_w]
  exact ⟨h.k1, h.k2, h.k4⟩

end QsF
attribute [local go_sem] Oper.semAt_some
/-- Between two spans. -/
structure QsI (wA : World) (g5 m : Nat) (n : Int) (W : World) : Prop where mk ::
  b5 : Blk W g5 #[.int .i64 n] 3
  hb : BelowH wA W
  sz : m ≤ W.heap.size
theorem QsI.kept {wA W W' : World} {g5 m : Nat} {n : Int} (h : QsI wA g5 m n W) {B : Nat} (hB : wA.heap.size ≤ B) {row : Option Nat} (hg : W.grownBy W' row) (hr : ∀ r, row = some r → B ≤ r ∧ ∃ o : Obj, W.heap[r]? = some o ∧ o.isCells = false) : QsI wA g5 m n W' := by
  have hr' : ∀ r, row = some r → ∃ o : Obj, W.heap[r]? = some o ∧ o.isCells = false := fun r e => (hr r e).2
  exact ⟨h.b5.kept hg hr', h.hb.kept hg hB (fun r e => (hr r e).1), Nat.le_trans h.sz hg.size⟩
theorem QsI.below {wA W W' : World} {g5 m : Nat} {n : Int} (h : QsI wA g5 m n W) (hb : Below W.heap.size W W') : QsI wA g5 m n W' :=
  ⟨h.b5.below hb, h.hb.step hb, Nat.le_trans h.sz hb.size⟩
theorem QsI.turned {wA W W' : World} {g5 m : Nat} {n : Int} (h : QsI wA g5 m n W) {X : List Nat} (hX : ∀ k ∈ X, m ≤ k) (ht : Turned X W W') (h5 : g5 < m) (hA : wA.heap.size ≤ m) : QsI wA g5 m n W' :=
  ⟨h.b5.turned ht (not_mem_above hX h5), ⟨ht.below (fun k hk => Nat.le_trans hA (hX k hk)) h.hb.le h.hb.out⟩, Nat.le_trans h.sz ht.size⟩
/-- What stands before the loop, and stays. -/
structure QsA (s : ByteArray) (nw : Nat) (w wA : World) (g1 g2 g3 g4 : Nat) (A1 A2 : Option Addr) (p1 p2 : Nat) : Prop where mk ::
  b1 : Blk wA g1 #[.string s] 9
  b2 : Blk wA g2 #[.bool false] 4
  b3 : Blk wA g3 #[.int .i64 s.size, .slice A1 nw p1] 38
  b4 : Blk wA g4 #[.int .i64 s.size, .slice A2 nw p2] 38
  hN : ∀ q, (wordsOf s.size q).length = nw
  C1 : Kd.C (Kd.int .u64) wA A1 nw (wordsOf s.size (mkq s))
  q1 : nw ≤ p1
  C2 : Kd.C (Kd.int .u64) wA A2 nw (wordsOf s.size (insq (mkq s)))
  q2 : nw ≤ p2
  hb : BelowH w wA
  ge2 : w.heap.size ≤ g2
theorem QsA.get {s : ByteArray} {nw : Nat} {w wA : World} {g1 g2 g3 g4 : Nat} {A1 A2 : Option Addr} {p1 p2 : Nat} (h : QsA s nw w wA g1 g2 g3 g4 A1 A2 p1 p2) {W : World} (hb : BelowH wA W) (i : Int) (r : Bool) (e : bitmap_Get.f (s.size : Int) (wordsOf s.size (mkq s)) i = some r) :
    Calls Tryd.prog 36 #[.agg #[.int .i64 s.size, .slice A1 nw p1], .int .i64 i] W fun e w' => e = .returned (.bool r) ∧ Below W.heap.size W w' := by
  have hC := Kd.C_below h.C1 hb.out
  have hq := h.q1
  have hN := h.hN (mkq s)
  subst hN
  exact bitmap_Get.calls _ _ _ _ _ _ W hC hq e
theorem QsA.getI {s : ByteArray} {nw : Nat} {w wA : World} {g1 g2 g3 g4 : Nat} {A1 A2 : Option Addr} {p1 p2 : Nat} (h : QsA s nw w wA g1 g2 g3 g4 A1 A2 p1 p2) {W : World} (hb : BelowH wA W) (i : Int) (r : Bool) (e : bitmap_Get.f (s.size : Int) (wordsOf s.size (insq (mkq s))) i = some r) :
    Calls Tryd.prog 36 #[.agg #[.int .i64 s.size, .slice A2 nw p2], .int .i64 i] W fun e w' => e = .returned (.bool r) ∧ Below W.heap.size W w' := by
  have hC := Kd.C_below h.C2 hb.out
  have hq := h.q2
  have hN := h.hN (insq (mkq s))
  subst hN
  exact bitmap_Get.calls _ _ _ _ _ _ W hC hq e
theorem QsA.cnt {s : ByteArray} {nw : Nat} {w wA : World} {g1 g2 g3 g4 : Nat} {A1 A2 : Option Addr} {p1 p2 : Nat} (h : QsA s nw w wA g1 g2 g3 g4 A1 A2 p1 p2) {W : World} (hb : BelowH wA W) {K : Nat} (i j : Int) (r : Int) (e : bitmap_Count.f K (s.size : Int) (wordsOf s.size (mkq s)) i j = some r) :
    Calls Tryd.prog 37 #[.agg #[.int .i64 s.size, .slice A1 nw p1], .int .i64 i, .int .i64 j] W fun e w' => e = .returned (.int .i64 r) ∧ Below W.heap.size W w' := by
  have hC := Kd.C_below h.C1 hb.out
  have hq := h.q1
  have hN := h.hN (mkq s)
  subst hN
  exact bitmap_Count.calls K _ _ _ _ _ _ _ W hC hq e
theorem QsA.cntI {s : ByteArray} {nw : Nat} {w wA : World} {g1 g2 g3 g4 : Nat} {A1 A2 : Option Addr} {p1 p2 : Nat} (h : QsA s nw w wA g1 g2 g3 g4 A1 A2 p1 p2) {W : World} (hb : BelowH wA W) {K : Nat} (i j : Int) (r : Int) (e : bitmap_Count.f K (s.size : Int) (wordsOf s.size (insq (mkq s))) i j = some r) :
    Calls Tryd.prog 37 #[.agg #[.int .i64 s.size, .slice A2 nw p2], .int .i64 i, .int .i64 j] W fun e w' => e = .returned (.int .i64 r) ∧ Below W.heap.size W w' := by
  have hC := Kd.C_below h.C2 hb.out
  have hq := h.q2
  have hN := h.hN (insq (mkq s))
  subst hN
  exact bitmap_Count.calls K _ _ _ _ _ _ _ W hC hq e
set_option maxHeartbeats 4000000 in
set_option maxRecDepth 100000 in
theorem quarrylaw07_QuotesSpans.true_ (s : ByteArray) (hs : s.size ≤ 1048576) (w : World) (hT : TabOk w) :
    Calls Tryd.prog 9 #[.string s] w fun e w' => e = .returned (.bool true) ∧ Below w.heap.size w w' := by
  obtain ⟨F, hF⟩ : ∃ F, F = Fence.wide := ⟨_, rfl⟩
  have HF := Aside0.mk hF
  refine (callsIn_wide (n := 9)).1 ?_
  rw [← hF]
  clear hF
  have hro := wide_round HF
  have HB := BelowH.refl w
  have f1 := wide_fn HF 22
  have f2 := wide_fn HF 67
  have f3 := wide_fn HF 32
  have f4 := wide_fn HF 28
  have f5 := wide_fn HF 24
  have f6 := wide_fn HF 36
  have f7 := wide_fn HF 37
  have AW : Aside0 (∀ W, TabOk W → Calls Tryd.prog 28 #[] W fun e w' => e = .returned (.bool true) ∧ Below W.heap.size W w') := ⟨fun W h => quarrylaw07_awake.walk W h⟩
  have QF : ∀ (w : World) (f : Fn) (a c : Array Value), (binOp .eql 27 (.func f a c) .nilFunc).run Tryd.prog w = .ok (.bool false) w := fun w f a c => run_eql_func_nil (ps := #[72]) (rs := #[]) (vd := false) _ (by kernel_rfl) _ _ _ _
  have HT := Aside0.mk hT
  have HS2 := Aside0.mk hs
  have HS : Aside0 (s.size ≤ 281474976702464) := ⟨by omega⟩
  obtain ⟨nw, hnw⟩ : ∃ nw, nw = nwords s.size := ⟨_, rfl⟩
  have HNW := Aside0.mk hnw
  obtain ⟨KK, hKK⟩ : ∃ KK, KK = s.size / 64 + 1 := ⟨_, rfl⟩
  have HKK : Aside0 (s.size / 64 < KK) := ⟨by omega⟩
  clear hT hs hnw hKK
  refine callsIn_of_wp_marks Tryd.func9 rfl (wide_fn HF _) ?_ hro
  simp only [Tryd.ntmps9, List.size_toArray, List.length_cons, List.length_nil, Nat.reduceAdd, Nat.reduceSub, Array.replicate_succ, Array.replicate_zero, List.push_toArray, List.append_toArray, List.nil_append, List.cons_append]
  gi_upto_region 3 with (first
    | ((with_reducible refine gate_dstIn (N := 1) rfl ?_); refine ev_allocIn HB rfl rfl (#[.string s]) 9 ?hr ?_; (case hr => first | (go_simp; done) | (go_simp; rfl)); intro g1 w1 G_g1 GE_g1 B_g1 HBn K_g1 KO_w1; clear HB; have HB := HBn; clear HBn)
    | ((with_reducible refine gate_dstIn (N := 2) rfl ?_); refine ev_allocIn HB rfl rfl (#[.bool false]) 4 ?hr ?_; (case hr => first | (go_simp; done) | (go_simp; rfl)); intro g2 w2 G_g2 GE_g2 B_g2 HBn K_g2 KO_w2; clear HB; have HB := HBn; clear HBn)
    | (gi_at_call 28; go_must (refine (callsIn_of HF (AW.out _ (HT.out.step HB.out))).mono ?_); rintro e w3 ⟨rfl, hb3⟩; have HK3 := Aside0.mk hb3; have HBn := HB.step hb3; clear HB hb3; have HB := HBn; clear HBn))
  have E := (B_g1.below K_g2.out).below HK3.out
  have D2 := B_g2.below HK3.out
  clear B_g1 B_g2 K_g1 K_g2 HK3 G_g1 KO_w1 KO_w2
  have L12 := Aside0.mk (And.intro E.lt (And.intro D2.lt G_g2.out))
  clear G_g2
  gi_cut [3, 4] from 133 (fun v3 v4 wx => ∃ (g3 g4 c1 c2 : Nat) (A1 A2 : Option Addr), v3 = .pointer (some ⟨g3, 0, none⟩) ∧ v4 = .pointer (some ⟨g4, 0, none⟩) ∧ Aside0 (w.heap.size ≤ g3) ∧ Aside0 (w.heap.size ≤ g4) ∧ Aside0 (g1 < g3 ∧ g1 < g4 ∧ g3 ≠ g4) ∧
    Blk wx g1 #[.string s] 9 ∧ Blk wx g2 #[.bool false] 4 ∧ Blk wx g3 #[.int .i64 s.size, .slice A1 nw c1] 38 ∧ Blk wx g4 #[.int .i64 s.size, .slice A2 nw c2] 38 ∧
    Aside0 (wx.ownsRow w.heap.size 64 1 (.slice A1 nw c1) nw ((wordsOf s.size (mkq s)).map (Value.int .u64))) ∧ Aside0 (wx.ownsRow w.heap.size 64 1 (.slice A2 nw c2) nw ((wordsOf s.size (insq (mkq s))).map (Value.int .u64))) ∧ BelowH w wx)
  case first =>
    have HZ := Aside0.mk (show w3.heap.size ≤ w3.drew.heap.size from Nat.le_refl _)
    have L1 := Aside0.mk (And.intro L12.out.1 (And.intro L12.out.2.1 (Nat.le_refl 0)))
    have En := E.below (below_drew (Below.refl _ _))
    have D2n := D2.below (below_drew (Below.refl _ _))
    have HB5 := HB.step (below_drew (Below.refl _ _))
    clear HB E D2 L12
    have HB := HB5
    have E := En
    have D2 := D2n
    clear HB5 En D2n
    refine wpIn_region_last_wide HF (S := fun W' => Blk W' g1 #[.string s] 9) (ds := [6, 7]) (by kernel_rfl) E (fun hS => ?_)
    refine wpAnyLast_take (i := 0) (oi := Oper.mk _ _ _ _ _ _) rfl (by kernel_rfl) (by kernel_rfl) (by kernel_rfl) (by kernel_rfl) (by kernel_rfl) (fun _ _ _ h => h) (rg_load1 (by rfl) (fun _ hS => hS.cell (i := 0) rfl) 9 _ rfl rfl (fun _ => by simp [isAgg, run_underlying Tryd.underlying9])) hS ?_
    try simp only [Act.put, List.setIfInBounds_toArray, List.set_cons_zero, List.set_cons_succ]
    refine wpAnyLast_take (i := 2) (oi := Oper.mk _ _ _ _ _ _) rfl (by kernel_rfl) (by kernel_rfl) (by kernel_rfl) (by kernel_rfl) (by kernel_rfl) (fun _ _ _ h => h) (rg_load1 (by rfl) (fun _ hS => hS.cell (i := 0) rfl) 9 _ rfl rfl (fun _ => by simp [isAgg, run_underlying Tryd.underlying9])) hS ?_
    try simp only [Act.put, List.setIfInBounds_toArray, List.set_cons_zero, List.set_cons_succ]
    refine wpAnyLast_ready (rs := [1, 4, 5]) (by kernel_rfl) (by simp) ?_
    refine AllReadyL.cons (o := Oper.mk _ _ _ _ _ _) rfl (by decide) (fun K hK => ?_) ?_
    · refine call_ 22 #[.string s] (by rfl) rfl (by first | (go_simp; done) | (go_simp; rfl)) ((quotes_Marks.walk s _ HS.out).mono ?_)
      rintro e W' ⟨v, rfl, hrow, hb'⟩
      obtain ⟨A1, c1, rfl⟩ := own_slice hrow
      rw [← HNW.out] at hrow ⊢
      have hb := Aside0.mk hb'
      have RM := Aside0.mk (row_mono hrow HB.le)
      have V1 := Aside0.mk (row_one hrow)
      clear hrow hb'
      replace E := E.below hb.out
      replace D2 := D2.below hb.out
      replace HB := HB.step hb.out
      replace HZ := Aside0.mk (Nat.le_trans HZ.out hb.out.size)
      refine ⟨_, rfl, ?_⟩
      refine hK.out _ _ E (fun hS => ?_)
      clear hK K hb
      try simp only [Act.put, List.setIfInBounds_toArray, List.set_cons_zero, List.set_cons_succ]
      refine wpAnyLast_ready (rs := [3, 4, 5]) (by kernel_rfl) (by simp) ?_
      refine AllReadyL.cons (o := Oper.mk _ _ _ _ _ _) rfl (by decide) (fun K hK => ?_) ?_
      · refine call_ 24 #[.string s] (by rfl) rfl (by first | (go_simp; done) | (go_simp; rfl)) ((quotes_Inside.walk s _ HS.out).mono ?_)
        rintro e W' ⟨v, rfl, hrow, hb'⟩
        obtain ⟨A2, c2, rfl⟩ := own_slice hrow
        rw [← HNW.out] at hrow ⊢
        have hb := Aside0.mk hb'
        have RI := Aside0.mk (row_mono hrow HB.le)
        have V2 := Aside0.mk (row_one hrow)
        clear hrow hb'
        replace E := E.below hb.out
        replace D2 := D2.below hb.out
        replace HB := HB.step hb.out
        replace HZ := Aside0.mk (Nat.le_trans HZ.out hb.out.size)
        replace RM := Aside0.mk (row_below RM.out hb.out)
        refine ⟨_, rfl, ?_⟩
        refine hK.out _ _ E (fun hS => ?_)
        clear hK K hb
        try simp only [Act.put, List.setIfInBounds_toArray, List.set_cons_zero, List.set_cons_succ]
        refine wpAnyLast_ready (rs := [4, 5]) (by kernel_rfl) (by simp) ?_
        refine AllReadyL.cons (o := Oper.mk _ _ _ _ _ _) rfl (by decide) (fun K hK => ?_) ?_
        · refine rg_alloc HB (by rfl) (#[.int .i64 0, .slice none 0 0]) 38 (by first | (go_simp; done) | (go_simp; rfl)) ?_
          intro g3 W' G3 GE_g3 B3 HBn hb
          have N1g3 := Aside0.mk (show g1 < g3 ∧ g2 < g3 by have := L1.out.1; have := L1.out.2.1; have := HZ.out; have := G3.out; omega)
          clear HBn
          replace E := E.below hb.out
          replace D2 := D2.below hb.out
          replace HB := HB.step hb.out
          replace HZ := Aside0.mk (Nat.le_trans HZ.out hb.out.size)
          replace RM := Aside0.mk (row_below RM.out hb.out)
          replace RI := Aside0.mk (row_below RI.out hb.out)
          refine hK.out _ _ E (fun hS => ?_)
          clear hK K hb G3
          try simp only [Act.put, List.setIfInBounds_toArray, List.set_cons_zero, List.set_cons_succ]
          refine wpAnyLast_ready (rs := [5]) (by kernel_rfl) (by simp) ?_
          refine AllReadyL.cons (o := Oper.mk _ _ _ _ _ _) rfl (by decide) (fun K hK => ?_) ?_
          · refine rg_alloc HB (by rfl) (#[.int .i64 0, .slice none 0 0]) 38 (by first | (go_simp; done) | (go_simp; rfl)) ?_
            intro g4 W' G4 GE_g4 B4 HBn hb
            have N1g4 := Aside0.mk (show g1 < g4 ∧ g2 < g4 by have := L1.out.1; have := L1.out.2.1; have := HZ.out; have := G4.out; omega)
            have N34 := Aside0.mk (show g3 ≠ g4 by have := B3.lt; have := G4.out; omega)
            clear HBn
            replace E := E.below hb.out
            replace D2 := D2.below hb.out
            replace HB := HB.step hb.out
            replace HZ := Aside0.mk (Nat.le_trans HZ.out hb.out.size)
            replace RM := Aside0.mk (row_below RM.out hb.out)
            replace RI := Aside0.mk (row_below RI.out hb.out)
            replace B3 := B3.below hb.out
            refine hK.out _ _ E (fun hS => ?_)
            clear hK K hb G4
            try simp only [Act.put, List.setIfInBounds_toArray, List.set_cons_zero, List.set_cons_succ]
            refine wpAnyLast_ready (rs := [6]) (by kernel_rfl) (by simp) ?_
            refine AllReadyL.cons_last (o := Oper.mk _ _ _ _ _ _) rfl (by decide) (fun K hK => ?_) ?_
            · refine rg_store HB (by rfl) B3 GE_g3 38 _ _ rfl rfl rfl (by kernel_rfl) rfl (by simp [Value.oneCell']) ?_
              intro w6 B3n HBn K6
              replace E := E.other K6 (Nat.ne_of_lt N1g3.out.1)
              replace D2 := D2.other K6 (Nat.ne_of_lt N1g3.out.2)
              replace B4 := B4.other K6 (Ne.symm N34.out)
              replace RM := Aside0.mk (row_other RM.out B3 (by decide) K6)
              replace RI := Aside0.mk (row_other RI.out B3 (by decide) K6)
              replace B3 := B3n
              replace HB := HBn
              clear B3n HBn K6 HZ
              have HZ := Aside0.mk (Nat.le_refl 0)
              refine hK.out _ _ ?_
              clear hK K
              try simp only [Act.put, List.setIfInBounds_toArray, List.set_cons_zero, List.set_cons_succ]
              refine wpAnyLast_ready (rs := [7]) (by kernel_rfl) (by simp) ?_
              refine AllReadyL.cons_last (o := Oper.mk _ _ _ _ _ _) rfl (by decide) (fun K hK => ?_) ?_
              · refine rg_store HB (by rfl) B4 GE_g4 38 _ _ rfl rfl rfl (by kernel_rfl) rfl (by simp [Value.oneCell']) ?_
                intro w7 B4n HBn K7
                replace E := E.other K7 (Nat.ne_of_lt N1g4.out.1)
                replace D2 := D2.other K7 (Nat.ne_of_lt N1g4.out.2)
                replace B3 := B3.other K7 N34.out
                replace RM := Aside0.mk (row_other RM.out B4 (by decide) K7)
                replace RI := Aside0.mk (row_other RI.out B4 (by decide) K7)
                replace B4 := B4n
                replace HB := HBn
                clear B4n HBn K7 HZ
                have HZ := Aside0.mk (Nat.le_refl 0)
                refine hK.out _ _ ?_
                clear hK K
                try simp only [Act.put, List.setIfInBounds_toArray, List.set_cons_zero, List.set_cons_succ]
                refine wpAnyLast_done (by kernel_rfl) ?_ _
                refine NoPanic.normal ?_
                go_step
                go_step
                gi_meet
                case rel => exact ⟨g3, g4, c1, c2, A1, A2, rfl, rfl, GE_g3, GE_g4, ⟨N1g3.out.1, N1g4.out.1, N34.out⟩, E, D2, B3, B4, RM, RI, HB⟩
              exact AllReadyL.nil
            exact AllReadyL.nil
          exact AllReadyL.nil
        refine AllReadyL.cons (o := Oper.mk _ _ _ _ _ _) rfl (by decide) (fun K hK => ?_) ?_
        · refine rg_alloc HB (by rfl) (#[.int .i64 0, .slice none 0 0]) 38 (by first | (go_simp; done) | (go_simp; rfl)) ?_
          intro g4 W' G4 GE_g4 B4 HBn hb
          have N1g4 := Aside0.mk (show g1 < g4 ∧ g2 < g4 by have := L1.out.1; have := L1.out.2.1; have := HZ.out; have := G4.out; omega)
          clear HBn
          replace E := E.below hb.out
          replace D2 := D2.below hb.out
          replace HB := HB.step hb.out
          replace HZ := Aside0.mk (Nat.le_trans HZ.out hb.out.size)
          replace RM := Aside0.mk (row_below RM.out hb.out)
          replace RI := Aside0.mk (row_below RI.out hb.out)
          refine hK.out _ _ E (fun hS => ?_)
          clear hK K hb G4
          try simp only [Act.put, List.setIfInBounds_toArray, List.set_cons_zero, List.set_cons_succ]
          refine wpAnyLast_ready (rs := [4]) (by kernel_rfl) (by simp) ?_
          refine AllReadyL.cons (o := Oper.mk _ _ _ _ _ _) rfl (by decide) (fun K hK => ?_) ?_
          · refine rg_alloc HB (by rfl) (#[.int .i64 0, .slice none 0 0]) 38 (by first | (go_simp; done) | (go_simp; rfl)) ?_
            intro g3 W' G3 GE_g3 B3 HBn hb
            have N1g3 := Aside0.mk (show g1 < g3 ∧ g2 < g3 by have := L1.out.1; have := L1.out.2.1; have := HZ.out; have := G3.out; omega)
            have N34 := Aside0.mk (show g3 ≠ g4 by have := B4.lt; have := G3.out; omega)
            clear HBn
            replace E := E.below hb.out
            replace D2 := D2.below hb.out
            replace HB := HB.step hb.out
            replace HZ := Aside0.mk (Nat.le_trans HZ.out hb.out.size)
            replace RM := Aside0.mk (row_below RM.out hb.out)
            replace RI := Aside0.mk (row_below RI.out hb.out)
            replace B4 := B4.below hb.out
            refine hK.out _ _ E (fun hS => ?_)
            clear hK K hb G3
            try simp only [Act.put, List.setIfInBounds_toArray, List.set_cons_zero, List.set_cons_succ]
            refine wpAnyLast_ready (rs := [6]) (by kernel_rfl) (by simp) ?_
            refine AllReadyL.cons_last (o := Oper.mk _ _ _ _ _ _) rfl (by decide) (fun K hK => ?_) ?_
            · refine rg_store HB (by rfl) B3 GE_g3 38 _ _ rfl rfl rfl (by kernel_rfl) rfl (by simp [Value.oneCell']) ?_
              intro w6 B3n HBn K6
              replace E := E.other K6 (Nat.ne_of_lt N1g3.out.1)
              replace D2 := D2.other K6 (Nat.ne_of_lt N1g3.out.2)
              replace B4 := B4.other K6 (Ne.symm N34.out)
              replace RM := Aside0.mk (row_other RM.out B3 (by decide) K6)
              replace RI := Aside0.mk (row_other RI.out B3 (by decide) K6)
              replace B3 := B3n
              replace HB := HBn
              clear B3n HBn K6 HZ
              have HZ := Aside0.mk (Nat.le_refl 0)
              refine hK.out _ _ ?_
              clear hK K
              try simp only [Act.put, List.setIfInBounds_toArray, List.set_cons_zero, List.set_cons_succ]
              refine wpAnyLast_ready (rs := [7]) (by kernel_rfl) (by simp) ?_
              refine AllReadyL.cons_last (o := Oper.mk _ _ _ _ _ _) rfl (by decide) (fun K hK => ?_) ?_
              · refine rg_store HB (by rfl) B4 GE_g4 38 _ _ rfl rfl rfl (by kernel_rfl) rfl (by simp [Value.oneCell']) ?_
                intro w7 B4n HBn K7
                replace E := E.other K7 (Nat.ne_of_lt N1g4.out.1)
                replace D2 := D2.other K7 (Nat.ne_of_lt N1g4.out.2)
                replace B3 := B3.other K7 N34.out
                replace RM := Aside0.mk (row_other RM.out B4 (by decide) K7)
                replace RI := Aside0.mk (row_other RI.out B4 (by decide) K7)
                replace B4 := B4n
                replace HB := HBn
                clear B4n HBn K7 HZ
                have HZ := Aside0.mk (Nat.le_refl 0)
                refine hK.out _ _ ?_
                clear hK K
                try simp only [Act.put, List.setIfInBounds_toArray, List.set_cons_zero, List.set_cons_succ]
                refine wpAnyLast_done (by kernel_rfl) ?_ _
                refine NoPanic.normal ?_
                go_step
                go_step
                gi_meet
                case rel => exact ⟨g3, g4, c1, c2, A1, A2, rfl, rfl, GE_g3, GE_g4, ⟨N1g3.out.1, N1g4.out.1, N34.out⟩, E, D2, B3, B4, RM, RI, HB⟩
              exact AllReadyL.nil
            exact AllReadyL.nil
          exact AllReadyL.nil
        exact AllReadyL.nil
      refine AllReadyL.cons (o := Oper.mk _ _ _ _ _ _) rfl (by decide) (fun K hK => ?_) ?_
      · refine rg_alloc HB (by rfl) (#[.int .i64 0, .slice none 0 0]) 38 (by first | (go_simp; done) | (go_simp; rfl)) ?_
        intro g3 W' G3 GE_g3 B3 HBn hb
        have N1g3 := Aside0.mk (show g1 < g3 ∧ g2 < g3 by have := L1.out.1; have := L1.out.2.1; have := HZ.out; have := G3.out; omega)
        clear HBn
        replace E := E.below hb.out
        replace D2 := D2.below hb.out
        replace HB := HB.step hb.out
        replace HZ := Aside0.mk (Nat.le_trans HZ.out hb.out.size)
        replace RM := Aside0.mk (row_below RM.out hb.out)
        refine hK.out _ _ E (fun hS => ?_)
        clear hK K hb G3
        try simp only [Act.put, List.setIfInBounds_toArray, List.set_cons_zero, List.set_cons_succ]
        refine wpAnyLast_ready (rs := [3, 5]) (by kernel_rfl) (by simp) ?_
        refine AllReadyL.cons (o := Oper.mk _ _ _ _ _ _) rfl (by decide) (fun K hK => ?_) ?_
        · refine call_ 24 #[.string s] (by rfl) rfl (by first | (go_simp; done) | (go_simp; rfl)) ((quotes_Inside.walk s _ HS.out).mono ?_)
          rintro e W' ⟨v, rfl, hrow, hb'⟩
          obtain ⟨A2, c2, rfl⟩ := own_slice hrow
          rw [← HNW.out] at hrow ⊢
          have hb := Aside0.mk hb'
          have RI := Aside0.mk (row_mono hrow HB.le)
          have V2 := Aside0.mk (row_one hrow)
          clear hrow hb'
          replace E := E.below hb.out
          replace D2 := D2.below hb.out
          replace HB := HB.step hb.out
          replace HZ := Aside0.mk (Nat.le_trans HZ.out hb.out.size)
          replace RM := Aside0.mk (row_below RM.out hb.out)
          replace B3 := B3.below hb.out
          refine ⟨_, rfl, ?_⟩
          refine hK.out _ _ E (fun hS => ?_)
          clear hK K hb
          try simp only [Act.put, List.setIfInBounds_toArray, List.set_cons_zero, List.set_cons_succ]
          refine wpAnyLast_ready (rs := [5]) (by kernel_rfl) (by simp) ?_
          refine AllReadyL.cons (o := Oper.mk _ _ _ _ _ _) rfl (by decide) (fun K hK => ?_) ?_
          · refine rg_alloc HB (by rfl) (#[.int .i64 0, .slice none 0 0]) 38 (by first | (go_simp; done) | (go_simp; rfl)) ?_
            intro g4 W' G4 GE_g4 B4 HBn hb
            have N1g4 := Aside0.mk (show g1 < g4 ∧ g2 < g4 by have := L1.out.1; have := L1.out.2.1; have := HZ.out; have := G4.out; omega)
            have N34 := Aside0.mk (show g3 ≠ g4 by have := B3.lt; have := G4.out; omega)
            clear HBn
            replace E := E.below hb.out
            replace D2 := D2.below hb.out
            replace HB := HB.step hb.out
            replace HZ := Aside0.mk (Nat.le_trans HZ.out hb.out.size)
            replace RM := Aside0.mk (row_below RM.out hb.out)
            replace RI := Aside0.mk (row_below RI.out hb.out)
            replace B3 := B3.below hb.out
            refine hK.out _ _ E (fun hS => ?_)
            clear hK K hb G4
            try simp only [Act.put, List.setIfInBounds_toArray, List.set_cons_zero, List.set_cons_succ]
            refine wpAnyLast_ready (rs := [6]) (by kernel_rfl) (by simp) ?_
            refine AllReadyL.cons_last (o := Oper.mk _ _ _ _ _ _) rfl (by decide) (fun K hK => ?_) ?_
            · refine rg_store HB (by rfl) B3 GE_g3 38 _ _ rfl rfl rfl (by kernel_rfl) rfl (by simp [Value.oneCell']) ?_
              intro w6 B3n HBn K6
              replace E := E.other K6 (Nat.ne_of_lt N1g3.out.1)
              replace D2 := D2.other K6 (Nat.ne_of_lt N1g3.out.2)
              replace B4 := B4.other K6 (Ne.symm N34.out)
              replace RM := Aside0.mk (row_other RM.out B3 (by decide) K6)
              replace RI := Aside0.mk (row_other RI.out B3 (by decide) K6)
              replace B3 := B3n
              replace HB := HBn
              clear B3n HBn K6 HZ
              have HZ := Aside0.mk (Nat.le_refl 0)
              refine hK.out _ _ ?_
              clear hK K
              try simp only [Act.put, List.setIfInBounds_toArray, List.set_cons_zero, List.set_cons_succ]
              refine wpAnyLast_ready (rs := [7]) (by kernel_rfl) (by simp) ?_
              refine AllReadyL.cons_last (o := Oper.mk _ _ _ _ _ _) rfl (by decide) (fun K hK => ?_) ?_
              · refine rg_store HB (by rfl) B4 GE_g4 38 _ _ rfl rfl rfl (by kernel_rfl) rfl (by simp [Value.oneCell']) ?_
                intro w7 B4n HBn K7
                replace E := E.other K7 (Nat.ne_of_lt N1g4.out.1)
                replace D2 := D2.other K7 (Nat.ne_of_lt N1g4.out.2)
                replace B3 := B3.other K7 N34.out
                replace RM := Aside0.mk (row_other RM.out B4 (by decide) K7)
                replace RI := Aside0.mk (row_other RI.out B4 (by decide) K7)
                replace B4 := B4n
                replace HB := HBn
                clear B4n HBn K7 HZ
                have HZ := Aside0.mk (Nat.le_refl 0)
                refine hK.out _ _ ?_
                clear hK K
                try simp only [Act.put, List.setIfInBounds_toArray, List.set_cons_zero, List.set_cons_succ]
                refine wpAnyLast_done (by kernel_rfl) ?_ _
                refine NoPanic.normal ?_
                go_step
                go_step
                gi_meet
                case rel => exact ⟨g3, g4, c1, c2, A1, A2, rfl, rfl, GE_g3, GE_g4, ⟨N1g3.out.1, N1g4.out.1, N34.out⟩, E, D2, B3, B4, RM, RI, HB⟩
              exact AllReadyL.nil
            exact AllReadyL.nil
          exact AllReadyL.nil
        refine AllReadyL.cons (o := Oper.mk _ _ _ _ _ _) rfl (by decide) (fun K hK => ?_) ?_
        · refine rg_alloc HB (by rfl) (#[.int .i64 0, .slice none 0 0]) 38 (by first | (go_simp; done) | (go_simp; rfl)) ?_
          intro g4 W' G4 GE_g4 B4 HBn hb
          have N1g4 := Aside0.mk (show g1 < g4 ∧ g2 < g4 by have := L1.out.1; have := L1.out.2.1; have := HZ.out; have := G4.out; omega)
          have N34 := Aside0.mk (show g3 ≠ g4 by have := B3.lt; have := G4.out; omega)
          clear HBn
          replace E := E.below hb.out
          replace D2 := D2.below hb.out
          replace HB := HB.step hb.out
          replace HZ := Aside0.mk (Nat.le_trans HZ.out hb.out.size)
          replace RM := Aside0.mk (row_below RM.out hb.out)
          replace B3 := B3.below hb.out
          refine hK.out _ _ E (fun hS => ?_)
          clear hK K hb G4
          try simp only [Act.put, List.setIfInBounds_toArray, List.set_cons_zero, List.set_cons_succ]
          refine wpAnyLast_ready (rs := [3]) (by kernel_rfl) (by simp) ?_
          refine AllReadyL.cons (o := Oper.mk _ _ _ _ _ _) rfl (by decide) (fun K hK => ?_) ?_
          · refine call_ 24 #[.string s] (by rfl) rfl (by first | (go_simp; done) | (go_simp; rfl)) ((quotes_Inside.walk s _ HS.out).mono ?_)
            rintro e W' ⟨v, rfl, hrow, hb'⟩
            obtain ⟨A2, c2, rfl⟩ := own_slice hrow
            rw [← HNW.out] at hrow ⊢
            have hb := Aside0.mk hb'
            have RI := Aside0.mk (row_mono hrow HB.le)
            have V2 := Aside0.mk (row_one hrow)
            clear hrow hb'
            replace E := E.below hb.out
            replace D2 := D2.below hb.out
            replace HB := HB.step hb.out
            replace HZ := Aside0.mk (Nat.le_trans HZ.out hb.out.size)
            replace RM := Aside0.mk (row_below RM.out hb.out)
            replace B3 := B3.below hb.out
            replace B4 := B4.below hb.out
            refine ⟨_, rfl, ?_⟩
            refine hK.out _ _ E (fun hS => ?_)
            clear hK K hb
            try simp only [Act.put, List.setIfInBounds_toArray, List.set_cons_zero, List.set_cons_succ]
            refine wpAnyLast_ready (rs := [6]) (by kernel_rfl) (by simp) ?_
            refine AllReadyL.cons_last (o := Oper.mk _ _ _ _ _ _) rfl (by decide) (fun K hK => ?_) ?_
            · refine rg_store HB (by rfl) B3 GE_g3 38 _ _ rfl rfl rfl (by kernel_rfl) rfl (by simp [Value.oneCell']) ?_
              intro w6 B3n HBn K6
              replace E := E.other K6 (Nat.ne_of_lt N1g3.out.1)
              replace D2 := D2.other K6 (Nat.ne_of_lt N1g3.out.2)
              replace B4 := B4.other K6 (Ne.symm N34.out)
              replace RM := Aside0.mk (row_other RM.out B3 (by decide) K6)
              replace RI := Aside0.mk (row_other RI.out B3 (by decide) K6)
              replace B3 := B3n
              replace HB := HBn
              clear B3n HBn K6 HZ
              have HZ := Aside0.mk (Nat.le_refl 0)
              refine hK.out _ _ ?_
              clear hK K
              try simp only [Act.put, List.setIfInBounds_toArray, List.set_cons_zero, List.set_cons_succ]
              refine wpAnyLast_ready (rs := [7]) (by kernel_rfl) (by simp) ?_
              refine AllReadyL.cons_last (o := Oper.mk _ _ _ _ _ _) rfl (by decide) (fun K hK => ?_) ?_
              · refine rg_store HB (by rfl) B4 GE_g4 38 _ _ rfl rfl rfl (by kernel_rfl) rfl (by simp [Value.oneCell']) ?_
                intro w7 B4n HBn K7
                replace E := E.other K7 (Nat.ne_of_lt N1g4.out.1)
                replace D2 := D2.other K7 (Nat.ne_of_lt N1g4.out.2)
                replace B3 := B3.other K7 N34.out
                replace RM := Aside0.mk (row_other RM.out B4 (by decide) K7)
                replace RI := Aside0.mk (row_other RI.out B4 (by decide) K7)
                replace B4 := B4n
                replace HB := HBn
                clear B4n HBn K7 HZ
                have HZ := Aside0.mk (Nat.le_refl 0)
                refine hK.out _ _ ?_
                clear hK K
                try simp only [Act.put, List.setIfInBounds_toArray, List.set_cons_zero, List.set_cons_succ]
                refine wpAnyLast_done (by kernel_rfl) ?_ _
                refine NoPanic.normal ?_
                go_step
                go_step
                gi_meet
                case rel => exact ⟨g3, g4, c1, c2, A1, A2, rfl, rfl, GE_g3, GE_g4, ⟨N1g3.out.1, N1g4.out.1, N34.out⟩, E, D2, B3, B4, RM, RI, HB⟩
              exact AllReadyL.nil
            exact AllReadyL.nil
          exact AllReadyL.nil
        exact AllReadyL.nil
      refine AllReadyL.cons (o := Oper.mk _ _ _ _ _ _) rfl (by decide) (fun K hK => ?_) ?_
      · refine rg_alloc HB (by rfl) (#[.int .i64 0, .slice none 0 0]) 38 (by first | (go_simp; done) | (go_simp; rfl)) ?_
        intro g4 W' G4 GE_g4 B4 HBn hb
        have N1g4 := Aside0.mk (show g1 < g4 ∧ g2 < g4 by have := L1.out.1; have := L1.out.2.1; have := HZ.out; have := G4.out; omega)
        clear HBn
        replace E := E.below hb.out
        replace D2 := D2.below hb.out
        replace HB := HB.step hb.out
        replace HZ := Aside0.mk (Nat.le_trans HZ.out hb.out.size)
        replace RM := Aside0.mk (row_below RM.out hb.out)
        refine hK.out _ _ E (fun hS => ?_)
        clear hK K hb G4
        try simp only [Act.put, List.setIfInBounds_toArray, List.set_cons_zero, List.set_cons_succ]
        refine wpAnyLast_ready (rs := [3, 4]) (by kernel_rfl) (by simp) ?_
        refine AllReadyL.cons (o := Oper.mk _ _ _ _ _ _) rfl (by decide) (fun K hK => ?_) ?_
        · refine call_ 24 #[.string s] (by rfl) rfl (by first | (go_simp; done) | (go_simp; rfl)) ((quotes_Inside.walk s _ HS.out).mono ?_)
          rintro e W' ⟨v, rfl, hrow, hb'⟩
          obtain ⟨A2, c2, rfl⟩ := own_slice hrow
          rw [← HNW.out] at hrow ⊢
          have hb := Aside0.mk hb'
          have RI := Aside0.mk (row_mono hrow HB.le)
          have V2 := Aside0.mk (row_one hrow)
          clear hrow hb'
          replace E := E.below hb.out
          replace D2 := D2.below hb.out
          replace HB := HB.step hb.out
          replace HZ := Aside0.mk (Nat.le_trans HZ.out hb.out.size)
          replace RM := Aside0.mk (row_below RM.out hb.out)
          replace B4 := B4.below hb.out
          refine ⟨_, rfl, ?_⟩
          refine hK.out _ _ E (fun hS => ?_)
          clear hK K hb
          try simp only [Act.put, List.setIfInBounds_toArray, List.set_cons_zero, List.set_cons_succ]
          refine wpAnyLast_ready (rs := [4]) (by kernel_rfl) (by simp) ?_
          refine AllReadyL.cons (o := Oper.mk _ _ _ _ _ _) rfl (by decide) (fun K hK => ?_) ?_
          · refine rg_alloc HB (by rfl) (#[.int .i64 0, .slice none 0 0]) 38 (by first | (go_simp; done) | (go_simp; rfl)) ?_
            intro g3 W' G3 GE_g3 B3 HBn hb
            have N1g3 := Aside0.mk (show g1 < g3 ∧ g2 < g3 by have := L1.out.1; have := L1.out.2.1; have := HZ.out; have := G3.out; omega)
            have N34 := Aside0.mk (show g3 ≠ g4 by have := B4.lt; have := G3.out; omega)
            clear HBn
            replace E := E.below hb.out
            replace D2 := D2.below hb.out
            replace HB := HB.step hb.out
            replace HZ := Aside0.mk (Nat.le_trans HZ.out hb.out.size)
            replace RM := Aside0.mk (row_below RM.out hb.out)
            replace RI := Aside0.mk (row_below RI.out hb.out)
            replace B4 := B4.below hb.out
            refine hK.out _ _ E (fun hS => ?_)
            clear hK K hb G3
            try simp only [Act.put, List.setIfInBounds_toArray, List.set_cons_zero, List.set_cons_succ]
            refine wpAnyLast_ready (rs := [6]) (by kernel_rfl) (by simp) ?_
            refine AllReadyL.cons_last (o := Oper.mk _ _ _ _ _ _) rfl (by decide) (fun K hK => ?_) ?_
            · refine rg_store HB (by rfl) B3 GE_g3 38 _ _ rfl rfl rfl (by kernel_rfl) rfl (by simp [Value.oneCell']) ?_
              intro w6 B3n HBn K6
              replace E := E.other K6 (Nat.ne_of_lt N1g3.out.1)
              replace D2 := D2.other K6 (Nat.ne_of_lt N1g3.out.2)
              replace B4 := B4.other K6 (Ne.symm N34.out)
              replace RM := Aside0.mk (row_other RM.out B3 (by decide) K6)
              replace RI := Aside0.mk (row_other RI.out B3 (by decide) K6)
              replace B3 := B3n
              replace HB := HBn
              clear B3n HBn K6 HZ
              have HZ := Aside0.mk (Nat.le_refl 0)
              refine hK.out _ _ ?_
              clear hK K
              try simp only [Act.put, List.setIfInBounds_toArray, List.set_cons_zero, List.set_cons_succ]
              refine wpAnyLast_ready (rs := [7]) (by kernel_rfl) (by simp) ?_
              refine AllReadyL.cons_last (o := Oper.mk _ _ _ _ _ _) rfl (by decide) (fun K hK => ?_) ?_
              · refine rg_store HB (by rfl) B4 GE_g4 38 _ _ rfl rfl rfl (by kernel_rfl) rfl (by simp [Value.oneCell']) ?_
                intro w7 B4n HBn K7
                replace E := E.other K7 (Nat.ne_of_lt N1g4.out.1)
                replace D2 := D2.other K7 (Nat.ne_of_lt N1g4.out.2)
                replace B3 := B3.other K7 N34.out
                replace RM := Aside0.mk (row_other RM.out B4 (by decide) K7)
                replace RI := Aside0.mk (row_other RI.out B4 (by decide) K7)
                replace B4 := B4n
                replace HB := HBn
                clear B4n HBn K7 HZ
                have HZ := Aside0.mk (Nat.le_refl 0)
                refine hK.out _ _ ?_
                clear hK K
                try simp only [Act.put, List.setIfInBounds_toArray, List.set_cons_zero, List.set_cons_succ]
                refine wpAnyLast_done (by kernel_rfl) ?_ _
                refine NoPanic.normal ?_
                go_step
                go_step
                gi_meet
                case rel => exact ⟨g3, g4, c1, c2, A1, A2, rfl, rfl, GE_g3, GE_g4, ⟨N1g3.out.1, N1g4.out.1, N34.out⟩, E, D2, B3, B4, RM, RI, HB⟩
              exact AllReadyL.nil
            exact AllReadyL.nil
          exact AllReadyL.nil
        refine AllReadyL.cons (o := Oper.mk _ _ _ _ _ _) rfl (by decide) (fun K hK => ?_) ?_
        · refine rg_alloc HB (by rfl) (#[.int .i64 0, .slice none 0 0]) 38 (by first | (go_simp; done) | (go_simp; rfl)) ?_
          intro g3 W' G3 GE_g3 B3 HBn hb
          have N1g3 := Aside0.mk (show g1 < g3 ∧ g2 < g3 by have := L1.out.1; have := L1.out.2.1; have := HZ.out; have := G3.out; omega)
          have N34 := Aside0.mk (show g3 ≠ g4 by have := B4.lt; have := G3.out; omega)
          clear HBn
          replace E := E.below hb.out
          replace D2 := D2.below hb.out
          replace HB := HB.step hb.out
          replace HZ := Aside0.mk (Nat.le_trans HZ.out hb.out.size)
          replace RM := Aside0.mk (row_below RM.out hb.out)
          replace B4 := B4.below hb.out
          refine hK.out _ _ E (fun hS => ?_)
          clear hK K hb G3
          try simp only [Act.put, List.setIfInBounds_toArray, List.set_cons_zero, List.set_cons_succ]
          refine wpAnyLast_ready (rs := [3]) (by kernel_rfl) (by simp) ?_
          refine AllReadyL.cons (o := Oper.mk _ _ _ _ _ _) rfl (by decide) (fun K hK => ?_) ?_
          · refine call_ 24 #[.string s] (by rfl) rfl (by first | (go_simp; done) | (go_simp; rfl)) ((quotes_Inside.walk s _ HS.out).mono ?_)
            rintro e W' ⟨v, rfl, hrow, hb'⟩
            obtain ⟨A2, c2, rfl⟩ := own_slice hrow
            rw [← HNW.out] at hrow ⊢
            have hb := Aside0.mk hb'
            have RI := Aside0.mk (row_mono hrow HB.le)
            have V2 := Aside0.mk (row_one hrow)
            clear hrow hb'
            replace E := E.below hb.out
            replace D2 := D2.below hb.out
            replace HB := HB.step hb.out
            replace HZ := Aside0.mk (Nat.le_trans HZ.out hb.out.size)
            replace RM := Aside0.mk (row_below RM.out hb.out)
            replace B3 := B3.below hb.out
            replace B4 := B4.below hb.out
            refine ⟨_, rfl, ?_⟩
            refine hK.out _ _ E (fun hS => ?_)
            clear hK K hb
            try simp only [Act.put, List.setIfInBounds_toArray, List.set_cons_zero, List.set_cons_succ]
            refine wpAnyLast_ready (rs := [6]) (by kernel_rfl) (by simp) ?_
            refine AllReadyL.cons_last (o := Oper.mk _ _ _ _ _ _) rfl (by decide) (fun K hK => ?_) ?_
            · refine rg_store HB (by rfl) B3 GE_g3 38 _ _ rfl rfl rfl (by kernel_rfl) rfl (by simp [Value.oneCell']) ?_
              intro w6 B3n HBn K6
              replace E := E.other K6 (Nat.ne_of_lt N1g3.out.1)
              replace D2 := D2.other K6 (Nat.ne_of_lt N1g3.out.2)
              replace B4 := B4.other K6 (Ne.symm N34.out)
              replace RM := Aside0.mk (row_other RM.out B3 (by decide) K6)
              replace RI := Aside0.mk (row_other RI.out B3 (by decide) K6)
              replace B3 := B3n
              replace HB := HBn
              clear B3n HBn K6 HZ
              have HZ := Aside0.mk (Nat.le_refl 0)
              refine hK.out _ _ ?_
              clear hK K
              try simp only [Act.put, List.setIfInBounds_toArray, List.set_cons_zero, List.set_cons_succ]
              refine wpAnyLast_ready (rs := [7]) (by kernel_rfl) (by simp) ?_
              refine AllReadyL.cons_last (o := Oper.mk _ _ _ _ _ _) rfl (by decide) (fun K hK => ?_) ?_
              · refine rg_store HB (by rfl) B4 GE_g4 38 _ _ rfl rfl rfl (by kernel_rfl) rfl (by simp [Value.oneCell']) ?_
                intro w7 B4n HBn K7
                replace E := E.other K7 (Nat.ne_of_lt N1g4.out.1)
                replace D2 := D2.other K7 (Nat.ne_of_lt N1g4.out.2)
                replace B3 := B3.other K7 N34.out
                replace RM := Aside0.mk (row_other RM.out B4 (by decide) K7)
                replace RI := Aside0.mk (row_other RI.out B4 (by decide) K7)
                replace B4 := B4n
                replace HB := HBn
                clear B4n HBn K7 HZ
                have HZ := Aside0.mk (Nat.le_refl 0)
                refine hK.out _ _ ?_
                clear hK K
                try simp only [Act.put, List.setIfInBounds_toArray, List.set_cons_zero, List.set_cons_succ]
                refine wpAnyLast_done (by kernel_rfl) ?_ _
                refine NoPanic.normal ?_
                go_step
                go_step
                gi_meet
                case rel => exact ⟨g3, g4, c1, c2, A1, A2, rfl, rfl, GE_g3, GE_g4, ⟨N1g3.out.1, N1g4.out.1, N34.out⟩, E, D2, B3, B4, RM, RI, HB⟩
              exact AllReadyL.nil
            exact AllReadyL.nil
          exact AllReadyL.nil
        exact AllReadyL.nil
      exact AllReadyL.nil
    refine AllReadyL.cons (o := Oper.mk _ _ _ _ _ _) rfl (by decide) (fun K hK => ?_) ?_
    · refine rg_alloc HB (by rfl) (#[.int .i64 0, .slice none 0 0]) 38 (by first | (go_simp; done) | (go_simp; rfl)) ?_
      intro g3 W' G3 GE_g3 B3 HBn hb
      have N1g3 := Aside0.mk (show g1 < g3 ∧ g2 < g3 by have := L1.out.1; have := L1.out.2.1; have := HZ.out; have := G3.out; omega)
      clear HBn
      replace E := E.below hb.out
      replace D2 := D2.below hb.out
      replace HB := HB.step hb.out
      replace HZ := Aside0.mk (Nat.le_trans HZ.out hb.out.size)
      refine hK.out _ _ E (fun hS => ?_)
      clear hK K hb G3
      try simp only [Act.put, List.setIfInBounds_toArray, List.set_cons_zero, List.set_cons_succ]
      refine wpAnyLast_ready (rs := [1, 5]) (by kernel_rfl) (by simp) ?_
      refine AllReadyL.cons (o := Oper.mk _ _ _ _ _ _) rfl (by decide) (fun K hK => ?_) ?_
      · refine call_ 22 #[.string s] (by rfl) rfl (by first | (go_simp; done) | (go_simp; rfl)) ((quotes_Marks.walk s _ HS.out).mono ?_)
        rintro e W' ⟨v, rfl, hrow, hb'⟩
        obtain ⟨A1, c1, rfl⟩ := own_slice hrow
        rw [← HNW.out] at hrow ⊢
        have hb := Aside0.mk hb'
        have RM := Aside0.mk (row_mono hrow HB.le)
        have V1 := Aside0.mk (row_one hrow)
        clear hrow hb'
        replace E := E.below hb.out
        replace D2 := D2.below hb.out
        replace HB := HB.step hb.out
        replace HZ := Aside0.mk (Nat.le_trans HZ.out hb.out.size)
        replace B3 := B3.below hb.out
        refine ⟨_, rfl, ?_⟩
        refine hK.out _ _ E (fun hS => ?_)
        clear hK K hb
        try simp only [Act.put, List.setIfInBounds_toArray, List.set_cons_zero, List.set_cons_succ]
        refine wpAnyLast_ready (rs := [3, 5]) (by kernel_rfl) (by simp) ?_
        refine AllReadyL.cons (o := Oper.mk _ _ _ _ _ _) rfl (by decide) (fun K hK => ?_) ?_
        · refine call_ 24 #[.string s] (by rfl) rfl (by first | (go_simp; done) | (go_simp; rfl)) ((quotes_Inside.walk s _ HS.out).mono ?_)
          rintro e W' ⟨v, rfl, hrow, hb'⟩
          obtain ⟨A2, c2, rfl⟩ := own_slice hrow
          rw [← HNW.out] at hrow ⊢
          have hb := Aside0.mk hb'
          have RI := Aside0.mk (row_mono hrow HB.le)
          have V2 := Aside0.mk (row_one hrow)
          clear hrow hb'
          replace E := E.below hb.out
          replace D2 := D2.below hb.out
          replace HB := HB.step hb.out
          replace HZ := Aside0.mk (Nat.le_trans HZ.out hb.out.size)
          replace RM := Aside0.mk (row_below RM.out hb.out)
          replace B3 := B3.below hb.out
          refine ⟨_, rfl, ?_⟩
          refine hK.out _ _ E (fun hS => ?_)
          clear hK K hb
          try simp only [Act.put, List.setIfInBounds_toArray, List.set_cons_zero, List.set_cons_succ]
          refine wpAnyLast_ready (rs := [5]) (by kernel_rfl) (by simp) ?_
          refine AllReadyL.cons (o := Oper.mk _ _ _ _ _ _) rfl (by decide) (fun K hK => ?_) ?_
          · refine rg_alloc HB (by rfl) (#[.int .i64 0, .slice none 0 0]) 38 (by first | (go_simp; done) | (go_simp; rfl)) ?_
            intro g4 W' G4 GE_g4 B4 HBn hb
            have N1g4 := Aside0.mk (show g1 < g4 ∧ g2 < g4 by have := L1.out.1; have := L1.out.2.1; have := HZ.out; have := G4.out; omega)
            have N34 := Aside0.mk (show g3 ≠ g4 by have := B3.lt; have := G4.out; omega)
            clear HBn
            replace E := E.below hb.out
            replace D2 := D2.below hb.out
            replace HB := HB.step hb.out
            replace HZ := Aside0.mk (Nat.le_trans HZ.out hb.out.size)
            replace RM := Aside0.mk (row_below RM.out hb.out)
            replace RI := Aside0.mk (row_below RI.out hb.out)
            replace B3 := B3.below hb.out
            refine hK.out _ _ E (fun hS => ?_)
            clear hK K hb G4
            try simp only [Act.put, List.setIfInBounds_toArray, List.set_cons_zero, List.set_cons_succ]
            refine wpAnyLast_ready (rs := [6]) (by kernel_rfl) (by simp) ?_
            refine AllReadyL.cons_last (o := Oper.mk _ _ _ _ _ _) rfl (by decide) (fun K hK => ?_) ?_
            · refine rg_store HB (by rfl) B3 GE_g3 38 _ _ rfl rfl rfl (by kernel_rfl) rfl (by simp [Value.oneCell']) ?_
              intro w6 B3n HBn K6
              replace E := E.other K6 (Nat.ne_of_lt N1g3.out.1)
              replace D2 := D2.other K6 (Nat.ne_of_lt N1g3.out.2)
              replace B4 := B4.other K6 (Ne.symm N34.out)
              replace RM := Aside0.mk (row_other RM.out B3 (by decide) K6)
              replace RI := Aside0.mk (row_other RI.out B3 (by decide) K6)
              replace B3 := B3n
              replace HB := HBn
              clear B3n HBn K6 HZ
              have HZ := Aside0.mk (Nat.le_refl 0)
              refine hK.out _ _ ?_
              clear hK K
              try simp only [Act.put, List.setIfInBounds_toArray, List.set_cons_zero, List.set_cons_succ]
              refine wpAnyLast_ready (rs := [7]) (by kernel_rfl) (by simp) ?_
              refine AllReadyL.cons_last (o := Oper.mk _ _ _ _ _ _) rfl (by decide) (fun K hK => ?_) ?_
              · refine rg_store HB (by rfl) B4 GE_g4 38 _ _ rfl rfl rfl (by kernel_rfl) rfl (by simp [Value.oneCell']) ?_
                intro w7 B4n HBn K7
                replace E := E.other K7 (Nat.ne_of_lt N1g4.out.1)
                replace D2 := D2.other K7 (Nat.ne_of_lt N1g4.out.2)
                replace B3 := B3.other K7 N34.out
                replace RM := Aside0.mk (row_other RM.out B4 (by decide) K7)
                replace RI := Aside0.mk (row_other RI.out B4 (by decide) K7)
                replace B4 := B4n
                replace HB := HBn
                clear B4n HBn K7 HZ
                have HZ := Aside0.mk (Nat.le_refl 0)
                refine hK.out _ _ ?_
                clear hK K
                try simp only [Act.put, List.setIfInBounds_toArray, List.set_cons_zero, List.set_cons_succ]
                refine wpAnyLast_done (by kernel_rfl) ?_ _
                refine NoPanic.normal ?_
                go_step
                go_step
                gi_meet
                case rel => exact ⟨g3, g4, c1, c2, A1, A2, rfl, rfl, GE_g3, GE_g4, ⟨N1g3.out.1, N1g4.out.1, N34.out⟩, E, D2, B3, B4, RM, RI, HB⟩
              exact AllReadyL.nil
            exact AllReadyL.nil
          exact AllReadyL.nil
        refine AllReadyL.cons (o := Oper.mk _ _ _ _ _ _) rfl (by decide) (fun K hK => ?_) ?_
        · refine rg_alloc HB (by rfl) (#[.int .i64 0, .slice none 0 0]) 38 (by first | (go_simp; done) | (go_simp; rfl)) ?_
          intro g4 W' G4 GE_g4 B4 HBn hb
          have N1g4 := Aside0.mk (show g1 < g4 ∧ g2 < g4 by have := L1.out.1; have := L1.out.2.1; have := HZ.out; have := G4.out; omega)
          have N34 := Aside0.mk (show g3 ≠ g4 by have := B3.lt; have := G4.out; omega)
          clear HBn
          replace E := E.below hb.out
          replace D2 := D2.below hb.out
          replace HB := HB.step hb.out
          replace HZ := Aside0.mk (Nat.le_trans HZ.out hb.out.size)
          replace RM := Aside0.mk (row_below RM.out hb.out)
          replace B3 := B3.below hb.out
          refine hK.out _ _ E (fun hS => ?_)
          clear hK K hb G4
          try simp only [Act.put, List.setIfInBounds_toArray, List.set_cons_zero, List.set_cons_succ]
          refine wpAnyLast_ready (rs := [3]) (by kernel_rfl) (by simp) ?_
          refine AllReadyL.cons (o := Oper.mk _ _ _ _ _ _) rfl (by decide) (fun K hK => ?_) ?_
          · refine call_ 24 #[.string s] (by rfl) rfl (by first | (go_simp; done) | (go_simp; rfl)) ((quotes_Inside.walk s _ HS.out).mono ?_)
            rintro e W' ⟨v, rfl, hrow, hb'⟩
            obtain ⟨A2, c2, rfl⟩ := own_slice hrow
            rw [← HNW.out] at hrow ⊢
            have hb := Aside0.mk hb'
            have RI := Aside0.mk (row_mono hrow HB.le)
            have V2 := Aside0.mk (row_one hrow)
            clear hrow hb'
            replace E := E.below hb.out
            replace D2 := D2.below hb.out
            replace HB := HB.step hb.out
            replace HZ := Aside0.mk (Nat.le_trans HZ.out hb.out.size)
            replace RM := Aside0.mk (row_below RM.out hb.out)
            replace B3 := B3.below hb.out
            replace B4 := B4.below hb.out
            refine ⟨_, rfl, ?_⟩
            refine hK.out _ _ E (fun hS => ?_)
            clear hK K hb
            try simp only [Act.put, List.setIfInBounds_toArray, List.set_cons_zero, List.set_cons_succ]
            refine wpAnyLast_ready (rs := [6]) (by kernel_rfl) (by simp) ?_
            refine AllReadyL.cons_last (o := Oper.mk _ _ _ _ _ _) rfl (by decide) (fun K hK => ?_) ?_
            · refine rg_store HB (by rfl) B3 GE_g3 38 _ _ rfl rfl rfl (by kernel_rfl) rfl (by simp [Value.oneCell']) ?_
              intro w6 B3n HBn K6
              replace E := E.other K6 (Nat.ne_of_lt N1g3.out.1)
              replace D2 := D2.other K6 (Nat.ne_of_lt N1g3.out.2)
              replace B4 := B4.other K6 (Ne.symm N34.out)
              replace RM := Aside0.mk (row_other RM.out B3 (by decide) K6)
              replace RI := Aside0.mk (row_other RI.out B3 (by decide) K6)
              replace B3 := B3n
              replace HB := HBn
              clear B3n HBn K6 HZ
              have HZ := Aside0.mk (Nat.le_refl 0)
              refine hK.out _ _ ?_
              clear hK K
              try simp only [Act.put, List.setIfInBounds_toArray, List.set_cons_zero, List.set_cons_succ]
              refine wpAnyLast_ready (rs := [7]) (by kernel_rfl) (by simp) ?_
              refine AllReadyL.cons_last (o := Oper.mk _ _ _ _ _ _) rfl (by decide) (fun K hK => ?_) ?_
              · refine rg_store HB (by rfl) B4 GE_g4 38 _ _ rfl rfl rfl (by kernel_rfl) rfl (by simp [Value.oneCell']) ?_
                intro w7 B4n HBn K7
                replace E := E.other K7 (Nat.ne_of_lt N1g4.out.1)
                replace D2 := D2.other K7 (Nat.ne_of_lt N1g4.out.2)
                replace B3 := B3.other K7 N34.out
                replace RM := Aside0.mk (row_other RM.out B4 (by decide) K7)
                replace RI := Aside0.mk (row_other RI.out B4 (by decide) K7)
                replace B4 := B4n
                replace HB := HBn
                clear B4n HBn K7 HZ
                have HZ := Aside0.mk (Nat.le_refl 0)
                refine hK.out _ _ ?_
                clear hK K
                try simp only [Act.put, List.setIfInBounds_toArray, List.set_cons_zero, List.set_cons_succ]
                refine wpAnyLast_done (by kernel_rfl) ?_ _
                refine NoPanic.normal ?_
                go_step
                go_step
                gi_meet
                case rel => exact ⟨g3, g4, c1, c2, A1, A2, rfl, rfl, GE_g3, GE_g4, ⟨N1g3.out.1, N1g4.out.1, N34.out⟩, E, D2, B3, B4, RM, RI, HB⟩
              exact AllReadyL.nil
            exact AllReadyL.nil
          exact AllReadyL.nil
        exact AllReadyL.nil
      refine AllReadyL.cons (o := Oper.mk _ _ _ _ _ _) rfl (by decide) (fun K hK => ?_) ?_
      · refine rg_alloc HB (by rfl) (#[.int .i64 0, .slice none 0 0]) 38 (by first | (go_simp; done) | (go_simp; rfl)) ?_
        intro g4 W' G4 GE_g4 B4 HBn hb
        have N1g4 := Aside0.mk (show g1 < g4 ∧ g2 < g4 by have := L1.out.1; have := L1.out.2.1; have := HZ.out; have := G4.out; omega)
        have N34 := Aside0.mk (show g3 ≠ g4 by have := B3.lt; have := G4.out; omega)
        clear HBn
        replace E := E.below hb.out
        replace D2 := D2.below hb.out
        replace HB := HB.step hb.out
        replace HZ := Aside0.mk (Nat.le_trans HZ.out hb.out.size)
        replace B3 := B3.below hb.out
        refine hK.out _ _ E (fun hS => ?_)
        clear hK K hb G4
        try simp only [Act.put, List.setIfInBounds_toArray, List.set_cons_zero, List.set_cons_succ]
        refine wpAnyLast_ready (rs := [1]) (by kernel_rfl) (by simp) ?_
        refine AllReadyL.cons (o := Oper.mk _ _ _ _ _ _) rfl (by decide) (fun K hK => ?_) ?_
        · refine call_ 22 #[.string s] (by rfl) rfl (by first | (go_simp; done) | (go_simp; rfl)) ((quotes_Marks.walk s _ HS.out).mono ?_)
          rintro e W' ⟨v, rfl, hrow, hb'⟩
          obtain ⟨A1, c1, rfl⟩ := own_slice hrow
          rw [← HNW.out] at hrow ⊢
          have hb := Aside0.mk hb'
          have RM := Aside0.mk (row_mono hrow HB.le)
          have V1 := Aside0.mk (row_one hrow)
          clear hrow hb'
          replace E := E.below hb.out
          replace D2 := D2.below hb.out
          replace HB := HB.step hb.out
          replace HZ := Aside0.mk (Nat.le_trans HZ.out hb.out.size)
          replace B3 := B3.below hb.out
          replace B4 := B4.below hb.out
          refine ⟨_, rfl, ?_⟩
          refine hK.out _ _ E (fun hS => ?_)
          clear hK K hb
          try simp only [Act.put, List.setIfInBounds_toArray, List.set_cons_zero, List.set_cons_succ]
          refine wpAnyLast_ready (rs := [3]) (by kernel_rfl) (by simp) ?_
          refine AllReadyL.cons (o := Oper.mk _ _ _ _ _ _) rfl (by decide) (fun K hK => ?_) ?_
          · refine call_ 24 #[.string s] (by rfl) rfl (by first | (go_simp; done) | (go_simp; rfl)) ((quotes_Inside.walk s _ HS.out).mono ?_)
            rintro e W' ⟨v, rfl, hrow, hb'⟩
            obtain ⟨A2, c2, rfl⟩ := own_slice hrow
            rw [← HNW.out] at hrow ⊢
            have hb := Aside0.mk hb'
            have RI := Aside0.mk (row_mono hrow HB.le)
            have V2 := Aside0.mk (row_one hrow)
            clear hrow hb'
            replace E := E.below hb.out
            replace D2 := D2.below hb.out
            replace HB := HB.step hb.out
            replace HZ := Aside0.mk (Nat.le_trans HZ.out hb.out.size)
            replace RM := Aside0.mk (row_below RM.out hb.out)
            replace B3 := B3.below hb.out
            replace B4 := B4.below hb.out
            refine ⟨_, rfl, ?_⟩
            refine hK.out _ _ E (fun hS => ?_)
            clear hK K hb
            try simp only [Act.put, List.setIfInBounds_toArray, List.set_cons_zero, List.set_cons_succ]
            refine wpAnyLast_ready (rs := [6]) (by kernel_rfl) (by simp) ?_
            refine AllReadyL.cons_last (o := Oper.mk _ _ _ _ _ _) rfl (by decide) (fun K hK => ?_) ?_
            · refine rg_store HB (by rfl) B3 GE_g3 38 _ _ rfl rfl rfl (by kernel_rfl) rfl (by simp [Value.oneCell']) ?_
              intro w6 B3n HBn K6
              replace E := E.other K6 (Nat.ne_of_lt N1g3.out.1)
              replace D2 := D2.other K6 (Nat.ne_of_lt N1g3.out.2)
              replace B4 := B4.other K6 (Ne.symm N34.out)
              replace RM := Aside0.mk (row_other RM.out B3 (by decide) K6)
              replace RI := Aside0.mk (row_other RI.out B3 (by decide) K6)
              replace B3 := B3n
              replace HB := HBn
              clear B3n HBn K6 HZ
              have HZ := Aside0.mk (Nat.le_refl 0)
              refine hK.out _ _ ?_
              clear hK K
              try simp only [Act.put, List.setIfInBounds_toArray, List.set_cons_zero, List.set_cons_succ]
              refine wpAnyLast_ready (rs := [7]) (by kernel_rfl) (by simp) ?_
              refine AllReadyL.cons_last (o := Oper.mk _ _ _ _ _ _) rfl (by decide) (fun K hK => ?_) ?_
              · refine rg_store HB (by rfl) B4 GE_g4 38 _ _ rfl rfl rfl (by kernel_rfl) rfl (by simp [Value.oneCell']) ?_
                intro w7 B4n HBn K7
                replace E := E.other K7 (Nat.ne_of_lt N1g4.out.1)
                replace D2 := D2.other K7 (Nat.ne_of_lt N1g4.out.2)
                replace B3 := B3.other K7 N34.out
                replace RM := Aside0.mk (row_other RM.out B4 (by decide) K7)
                replace RI := Aside0.mk (row_other RI.out B4 (by decide) K7)
                replace B4 := B4n
                replace HB := HBn
                clear B4n HBn K7 HZ
                have HZ := Aside0.mk (Nat.le_refl 0)
                refine hK.out _ _ ?_
                clear hK K
                try simp only [Act.put, List.setIfInBounds_toArray, List.set_cons_zero, List.set_cons_succ]
                refine wpAnyLast_done (by kernel_rfl) ?_ _
                refine NoPanic.normal ?_
                go_step
                go_step
                gi_meet
                case rel => exact ⟨g3, g4, c1, c2, A1, A2, rfl, rfl, GE_g3, GE_g4, ⟨N1g3.out.1, N1g4.out.1, N34.out⟩, E, D2, B3, B4, RM, RI, HB⟩
              exact AllReadyL.nil
            exact AllReadyL.nil
          exact AllReadyL.nil
        exact AllReadyL.nil
      exact AllReadyL.nil
    refine AllReadyL.cons (o := Oper.mk _ _ _ _ _ _) rfl (by decide) (fun K hK => ?_) ?_
    · refine rg_alloc HB (by rfl) (#[.int .i64 0, .slice none 0 0]) 38 (by first | (go_simp; done) | (go_simp; rfl)) ?_
      intro g4 W' G4 GE_g4 B4 HBn hb
      have N1g4 := Aside0.mk (show g1 < g4 ∧ g2 < g4 by have := L1.out.1; have := L1.out.2.1; have := HZ.out; have := G4.out; omega)
      clear HBn
      replace E := E.below hb.out
      replace D2 := D2.below hb.out
      replace HB := HB.step hb.out
      replace HZ := Aside0.mk (Nat.le_trans HZ.out hb.out.size)
      refine hK.out _ _ E (fun hS => ?_)
      clear hK K hb G4
      try simp only [Act.put, List.setIfInBounds_toArray, List.set_cons_zero, List.set_cons_succ]
      refine wpAnyLast_ready (rs := [1, 4]) (by kernel_rfl) (by simp) ?_
      refine AllReadyL.cons (o := Oper.mk _ _ _ _ _ _) rfl (by decide) (fun K hK => ?_) ?_
      · refine call_ 22 #[.string s] (by rfl) rfl (by first | (go_simp; done) | (go_simp; rfl)) ((quotes_Marks.walk s _ HS.out).mono ?_)
        rintro e W' ⟨v, rfl, hrow, hb'⟩
        obtain ⟨A1, c1, rfl⟩ := own_slice hrow
        rw [← HNW.out] at hrow ⊢
        have hb := Aside0.mk hb'
        have RM := Aside0.mk (row_mono hrow HB.le)
        have V1 := Aside0.mk (row_one hrow)
        clear hrow hb'
        replace E := E.below hb.out
        replace D2 := D2.below hb.out
        replace HB := HB.step hb.out
        replace HZ := Aside0.mk (Nat.le_trans HZ.out hb.out.size)
        replace B4 := B4.below hb.out
        refine ⟨_, rfl, ?_⟩
        refine hK.out _ _ E (fun hS => ?_)
        clear hK K hb
        try simp only [Act.put, List.setIfInBounds_toArray, List.set_cons_zero, List.set_cons_succ]
        refine wpAnyLast_ready (rs := [3, 4]) (by kernel_rfl) (by simp) ?_
        refine AllReadyL.cons (o := Oper.mk _ _ _ _ _ _) rfl (by decide) (fun K hK => ?_) ?_
        · refine call_ 24 #[.string s] (by rfl) rfl (by first | (go_simp; done) | (go_simp; rfl)) ((quotes_Inside.walk s _ HS.out).mono ?_)
          rintro e W' ⟨v, rfl, hrow, hb'⟩
          obtain ⟨A2, c2, rfl⟩ := own_slice hrow
          rw [← HNW.out] at hrow ⊢
          have hb := Aside0.mk hb'
          have RI := Aside0.mk (row_mono hrow HB.le)
          have V2 := Aside0.mk (row_one hrow)
          clear hrow hb'
          replace E := E.below hb.out
          replace D2 := D2.below hb.out
          replace HB := HB.step hb.out
          replace HZ := Aside0.mk (Nat.le_trans HZ.out hb.out.size)
          replace RM := Aside0.mk (row_below RM.out hb.out)
          replace B4 := B4.below hb.out
          refine ⟨_, rfl, ?_⟩
          refine hK.out _ _ E (fun hS => ?_)
          clear hK K hb
          try simp only [Act.put, List.setIfInBounds_toArray, List.set_cons_zero, List.set_cons_succ]
          refine wpAnyLast_ready (rs := [4]) (by kernel_rfl) (by simp) ?_
          refine AllReadyL.cons (o := Oper.mk _ _ _ _ _ _) rfl (by decide) (fun K hK => ?_) ?_
          · refine rg_alloc HB (by rfl) (#[.int .i64 0, .slice none 0 0]) 38 (by first | (go_simp; done) | (go_simp; rfl)) ?_
            intro g3 W' G3 GE_g3 B3 HBn hb
            have N1g3 := Aside0.mk (show g1 < g3 ∧ g2 < g3 by have := L1.out.1; have := L1.out.2.1; have := HZ.out; have := G3.out; omega)
            have N34 := Aside0.mk (show g3 ≠ g4 by have := B4.lt; have := G3.out; omega)
            clear HBn
            replace E := E.below hb.out
            replace D2 := D2.below hb.out
            replace HB := HB.step hb.out
            replace HZ := Aside0.mk (Nat.le_trans HZ.out hb.out.size)
            replace RM := Aside0.mk (row_below RM.out hb.out)
            replace RI := Aside0.mk (row_below RI.out hb.out)
            replace B4 := B4.below hb.out
            refine hK.out _ _ E (fun hS => ?_)
            clear hK K hb G3
            try simp only [Act.put, List.setIfInBounds_toArray, List.set_cons_zero, List.set_cons_succ]
            refine wpAnyLast_ready (rs := [6]) (by kernel_rfl) (by simp) ?_
            refine AllReadyL.cons_last (o := Oper.mk _ _ _ _ _ _) rfl (by decide) (fun K hK => ?_) ?_
            · refine rg_store HB (by rfl) B3 GE_g3 38 _ _ rfl rfl rfl (by kernel_rfl) rfl (by simp [Value.oneCell']) ?_
              intro w6 B3n HBn K6
              replace E := E.other K6 (Nat.ne_of_lt N1g3.out.1)
              replace D2 := D2.other K6 (Nat.ne_of_lt N1g3.out.2)
              replace B4 := B4.other K6 (Ne.symm N34.out)
              replace RM := Aside0.mk (row_other RM.out B3 (by decide) K6)
              replace RI := Aside0.mk (row_other RI.out B3 (by decide) K6)
              replace B3 := B3n
              replace HB := HBn
              clear B3n HBn K6 HZ
              have HZ := Aside0.mk (Nat.le_refl 0)
              refine hK.out _ _ ?_
              clear hK K
              try simp only [Act.put, List.setIfInBounds_toArray, List.set_cons_zero, List.set_cons_succ]
              refine wpAnyLast_ready (rs := [7]) (by kernel_rfl) (by simp) ?_
              refine AllReadyL.cons_last (o := Oper.mk _ _ _ _ _ _) rfl (by decide) (fun K hK => ?_) ?_
              · refine rg_store HB (by rfl) B4 GE_g4 38 _ _ rfl rfl rfl (by kernel_rfl) rfl (by simp [Value.oneCell']) ?_
                intro w7 B4n HBn K7
                replace E := E.other K7 (Nat.ne_of_lt N1g4.out.1)
                replace D2 := D2.other K7 (Nat.ne_of_lt N1g4.out.2)
                replace B3 := B3.other K7 N34.out
                replace RM := Aside0.mk (row_other RM.out B4 (by decide) K7)
                replace RI := Aside0.mk (row_other RI.out B4 (by decide) K7)
                replace B4 := B4n
                replace HB := HBn
                clear B4n HBn K7 HZ
                have HZ := Aside0.mk (Nat.le_refl 0)
                refine hK.out _ _ ?_
                clear hK K
                try simp only [Act.put, List.setIfInBounds_toArray, List.set_cons_zero, List.set_cons_succ]
                refine wpAnyLast_done (by kernel_rfl) ?_ _
                refine NoPanic.normal ?_
                go_step
                go_step
                gi_meet
                case rel => exact ⟨g3, g4, c1, c2, A1, A2, rfl, rfl, GE_g3, GE_g4, ⟨N1g3.out.1, N1g4.out.1, N34.out⟩, E, D2, B3, B4, RM, RI, HB⟩
              exact AllReadyL.nil
            exact AllReadyL.nil
          exact AllReadyL.nil
        refine AllReadyL.cons (o := Oper.mk _ _ _ _ _ _) rfl (by decide) (fun K hK => ?_) ?_
        · refine rg_alloc HB (by rfl) (#[.int .i64 0, .slice none 0 0]) 38 (by first | (go_simp; done) | (go_simp; rfl)) ?_
          intro g3 W' G3 GE_g3 B3 HBn hb
          have N1g3 := Aside0.mk (show g1 < g3 ∧ g2 < g3 by have := L1.out.1; have := L1.out.2.1; have := HZ.out; have := G3.out; omega)
          have N34 := Aside0.mk (show g3 ≠ g4 by have := B4.lt; have := G3.out; omega)
          clear HBn
          replace E := E.below hb.out
          replace D2 := D2.below hb.out
          replace HB := HB.step hb.out
          replace HZ := Aside0.mk (Nat.le_trans HZ.out hb.out.size)
          replace RM := Aside0.mk (row_below RM.out hb.out)
          replace B4 := B4.below hb.out
          refine hK.out _ _ E (fun hS => ?_)
          clear hK K hb G3
          try simp only [Act.put, List.setIfInBounds_toArray, List.set_cons_zero, List.set_cons_succ]
          refine wpAnyLast_ready (rs := [3]) (by kernel_rfl) (by simp) ?_
          refine AllReadyL.cons (o := Oper.mk _ _ _ _ _ _) rfl (by decide) (fun K hK => ?_) ?_
          · refine call_ 24 #[.string s] (by rfl) rfl (by first | (go_simp; done) | (go_simp; rfl)) ((quotes_Inside.walk s _ HS.out).mono ?_)
            rintro e W' ⟨v, rfl, hrow, hb'⟩
            obtain ⟨A2, c2, rfl⟩ := own_slice hrow
            rw [← HNW.out] at hrow ⊢
            have hb := Aside0.mk hb'
            have RI := Aside0.mk (row_mono hrow HB.le)
            have V2 := Aside0.mk (row_one hrow)
            clear hrow hb'
            replace E := E.below hb.out
            replace D2 := D2.below hb.out
            replace HB := HB.step hb.out
            replace HZ := Aside0.mk (Nat.le_trans HZ.out hb.out.size)
            replace RM := Aside0.mk (row_below RM.out hb.out)
            replace B3 := B3.below hb.out
            replace B4 := B4.below hb.out
            refine ⟨_, rfl, ?_⟩
            refine hK.out _ _ E (fun hS => ?_)
            clear hK K hb
            try simp only [Act.put, List.setIfInBounds_toArray, List.set_cons_zero, List.set_cons_succ]
            refine wpAnyLast_ready (rs := [6]) (by kernel_rfl) (by simp) ?_
            refine AllReadyL.cons_last (o := Oper.mk _ _ _ _ _ _) rfl (by decide) (fun K hK => ?_) ?_
            · refine rg_store HB (by rfl) B3 GE_g3 38 _ _ rfl rfl rfl (by kernel_rfl) rfl (by simp [Value.oneCell']) ?_
              intro w6 B3n HBn K6
              replace E := E.other K6 (Nat.ne_of_lt N1g3.out.1)
              replace D2 := D2.other K6 (Nat.ne_of_lt N1g3.out.2)
              replace B4 := B4.other K6 (Ne.symm N34.out)
              replace RM := Aside0.mk (row_other RM.out B3 (by decide) K6)
              replace RI := Aside0.mk (row_other RI.out B3 (by decide) K6)
              replace B3 := B3n
              replace HB := HBn
              clear B3n HBn K6 HZ
              have HZ := Aside0.mk (Nat.le_refl 0)
              refine hK.out _ _ ?_
              clear hK K
              try simp only [Act.put, List.setIfInBounds_toArray, List.set_cons_zero, List.set_cons_succ]
              refine wpAnyLast_ready (rs := [7]) (by kernel_rfl) (by simp) ?_
              refine AllReadyL.cons_last (o := Oper.mk _ _ _ _ _ _) rfl (by decide) (fun K hK => ?_) ?_
              · refine rg_store HB (by rfl) B4 GE_g4 38 _ _ rfl rfl rfl (by kernel_rfl) rfl (by simp [Value.oneCell']) ?_
                intro w7 B4n HBn K7
                replace E := E.other K7 (Nat.ne_of_lt N1g4.out.1)
                replace D2 := D2.other K7 (Nat.ne_of_lt N1g4.out.2)
                replace B3 := B3.other K7 N34.out
                replace RM := Aside0.mk (row_other RM.out B4 (by decide) K7)
                replace RI := Aside0.mk (row_other RI.out B4 (by decide) K7)
                replace B4 := B4n
                replace HB := HBn
                clear B4n HBn K7 HZ
                have HZ := Aside0.mk (Nat.le_refl 0)
                refine hK.out _ _ ?_
                clear hK K
                try simp only [Act.put, List.setIfInBounds_toArray, List.set_cons_zero, List.set_cons_succ]
                refine wpAnyLast_done (by kernel_rfl) ?_ _
                refine NoPanic.normal ?_
                go_step
                go_step
                gi_meet
                case rel => exact ⟨g3, g4, c1, c2, A1, A2, rfl, rfl, GE_g3, GE_g4, ⟨N1g3.out.1, N1g4.out.1, N34.out⟩, E, D2, B3, B4, RM, RI, HB⟩
              exact AllReadyL.nil
            exact AllReadyL.nil
          exact AllReadyL.nil
        exact AllReadyL.nil
      refine AllReadyL.cons (o := Oper.mk _ _ _ _ _ _) rfl (by decide) (fun K hK => ?_) ?_
      · refine rg_alloc HB (by rfl) (#[.int .i64 0, .slice none 0 0]) 38 (by first | (go_simp; done) | (go_simp; rfl)) ?_
        intro g3 W' G3 GE_g3 B3 HBn hb
        have N1g3 := Aside0.mk (show g1 < g3 ∧ g2 < g3 by have := L1.out.1; have := L1.out.2.1; have := HZ.out; have := G3.out; omega)
        have N34 := Aside0.mk (show g3 ≠ g4 by have := B4.lt; have := G3.out; omega)
        clear HBn
        replace E := E.below hb.out
        replace D2 := D2.below hb.out
        replace HB := HB.step hb.out
        replace HZ := Aside0.mk (Nat.le_trans HZ.out hb.out.size)
        replace B4 := B4.below hb.out
        refine hK.out _ _ E (fun hS => ?_)
        clear hK K hb G3
        try simp only [Act.put, List.setIfInBounds_toArray, List.set_cons_zero, List.set_cons_succ]
        refine wpAnyLast_ready (rs := [1]) (by kernel_rfl) (by simp) ?_
        refine AllReadyL.cons (o := Oper.mk _ _ _ _ _ _) rfl (by decide) (fun K hK => ?_) ?_
        · refine call_ 22 #[.string s] (by rfl) rfl (by first | (go_simp; done) | (go_simp; rfl)) ((quotes_Marks.walk s _ HS.out).mono ?_)
          rintro e W' ⟨v, rfl, hrow, hb'⟩
          obtain ⟨A1, c1, rfl⟩ := own_slice hrow
          rw [← HNW.out] at hrow ⊢
          have hb := Aside0.mk hb'
          have RM := Aside0.mk (row_mono hrow HB.le)
          have V1 := Aside0.mk (row_one hrow)
          clear hrow hb'
          replace E := E.below hb.out
          replace D2 := D2.below hb.out
          replace HB := HB.step hb.out
          replace HZ := Aside0.mk (Nat.le_trans HZ.out hb.out.size)
          replace B3 := B3.below hb.out
          replace B4 := B4.below hb.out
          refine ⟨_, rfl, ?_⟩
          refine hK.out _ _ E (fun hS => ?_)
          clear hK K hb
          try simp only [Act.put, List.setIfInBounds_toArray, List.set_cons_zero, List.set_cons_succ]
          refine wpAnyLast_ready (rs := [3]) (by kernel_rfl) (by simp) ?_
          refine AllReadyL.cons (o := Oper.mk _ _ _ _ _ _) rfl (by decide) (fun K hK => ?_) ?_
          · refine call_ 24 #[.string s] (by rfl) rfl (by first | (go_simp; done) | (go_simp; rfl)) ((quotes_Inside.walk s _ HS.out).mono ?_)
            rintro e W' ⟨v, rfl, hrow, hb'⟩
            obtain ⟨A2, c2, rfl⟩ := own_slice hrow
            rw [← HNW.out] at hrow ⊢
            have hb := Aside0.mk hb'
            have RI := Aside0.mk (row_mono hrow HB.le)
            have V2 := Aside0.mk (row_one hrow)
            clear hrow hb'
            replace E := E.below hb.out
            replace D2 := D2.below hb.out
            replace HB := HB.step hb.out
            replace HZ := Aside0.mk (Nat.le_trans HZ.out hb.out.size)
            replace RM := Aside0.mk (row_below RM.out hb.out)
            replace B3 := B3.below hb.out
            replace B4 := B4.below hb.out
            refine ⟨_, rfl, ?_⟩
            refine hK.out _ _ E (fun hS => ?_)
            clear hK K hb
            try simp only [Act.put, List.setIfInBounds_toArray, List.set_cons_zero, List.set_cons_succ]
            refine wpAnyLast_ready (rs := [6]) (by kernel_rfl) (by simp) ?_
            refine AllReadyL.cons_last (o := Oper.mk _ _ _ _ _ _) rfl (by decide) (fun K hK => ?_) ?_
            · refine rg_store HB (by rfl) B3 GE_g3 38 _ _ rfl rfl rfl (by kernel_rfl) rfl (by simp [Value.oneCell']) ?_
              intro w6 B3n HBn K6
              replace E := E.other K6 (Nat.ne_of_lt N1g3.out.1)
              replace D2 := D2.other K6 (Nat.ne_of_lt N1g3.out.2)
              replace B4 := B4.other K6 (Ne.symm N34.out)
              replace RM := Aside0.mk (row_other RM.out B3 (by decide) K6)
              replace RI := Aside0.mk (row_other RI.out B3 (by decide) K6)
              replace B3 := B3n
              replace HB := HBn
              clear B3n HBn K6 HZ
              have HZ := Aside0.mk (Nat.le_refl 0)
              refine hK.out _ _ ?_
              clear hK K
              try simp only [Act.put, List.setIfInBounds_toArray, List.set_cons_zero, List.set_cons_succ]
              refine wpAnyLast_ready (rs := [7]) (by kernel_rfl) (by simp) ?_
              refine AllReadyL.cons_last (o := Oper.mk _ _ _ _ _ _) rfl (by decide) (fun K hK => ?_) ?_
              · refine rg_store HB (by rfl) B4 GE_g4 38 _ _ rfl rfl rfl (by kernel_rfl) rfl (by simp [Value.oneCell']) ?_
                intro w7 B4n HBn K7
                replace E := E.other K7 (Nat.ne_of_lt N1g4.out.1)
                replace D2 := D2.other K7 (Nat.ne_of_lt N1g4.out.2)
                replace B3 := B3.other K7 N34.out
                replace RM := Aside0.mk (row_other RM.out B4 (by decide) K7)
                replace RI := Aside0.mk (row_other RI.out B4 (by decide) K7)
                replace B4 := B4n
                replace HB := HBn
                clear B4n HBn K7 HZ
                have HZ := Aside0.mk (Nat.le_refl 0)
                refine hK.out _ _ ?_
                clear hK K
                try simp only [Act.put, List.setIfInBounds_toArray, List.set_cons_zero, List.set_cons_succ]
                refine wpAnyLast_done (by kernel_rfl) ?_ _
                refine NoPanic.normal ?_
                go_step
                go_step
                gi_meet
                case rel => exact ⟨g3, g4, c1, c2, A1, A2, rfl, rfl, GE_g3, GE_g4, ⟨N1g3.out.1, N1g4.out.1, N34.out⟩, E, D2, B3, B4, RM, RI, HB⟩
              exact AllReadyL.nil
            exact AllReadyL.nil
          exact AllReadyL.nil
        exact AllReadyL.nil
      exact AllReadyL.nil
    exact AllReadyL.nil
  case rest =>
    obtain ⟨g3, g4, c1, c2, A1, A2, rfl, rfl, GE_g3, GE_g4, N134, E1, E2, B3, B4, RM, RI, HB⟩ := hcut
    have r1 := Kd.R_reads' (show Kd.R (Kd.int .u64) 64 wc w.heap.size (fun _ => True) (.slice A1 nw c1) (wordsOf s.size (mkq s)) from Kd.R_of_own (by rw [wordsOf_length, ← HNW.out]; exact RM.out) (fun _ _ => trivial))
    have r2 := Kd.R_reads' (show Kd.R (Kd.int .u64) 64 wc w.heap.size (fun _ => True) (.slice A2 nw c2) (wordsOf s.size (insq (mkq s))) from Kd.R_of_own (by rw [wordsOf_length, ← HNW.out]; exact RI.out) (fun _ _ => trivial))
    have hN : ∀ q, (wordsOf s.size q).length = nw := fun q => by rw [wordsOf_length, HNW.out]
    have Q := Aside0.mk (show QsA s nw w wc g1 g2 g3 g4 A1 A2 c1 c2 from { b1 := E1, b2 := E2, b3 := B3, b4 := B4, hN := hN, C1 := (by have := r1.2.2; rwa [hN] at this), q1 := r1.2.1, C2 := (by have := r2.2.2; rwa [hN] at this), q2 := r2.2.1, hb := HB, ge2 := GE_g2.out })
    have HTC := Aside0.mk (HT.out.step HB.out)
    clear r1 r2 hN E1 E2 B3 B4 RM RI HB GE_g3 GE_g4 N134 L12 HT
    have HB := BelowH.refl wc
    gi_wp2_with (first
      | ((with_reducible refine gate_dstIn (N := 5) rfl ?_); refine ev_allocIn HB rfl rfl (#[.int .i64 0]) 3 ?hr ?_; (case hr => first | (go_simp; done) | (go_simp; rfl)); intro g5 w12 G_g5 GE_g5 B_g5 HBn K_g5 KO_w12; clear HB; have HB := HBn; clear HBn)
      | (((with_reducible refine gate_In (Op.store 3 (.tmp 5) (.const (.int .i64 0))) rfl ?_); refine ev_store1In (i := 0) HB B_g5 GE_g5 rfl 3 _ _ rfl rfl (.int .i64 0) rfl (by simp) (by kernel_rfl) rfl ?_; intro w13 B13 HBn K_w13 KO_w13; clear HB; have HB := HBn; clear HBn); have z1 := (Q.out.b1.below HB.out).cell (i := 0) rfl)
      | (gi_at_call 32; refine (callsIn_of HF (quotes_Texts.calls s _ HS.out)).mono ?_; rintro e w14 ⟨h3, h1, rfl, hO⟩; have HO := Aside0.mk hO; have HBn := HB.step hO.hb.out; clear HB hO z1; have HB := HBn; clear HBn))
    obtain ⟨A, cap, hB3, hC, hcap⟩ := HO.out.out
    have B5 := B13.below HO.out.hb.out
    have LH1 := HO.out.b1.lt
    have P0 := (HTC.out.step HB.out).pos
    have PG : Aside0 (0 < wc.heap.size ∧ 0 < w14.heap.size ∧ h1 < w14.heap.size ∧ wc.heap.size ≤ g5 ∧ wc.heap.size ≤ w14.heap.size ∧ g5 < w14.heap.size) := ⟨⟨HTC.out.pos, P0, LH1, GE_g5.out, HB.le, B5.lt⟩⟩
    have NH : Aside0 (h1 ≠ g5) := ⟨fun e => by
      have a1 := HO.out.b1.out
      have a2 := B5.out
      rw [e, a2] at a1
      simp at a1⟩
    have HBW := HB
    clear HB B_g5 K_g5 K_w13 KO_w12 KO_w13 G_g5 B13
    refine wpIn_rangeFunc_O hro (by decide) (gf := 67) (lb := #[.pointer (some ⟨h3, 0, none⟩), .pointer (some ⟨h1, 0, none⟩)]) rfl f2 (enters_of Tryd.func67 (by kernel_rfl) rfl)
      (quotes_Texts_1.stops F HF (9 - 1) (by decide) h3 h1 s (by have := HS2.out; omega) A cap w14 hB3 hC hcap HO.out.b1 (HTC.out.step HBW.out)) Keep2.trans (fun W l o o' hl ho hc hw => Keep2.putObj P0 LH1 W l o o' hl ho hc hw) (Below.refl _ _) (fun _ => rfl)
      (fun _ pre => QsI wc g5 w14.heap.size ((endU pre : Nat) : Int)) (fun _ _ _ => False)
      (fun _ pre A B row hs hg hr => hs.kept HBW.le hg hr)
      (fun _ _ _ _ _ hs _ _ => hs)
      (fun X pre A k h hk => h)
      (fun X pre A C hX h ht => h.turned hX ht PG.out.2.2.2.2.2 HBW.le)
      ⟨B5, HBW, Nat.le_refl _⟩
      (fun x a' W => ∃ gb, w14.heap.size ≤ gb ∧ Blk W gb #[.int .i64 ((x.1 : Nat) : Int), .int .i64 ((x.2 : Nat) : Int)] 30 ∧ a' = { tmps := #[.string s, .pointer (some ⟨g1, 0, none⟩), .pointer (some ⟨g2, 0, none⟩), .pointer (some ⟨g3, 0, none⟩), .pointer (some ⟨g4, 0, none⟩), .pointer (some ⟨g5, 0, none⟩), .func (.func 67) #[] #[.pointer (some ⟨h3, 0, none⟩), .pointer (some ⟨h1, 0, none⟩)], .pointer (some ⟨gb, 0, none⟩), .bool true, .bool false, u10, u11, u12, u13, .string s, .func (.func 67) #[] #[.pointer (some ⟨h3, 0, none⟩), .pointer (some ⟨h1, 0, none⟩)], .func (.func 67) #[] #[.pointer (some ⟨h3, 0, none⟩), .pointer (some ⟨h1, 0, none⟩)], .bool false, .func (.func 67) #[] #[.pointer (some ⟨h3, 0, none⟩), .pointer (some ⟨h1, 0, none⟩)], .agg #[.int .i64 ((x.1 : Nat) : Int), .int .i64 ((x.2 : Nat) : Int)], undef, undef, undef, undef, undef, undef, undef, undef, undef, undef, undef, undef, undef, undef, undef, undef, undef, undef, undef, undef, undef, undef, undef, undef, undef, undef, undef, undef, undef, undef, undef, undef, undef, undef, undef, undef, undef, undef, undef, undef, undef, undef, undef, undef, undef, undef, undef, undef, undef, undef, undef, undef, undef, undef, undef, undef, undef, undef, undef, undef, undef, undef, undef, undef, undef, undef, undef, undef, undef, undef, undef, undef, undef, undef, undef, undef, undef, undef, undef, undef, undef, undef, undef, undef, undef, undef, undef, undef, undef, undef, undef, undef, undef, undef, undef, undef, undef, undef, undef, undef, undef, undef, undef, undef, undef, undef, undef, undef, undef, undef, undef, undef, undef], defers := [] })
      (fun x a' pre A B row hs hg hr => by
        obtain ⟨gb, h1, h2, h3⟩ := hs
        exact ⟨gb, h1, h2.kept hg (fun r e => (hr r e).2), h3⟩)
      ?assign ?body ?done ?stop
    case assign =>
      intro X l pre x W K hX hI hsp hK
      have HB := hI.hb
      have SZ := Aside0.mk hI.sz
      have HXA := Aside0.mk hX
      clear hX hsp
      have hz : ∀ t : Array Value, (((#[19] : Array Tmp).zip (spanEnc x)).foldl (fun t (p, v) => t.setIfInBounds p v) t) = t.setIfInBounds 19 (.agg #[.int .i64 ((x.1 : Nat) : Int), .int .i64 ((x.2 : Nat) : Int)]) := fun t => by simp [spanEnc]
      rw [hz]
      simp only [List.setIfInBounds_toArray, List.set_cons_succ, List.set_cons_zero]
      clear hz
      gi_wp2_with (first
        | ((with_reducible refine gate_dstIn (N := 7) rfl ?_); refine ev_allocIn HB rfl rfl (#[.int .i64 0, .int .i64 0]) 30 ?hr ?_; (case hr => first | (go_simp; done) | (go_simp; rfl)); intro gb w15 G_gb GE_gb B_gb HBn K_gb KO_w15; clear HB; have HB := HBn; clear HBn)
        | ((with_reducible refine gate_In (Op.store 30 (.tmp 7) (.tmp 19)) rfl ?_); refine ev_storeIn HB B_gb GE_gb rfl 30 _ _ rfl rfl rfl (by kernel_rfl) rfl (by simp [Value.oneCell']) ?_; intro w16 B16 HBn K_w16 KO_w16; clear HB; have HB := HBn; clear HBn))
      have hKO := KO_w15.out.trans KO_w16.out
      have same : ∀ g, g < W.heap.size → w16.heap[g]? = W.heap[g]? := fun g h => (K_w16.out.2 g (by have := G_gb.out; omega)).trans (K_gb.out.block g h)
      have Z := SZ.out
      have q := PG.out
      refine hK _ _ (hKO.from _) (fun k hk => same k (HXA.out k hk).2) ⟨same 0 (by omega), same h1 (by omega), Nat.le_trans K_gb.out.size K_w16.out.1⟩ ?_ ⟨gb, Nat.le_trans SZ.out G_gb.out, B16, rfl⟩
      exact ⟨⟨(same g5 (by omega)).trans hI.b5.out⟩, HB, Nat.le_trans Z (Nat.le_trans K_gb.out.size K_w16.out.1)⟩
    case body =>
      rintro X l pre x a' W hX hl ⟨r, hr⟩ hI ⟨gb, hgb, BX, rfl⟩ hsp
      have SF := QsF.q9_spanF_of s HS2.out HKK.out ((texts_spans s).1 pre x hsp)
      have hend : Aside0 (endU (pre ++ [x]) = x.2 + 1 ∧ x.2 ≤ s.size) := ⟨endU_snoc pre x, ((texts_spans s).1 pre x hsp).hi⟩
      have HXA := Aside0.mk hX
      have SZ := Aside0.mk hI.sz
      clear hr hl hX hsp
      obtain ⟨f, hf⟩ : ∃ f : Int, f = ((x.1 : Nat) : Int) := ⟨_, rfl⟩
      obtain ⟨t, ht⟩ : ∃ t : Int, t = ((x.2 : Nat) : Int) := ⟨_, rfl⟩
      obtain ⟨a, ha⟩ : ∃ a : Int, a = ((endU pre : Nat) : Int) := ⟨_, rfl⟩
      rw [← hf, ← ht] at BX
      rw [← hf, ← ht, ← ha] at SF
      rw [← ha] at hI
      rw [← hf, ← ht]
      have HT2 := Aside0.mk ht
      clear hf ht ha
      have d1 := SF.c1
      have d2 := SF.c2
      have d3 := SF.c3
      have d4 := SF.c4
      have SFA := Aside0.mk SF
      have SK := Aside0.mk (QsF.q9_spanW SF)
      clear SF
      have HBD : Aside0 (Below W.heap.size W W) := ⟨Below.refl _ _⟩
      have I0 := Aside0.mk hI
      have X0 := Aside0.mk BX
      have k5 := hI.b5.cell (i := 0) rfl
      have kx0 := BX.cell (i := 0) rfl
      have kx1 := BX.cell (i := 1) rfl
      have k3a := (Q.out.b3.below hI.hb.out).cell (i := 0) rfl
      have k3b := (Q.out.b3.below hI.hb.out).cell (i := 1) rfl
      have k1 := (Q.out.b1.below hI.hb.out).cell (i := 0) rfl
      clear hI BX
      by_cases hts : t < (s.size : Int)
      · have d5 : decide (t < (s.size : Int)) = true := decide_eq_true hts
        have HG2 := Aside0.mk (SFA.out.v2 hts)
        clear hts
        gi_upto_region 12 with (first
          | (gi_at_call 36; with_reducible refine (CallsIn.inRound l (callsIn_of HF (Q.out.get I0.out.hb _ true SFA.out.v1))).mono ?_; rintro e W1 ⟨rfl, hbq⟩; have I1 := Aside0.mk (I0.out.below hbq); have X1 := Aside0.mk (X0.out.below hbq); have HBDn := Aside0.mk (HBD.out.trans (hbq.mono HBD.out.size)); clear hbq HBD I0 X0 k5 kx0 kx1 k3a k3b k1; have HBD := HBDn; clear HBDn; have k5 := I1.out.b5.cell (i := 0) rfl; have kx0 := X1.out.cell (i := 0) rfl; have kx1 := X1.out.cell (i := 1) rfl; have k3a := (Q.out.b3.below I1.out.hb.out).cell (i := 0) rfl; have k3b := (Q.out.b3.below I1.out.hb.out).cell (i := 1) rfl; have k1 := (Q.out.b1.below I1.out.hb.out).cell (i := 0) rfl)
          | (gi_at_call 36; with_reducible refine (CallsIn.inRound l (callsIn_of HF (Q.out.get I1.out.hb _ true HG2.out))).mono ?_; rintro e W2 ⟨rfl, hbq⟩; have I2 := Aside0.mk (I1.out.below hbq); have X2 := Aside0.mk (X1.out.below hbq); have HBDn := Aside0.mk (HBD.out.trans (hbq.mono HBD.out.size)); clear hbq HBD I1 X1 k5 kx0 kx1 k3a k3b k1; have HBD := HBDn; clear HBDn; have k5 := I2.out.b5.cell (i := 0) rfl; have kx0 := X2.out.cell (i := 0) rfl; have kx1 := X2.out.cell (i := 1) rfl; have k3a := (Q.out.b3.below I2.out.hb.out).cell (i := 0) rfl; have k3b := (Q.out.b3.below I2.out.hb.out).cell (i := 1) rfl; have k1 := (Q.out.b1.below I2.out.hb.out).cell (i := 0) rfl))
        have hdr : Aside0 (Below W2.heap.size W2 W2.drew) := ⟨below_drew (Below.refl _ _)⟩
        have In := Aside0.mk (I2.out.below hdr.out)
        have Xn := Aside0.mk (X2.out.below hdr.out)
        have HBDn := Aside0.mk (HBD.out.trans (hdr.out.mono HBD.out.size))
        clear I2 X2 HBD hdr k5 kx0 kx1 k3a k3b k1
        have I2 := In
        have X2 := Xn
        have HBD := HBDn
        clear In Xn HBDn
        refine wpIn_region_last_drew HF (S := fun W' => Blk W' g3 #[.int .i64 s.size, .slice A1 nw c1] 38 ∧ Blk W' g4 #[.int .i64 s.size, .slice A2 nw c2] 38 ∧ Blk W' g5 #[.int .i64 a] 3 ∧ Blk W' gb #[.int .i64 f, .int .i64 t] 30) (ds := []) (by kernel_rfl) (by kernel_rfl) ⟨Q.out.b3.below I2.out.hb.out, Q.out.b4.below I2.out.hb.out, I2.out.b5, X2.out⟩ (fun hS => ?_)
        refine wpAnyLast_take (i := 0) (oi := Oper.mk _ _ _ _ _ _) rfl (by kernel_rfl) (by kernel_rfl) (by kernel_rfl) (by kernel_rfl) (by kernel_rfl) (fun _ _ _ h => h) (rg_load (by rfl) (fun _ hS => hS.1) 38 _ rfl rfl Tryd.underlying38 rfl (by kernel_rfl)) hS ?_
        try simp only [Act.put, List.setIfInBounds_toArray, List.set_cons_zero, List.set_cons_succ]
        refine wpAnyLast_take (i := 1) (oi := Oper.mk _ _ _ _ _ _) rfl (by kernel_rfl) (by kernel_rfl) (by kernel_rfl) (by kernel_rfl) (by kernel_rfl) (fun _ _ _ h => h) (rg_load1 (by rfl) (fun _ hS => hS.2.2.1.cell (i := 0) rfl) 3 _ rfl rfl (fun _ => by simp [isAgg, run_underlying Tryd.underlying3])) hS ?_
        try simp only [Act.put, List.setIfInBounds_toArray, List.set_cons_zero, List.set_cons_succ]
        refine' wpAnyLast_take (i := 2) (oi := Oper.mk _ _ _ _ _ _) rfl (by kernel_rfl) (by kernel_rfl) (by kernel_rfl) (by kernel_rfl) (by kernel_rfl) (fun _ _ _ h => h) (Or.inl ⟨by rfl, ?hy1⟩) hS ?rest1
        case hy1 => (intro w hSw; (try dsimp only at hSw); first | (go_simp; done) | (go_simp; with_reducible rfl))
        try simp only [Act.put, List.setIfInBounds_toArray, List.set_cons_zero, List.set_cons_succ]
        refine wpAnyLast_take (i := 3) (oi := Oper.mk _ _ _ _ _ _) rfl (by kernel_rfl) (by kernel_rfl) (by kernel_rfl) (by kernel_rfl) (by kernel_rfl) (fun _ _ _ h => h) (rg_load1 (by rfl) (fun _ hS => hS.2.2.2.cell (i := 0) rfl) 3 _ rfl rfl (fun _ => by simp [isAgg, run_underlying Tryd.underlying3])) hS ?_
        try simp only [Act.put, List.setIfInBounds_toArray, List.set_cons_zero, List.set_cons_succ]
        refine' wpAnyLast_take (i := 4) (oi := Oper.mk _ _ _ _ _ _) rfl (by kernel_rfl) (by kernel_rfl) (by kernel_rfl) (by kernel_rfl) (by kernel_rfl) (fun _ _ _ h => h) (Or.inl ⟨by rfl, ?hy2⟩) hS ?rest2
        case hy2 => (intro w hSw; (try dsimp only at hSw); first | (go_simp; done) | (go_simp; with_reducible rfl))
        try simp only [Act.put, List.setIfInBounds_toArray, List.set_cons_zero, List.set_cons_succ]
        refine wpAnyLast_ready (rs := [5]) (by kernel_rfl) (by simp) ?_
        refine AllReadyL.cons (o := Oper.mk _ _ _ _ _ _) rfl (by decide) (fun K hK => ?_) ?_
        · refine rg_call (by rfl) _ _ (.int .i64 0) (by first | (go_simp; done) | (go_simp; rfl)) (Q.out.cnt I2.out.hb _ _ 0 SK.out.1) ?_
          intro W' hb
          have In := Aside0.mk (I2.out.below hb.out)
          have Xn := Aside0.mk (X2.out.below hb.out)
          have HBDn := Aside0.mk (HBD.out.trans (hb.out.mono HBD.out.size))
          clear I2 X2 HBD
          have I2 := In
          have X2 := Xn
          have HBD := HBDn
          clear In Xn HBDn
          refine hK.out _ _ ⟨Q.out.b3.below I2.out.hb.out, Q.out.b4.below I2.out.hb.out, I2.out.b5, X2.out⟩ (fun hS => ?_)
          clear hK K hb
          try simp only [Act.put, List.setIfInBounds_toArray, List.set_cons_zero, List.set_cons_succ]
          refine' wpAnyLast_take (i := 6) (oi := Oper.mk _ _ _ _ _ _) rfl (by kernel_rfl) (by kernel_rfl) (by kernel_rfl) (by kernel_rfl) (by kernel_rfl) (fun _ _ _ h => h) (Or.inl ⟨by rfl, ?hy3⟩) hS ?rest3
          case hy3 => (intro w hSw; (try dsimp only at hSw); first | (go_simp; done) | (go_simp; with_reducible rfl))
          try simp only [Act.put, List.setIfInBounds_toArray, List.set_cons_zero, List.set_cons_succ]
          refine' wpAnyLast_take (i := 7) (oi := Oper.mk _ _ _ _ _ _) rfl (by kernel_rfl) (by kernel_rfl) (by kernel_rfl) (by kernel_rfl) (by kernel_rfl) (fun _ _ _ h => h) (Or.inl ⟨by rfl, ?hy4⟩) hS ?rest4
          case hy4 => (intro w hSw; (try dsimp only at hSw); first | (go_simp; done) | (go_simp; with_reducible rfl))
          try simp only [Act.put, List.setIfInBounds_toArray, List.set_cons_zero, List.set_cons_succ]
          refine wpAnyLast_take (i := 8) (oi := Oper.mk _ _ _ _ _ _) rfl (by kernel_rfl) (by kernel_rfl) (by kernel_rfl) (by kernel_rfl) (by kernel_rfl) (fun _ _ _ h => h) (rg_load (by rfl) (fun _ hS => hS.2.1) 38 _ rfl rfl Tryd.underlying38 rfl (by kernel_rfl)) hS ?_
          try simp only [Act.put, List.setIfInBounds_toArray, List.set_cons_zero, List.set_cons_succ]
          refine wpAnyLast_take (i := 9) (oi := Oper.mk _ _ _ _ _ _) rfl (by kernel_rfl) (by kernel_rfl) (by kernel_rfl) (by kernel_rfl) (by kernel_rfl) (fun _ _ _ h => h) (rg_load1 (by rfl) (fun _ hS => hS.2.2.1.cell (i := 0) rfl) 3 _ rfl rfl (fun _ => by simp [isAgg, run_underlying Tryd.underlying3])) hS ?_
          try simp only [Act.put, List.setIfInBounds_toArray, List.set_cons_zero, List.set_cons_succ]
          refine' wpAnyLast_take (i := 10) (oi := Oper.mk _ _ _ _ _ _) rfl (by kernel_rfl) (by kernel_rfl) (by kernel_rfl) (by kernel_rfl) (by kernel_rfl) (fun _ _ _ h => h) (Or.inl ⟨by rfl, ?hy5⟩) hS ?rest5
          case hy5 => (intro w hSw; (try dsimp only at hSw); first | (go_simp; done) | (go_simp; with_reducible rfl))
          try simp only [Act.put, List.setIfInBounds_toArray, List.set_cons_zero, List.set_cons_succ]
          refine wpAnyLast_take (i := 11) (oi := Oper.mk _ _ _ _ _ _) rfl (by kernel_rfl) (by kernel_rfl) (by kernel_rfl) (by kernel_rfl) (by kernel_rfl) (fun _ _ _ h => h) (rg_load1 (by rfl) (fun _ hS => hS.2.2.2.cell (i := 0) rfl) 3 _ rfl rfl (fun _ => by simp [isAgg, run_underlying Tryd.underlying3])) hS ?_
          try simp only [Act.put, List.setIfInBounds_toArray, List.set_cons_zero, List.set_cons_succ]
          refine' wpAnyLast_take (i := 12) (oi := Oper.mk _ _ _ _ _ _) rfl (by kernel_rfl) (by kernel_rfl) (by kernel_rfl) (by kernel_rfl) (by kernel_rfl) (fun _ _ _ h => h) (Or.inl ⟨by rfl, ?hy6⟩) hS ?rest6
          case hy6 => (intro w hSw; (try dsimp only at hSw); first | (go_simp; done) | (go_simp; with_reducible rfl))
          try simp only [Act.put, List.setIfInBounds_toArray, List.set_cons_zero, List.set_cons_succ]
          refine wpAnyLast_ready (rs := [13]) (by kernel_rfl) (by simp) ?_
          refine AllReadyL.cons (o := Oper.mk _ _ _ _ _ _) rfl (by decide) (fun K hK => ?_) ?_
          · refine rg_call (by rfl) _ _ (.int .i64 0) (by first | (go_simp; done) | (go_simp; rfl)) (Q.out.cntI I2.out.hb _ _ 0 SK.out.2.1) ?_
            intro W' hb
            have In := Aside0.mk (I2.out.below hb.out)
            have Xn := Aside0.mk (X2.out.below hb.out)
            have HBDn := Aside0.mk (HBD.out.trans (hb.out.mono HBD.out.size))
            clear I2 X2 HBD
            have I2 := In
            have X2 := Xn
            have HBD := HBDn
            clear In Xn HBDn
            refine hK.out _ _ ⟨Q.out.b3.below I2.out.hb.out, Q.out.b4.below I2.out.hb.out, I2.out.b5, X2.out⟩ (fun hS => ?_)
            clear hK K hb
            try simp only [Act.put, List.setIfInBounds_toArray, List.set_cons_zero, List.set_cons_succ]
            refine' wpAnyLast_take (i := 14) (oi := Oper.mk _ _ _ _ _ _) rfl (by kernel_rfl) (by kernel_rfl) (by kernel_rfl) (by kernel_rfl) (by kernel_rfl) (fun _ _ _ h => h) (Or.inl ⟨by rfl, ?hy7⟩) hS ?rest7
            case hy7 => (intro w hSw; (try dsimp only at hSw); first | (go_simp; done) | (go_simp; with_reducible rfl))
            try simp only [Act.put, List.setIfInBounds_toArray, List.set_cons_zero, List.set_cons_succ]
            refine' wpAnyLast_take (i := 15) (oi := Oper.mk _ _ _ _ _ _) rfl (by kernel_rfl) (by kernel_rfl) (by kernel_rfl) (by kernel_rfl) (by kernel_rfl) (fun _ _ _ h => h) (Or.inl ⟨by rfl, ?hy8⟩) hS ?rest8
            case hy8 => (intro w hSw; (try dsimp only at hSw); first | (go_simp; done) | (go_simp; with_reducible rfl))
            try simp only [Act.put, List.setIfInBounds_toArray, List.set_cons_zero, List.set_cons_succ]
            refine' wpAnyLast_take (i := 16) (oi := Oper.mk _ _ _ _ _ _) rfl (by kernel_rfl) (by kernel_rfl) (by kernel_rfl) (by kernel_rfl) (by kernel_rfl) (fun _ _ _ h => h) (Or.inl ⟨by rfl, ?hy9⟩) hS ?rest9
            case hy9 => (intro w hSw; (try dsimp only at hSw); first | (go_simp; done) | (go_simp; with_reducible rfl))
            try simp only [Act.put, List.setIfInBounds_toArray, List.set_cons_zero, List.set_cons_succ]
            refine wpAnyLast_take (i := 17) (oi := Oper.mk _ _ _ _ _ _) rfl (by kernel_rfl) (by kernel_rfl) (by kernel_rfl) (by kernel_rfl) (by kernel_rfl) (fun _ _ _ h => h) (rg_load (by rfl) (fun _ hS => hS.1) 38 _ rfl rfl Tryd.underlying38 rfl (by kernel_rfl)) hS ?_
            try simp only [Act.put, List.setIfInBounds_toArray, List.set_cons_zero, List.set_cons_succ]
            refine' wpAnyLast_take (i := 18) (oi := Oper.mk _ _ _ _ _ _) rfl (by kernel_rfl) (by kernel_rfl) (by kernel_rfl) (by kernel_rfl) (by kernel_rfl) (fun _ _ _ h => h) (Or.inl ⟨by rfl, ?hy10⟩) hS ?rest10
            case hy10 => (intro w hSw; (try dsimp only at hSw); first | (go_simp; done) | (go_simp; with_reducible rfl))
            try simp only [Act.put, List.setIfInBounds_toArray, List.set_cons_zero, List.set_cons_succ]
            refine wpAnyLast_take (i := 19) (oi := Oper.mk _ _ _ _ _ _) rfl (by kernel_rfl) (by kernel_rfl) (by kernel_rfl) (by kernel_rfl) (by kernel_rfl) (fun _ _ _ h => h) (rg_load1 (by rfl) (fun _ hS => hS.2.2.2.cell (i := 0) rfl) 3 _ rfl rfl (fun _ => by simp [isAgg, run_underlying Tryd.underlying3])) hS ?_
            try simp only [Act.put, List.setIfInBounds_toArray, List.set_cons_zero, List.set_cons_succ]
            refine' wpAnyLast_take (i := 20) (oi := Oper.mk _ _ _ _ _ _) rfl (by kernel_rfl) (by kernel_rfl) (by kernel_rfl) (by kernel_rfl) (by kernel_rfl) (fun _ _ _ h => h) (Or.inl ⟨by rfl, ?hy11⟩) hS ?rest11
            case hy11 => (intro w hSw; (try dsimp only at hSw); first | (go_simp; done) | (go_simp; with_reducible rfl))
            try simp only [Act.put, List.setIfInBounds_toArray, List.set_cons_zero, List.set_cons_succ]
            refine wpAnyLast_take (i := 21) (oi := Oper.mk _ _ _ _ _ _) rfl (by kernel_rfl) (by kernel_rfl) (by kernel_rfl) (by kernel_rfl) (by kernel_rfl) (fun _ _ _ h => h) (rg_load1 (by rfl) (fun _ hS => hS.2.2.2.cell (i := 1) rfl) 3 _ rfl rfl (fun _ => by simp [isAgg, run_underlying Tryd.underlying3])) hS ?_
            try simp only [Act.put, List.setIfInBounds_toArray, List.set_cons_zero, List.set_cons_succ]
            refine wpAnyLast_ready (rs := [22]) (by kernel_rfl) (by simp) ?_
            refine AllReadyL.cons (o := Oper.mk _ _ _ _ _ _) rfl (by decide) (fun K hK => ?_) ?_
            · refine rg_call (by rfl) _ _ (.int .i64 0) (by first | (go_simp; done) | (go_simp; rfl)) (Q.out.cnt I2.out.hb _ _ 0 SFA.out.k3) ?_
              intro W' hb
              have In := Aside0.mk (I2.out.below hb.out)
              have Xn := Aside0.mk (X2.out.below hb.out)
              have HBDn := Aside0.mk (HBD.out.trans (hb.out.mono HBD.out.size))
              clear I2 X2 HBD
              have I2 := In
              have X2 := Xn
              have HBD := HBDn
              clear In Xn HBDn
              refine hK.out _ _ ⟨Q.out.b3.below I2.out.hb.out, Q.out.b4.below I2.out.hb.out, I2.out.b5, X2.out⟩ (fun hS => ?_)
              clear hK K hb
              try simp only [Act.put, List.setIfInBounds_toArray, List.set_cons_zero, List.set_cons_succ]
              refine' wpAnyLast_take (i := 23) (oi := Oper.mk _ _ _ _ _ _) rfl (by kernel_rfl) (by kernel_rfl) (by kernel_rfl) (by kernel_rfl) (by kernel_rfl) (fun _ _ _ h => h) (Or.inl ⟨by rfl, ?hy12⟩) hS ?rest12
              case hy12 => (intro w hSw; (try dsimp only at hSw); first | (go_simp; done) | (go_simp; with_reducible rfl))
              try simp only [Act.put, List.setIfInBounds_toArray, List.set_cons_zero, List.set_cons_succ]
              refine' wpAnyLast_take (i := 24) (oi := Oper.mk _ _ _ _ _ _) rfl (by kernel_rfl) (by kernel_rfl) (by kernel_rfl) (by kernel_rfl) (by kernel_rfl) (fun _ _ _ h => h) (Or.inl ⟨by rfl, ?hy13⟩) hS ?rest13
              case hy13 => (intro w hSw; (try dsimp only at hSw); first | (go_simp; done) | (go_simp; with_reducible rfl))
              try simp only [Act.put, List.setIfInBounds_toArray, List.set_cons_zero, List.set_cons_succ]
              refine' wpAnyLast_take (i := 25) (oi := Oper.mk _ _ _ _ _ _) rfl (by kernel_rfl) (by kernel_rfl) (by kernel_rfl) (by kernel_rfl) (by kernel_rfl) (fun _ _ _ h => h) (Or.inl ⟨by rfl, ?hy14⟩) hS ?rest14
              case hy14 => (intro w hSw; (try dsimp only at hSw); first | (go_simp; done) | (go_simp; with_reducible rfl))
              try simp only [Act.put, List.setIfInBounds_toArray, List.set_cons_zero, List.set_cons_succ]
              refine wpAnyLast_take (i := 26) (oi := Oper.mk _ _ _ _ _ _) rfl (by kernel_rfl) (by kernel_rfl) (by kernel_rfl) (by kernel_rfl) (by kernel_rfl) (fun _ _ _ h => h) (rg_load (by rfl) (fun _ hS => hS.2.1) 38 _ rfl rfl Tryd.underlying38 rfl (by kernel_rfl)) hS ?_
              try simp only [Act.put, List.setIfInBounds_toArray, List.set_cons_zero, List.set_cons_succ]
              refine' wpAnyLast_take (i := 27) (oi := Oper.mk _ _ _ _ _ _) rfl (by kernel_rfl) (by kernel_rfl) (by kernel_rfl) (by kernel_rfl) (by kernel_rfl) (fun _ _ _ h => h) (Or.inl ⟨by rfl, ?hy15⟩) hS ?rest15
              case hy15 => (intro w hSw; (try dsimp only at hSw); first | (go_simp; done) | (go_simp; with_reducible rfl))
              try simp only [Act.put, List.setIfInBounds_toArray, List.set_cons_zero, List.set_cons_succ]
              refine wpAnyLast_take (i := 28) (oi := Oper.mk _ _ _ _ _ _) rfl (by kernel_rfl) (by kernel_rfl) (by kernel_rfl) (by kernel_rfl) (by kernel_rfl) (fun _ _ _ h => h) (rg_load1 (by rfl) (fun _ hS => hS.2.2.2.cell (i := 0) rfl) 3 _ rfl rfl (fun _ => by simp [isAgg, run_underlying Tryd.underlying3])) hS ?_
              try simp only [Act.put, List.setIfInBounds_toArray, List.set_cons_zero, List.set_cons_succ]
              refine' wpAnyLast_take (i := 29) (oi := Oper.mk _ _ _ _ _ _) rfl (by kernel_rfl) (by kernel_rfl) (by kernel_rfl) (by kernel_rfl) (by kernel_rfl) (fun _ _ _ h => h) (Or.inl ⟨by rfl, ?hy16⟩) hS ?rest16
              case hy16 => (intro w hSw; (try dsimp only at hSw); first | (go_simp; done) | (go_simp; with_reducible rfl))
              try simp only [Act.put, List.setIfInBounds_toArray, List.set_cons_zero, List.set_cons_succ]
              refine' wpAnyLast_take (i := 30) (oi := Oper.mk _ _ _ _ _ _) rfl (by kernel_rfl) (by kernel_rfl) (by kernel_rfl) (by kernel_rfl) (by kernel_rfl) (fun _ _ _ h => h) (Or.inl ⟨by rfl, ?hy17⟩) hS ?rest17
              case hy17 => (intro w hSw; (try dsimp only at hSw); first | (go_simp; done) | (go_simp; with_reducible rfl))
              try simp only [Act.put, List.setIfInBounds_toArray, List.set_cons_zero, List.set_cons_succ]
              refine wpAnyLast_take (i := 31) (oi := Oper.mk _ _ _ _ _ _) rfl (by kernel_rfl) (by kernel_rfl) (by kernel_rfl) (by kernel_rfl) (by kernel_rfl) (fun _ _ _ h => h) (rg_load1 (by rfl) (fun _ hS => hS.2.2.2.cell (i := 1) rfl) 3 _ rfl rfl (fun _ => by simp [isAgg, run_underlying Tryd.underlying3])) hS ?_
              try simp only [Act.put, List.setIfInBounds_toArray, List.set_cons_zero, List.set_cons_succ]
              refine' wpAnyLast_take (i := 33) (oi := Oper.mk _ _ _ _ _ _) rfl (by kernel_rfl) (by kernel_rfl) (by kernel_rfl) (by kernel_rfl) (by kernel_rfl) (fun _ _ _ h => h) (Or.inl ⟨by rfl, ?hy18⟩) hS ?rest18
              case hy18 => (intro w hSw; (try dsimp only at hSw); first | (go_simp; done) | (go_simp; with_reducible rfl))
              try simp only [Act.put, List.setIfInBounds_toArray, List.set_cons_zero, List.set_cons_succ]
              refine wpAnyLast_take (i := 34) (oi := Oper.mk _ _ _ _ _ _) rfl (by kernel_rfl) (by kernel_rfl) (by kernel_rfl) (by kernel_rfl) (by kernel_rfl) (fun _ _ _ h => h) (rg_load1 (by rfl) (fun _ hS => hS.2.2.2.cell (i := 1) rfl) 3 _ rfl rfl (fun _ => by simp [isAgg, run_underlying Tryd.underlying3])) hS ?_
              try simp only [Act.put, List.setIfInBounds_toArray, List.set_cons_zero, List.set_cons_succ]
              refine' wpAnyLast_take (i := 35) (oi := Oper.mk _ _ _ _ _ _) rfl (by kernel_rfl) (by kernel_rfl) (by kernel_rfl) (by kernel_rfl) (by kernel_rfl) (fun _ _ _ h => h) (Or.inl ⟨by rfl, ?hy19⟩) hS ?rest19
              case hy19 => (intro w hSw; (try dsimp only at hSw); first | (go_simp; done) | (go_simp; with_reducible rfl))
              try simp only [Act.put, List.setIfInBounds_toArray, List.set_cons_zero, List.set_cons_succ]
              refine wpAnyLast_take (i := 36) (oi := Oper.mk _ _ _ _ _ _) rfl (by kernel_rfl) (by kernel_rfl) (by kernel_rfl) (by kernel_rfl) (by kernel_rfl) (fun _ _ _ h => h) (rg_load1 (by rfl) (fun _ hS => hS.2.2.2.cell (i := 0) rfl) 3 _ rfl rfl (fun _ => by simp [isAgg, run_underlying Tryd.underlying3])) hS ?_
              try simp only [Act.put, List.setIfInBounds_toArray, List.set_cons_zero, List.set_cons_succ]
              refine' wpAnyLast_take (i := 37) (oi := Oper.mk _ _ _ _ _ _) rfl (by kernel_rfl) (by kernel_rfl) (by kernel_rfl) (by kernel_rfl) (by kernel_rfl) (fun _ _ _ h => h) (Or.inl ⟨by rfl, ?hy20⟩) hS ?rest20
              case hy20 => (intro w hSw; (try dsimp only at hSw); first | (go_simp; done) | (go_simp; with_reducible rfl))
              try simp only [Act.put, List.setIfInBounds_toArray, List.set_cons_zero, List.set_cons_succ]
              refine' wpAnyLast_take (i := 38) (oi := Oper.mk _ _ _ _ _ _) rfl (by kernel_rfl) (by kernel_rfl) (by kernel_rfl) (by kernel_rfl) (by kernel_rfl) (fun _ _ _ h => h) (Or.inl ⟨by rfl, ?hy21⟩) hS ?rest21
              case hy21 => (intro w hSw; (try dsimp only at hSw); first | (go_simp; done) | (go_simp; with_reducible rfl))
              try simp only [Act.put, List.setIfInBounds_toArray, List.set_cons_zero, List.set_cons_succ]
              refine wpAnyLast_ready (rs := [32]) (by kernel_rfl) (by simp) ?_
              refine AllReadyL.cons (o := Oper.mk _ _ _ _ _ _) rfl (by decide) (fun K hK => ?_) ?_
              · refine rg_call (by rfl) _ _ (.int .i64 (IntKind.i64.wrap (IntKind.i64.wrap (t - f) + 1))) (by first | (go_simp; done) | (go_simp; rfl)) (Q.out.cntI I2.out.hb _ _ _ SK.out.2.2) ?_
                intro W' hb
                have In := Aside0.mk (I2.out.below hb.out)
                have Xn := Aside0.mk (X2.out.below hb.out)
                have HBDn := Aside0.mk (HBD.out.trans (hb.out.mono HBD.out.size))
                clear I2 X2 HBD
                have I2 := In
                have X2 := Xn
                have HBD := HBDn
                clear In Xn HBDn
                refine hK.out _ _ ⟨Q.out.b3.below I2.out.hb.out, Q.out.b4.below I2.out.hb.out, I2.out.b5, X2.out⟩ (fun hS => ?_)
                clear hK K hb
                try simp only [Act.put, List.setIfInBounds_toArray, List.set_cons_zero, List.set_cons_succ]
                refine' wpAnyLast_take (i := 39) (oi := Oper.mk _ _ _ _ _ _) rfl (by kernel_rfl) (by kernel_rfl) (by kernel_rfl) (by kernel_rfl) (by kernel_rfl) (fun _ _ _ h => h) (Or.inl ⟨by rfl, ?hy22⟩) hS ?rest22
                case hy22 => (intro w hSw; (try dsimp only at hSw); first | (go_simp; done) | (go_simp; with_reducible rfl))
                try simp only [Act.put, List.setIfInBounds_toArray, List.set_cons_zero, List.set_cons_succ]
                refine' wpAnyLast_take (i := 40) (oi := Oper.mk _ _ _ _ _ _) rfl (by kernel_rfl) (by kernel_rfl) (by kernel_rfl) (by kernel_rfl) (by kernel_rfl) (fun _ _ _ h => h) (Or.inl ⟨by rfl, ?hy23⟩) hS ?rest23
                case hy23 => (intro w hSw; (try dsimp only at hSw); first | (go_simp; done) | (go_simp; with_reducible rfl))
                try simp only [Act.put, List.setIfInBounds_toArray, List.set_cons_zero, List.set_cons_succ]
                refine' wpAnyLast_take (i := 41) (oi := Oper.mk _ _ _ _ _ _) rfl (by kernel_rfl) (by kernel_rfl) (by kernel_rfl) (by kernel_rfl) (by kernel_rfl) (fun _ _ _ h => h) (Or.inl ⟨by rfl, ?hy24⟩) hS ?rest24
                case hy24 => (intro w hSw; (try dsimp only at hSw); first | (go_simp; done) | (go_simp; with_reducible rfl))
                try simp only [Act.put, List.setIfInBounds_toArray, List.set_cons_zero, List.set_cons_succ]
                refine wpAnyLast_take (i := 42) (oi := Oper.mk _ _ _ _ _ _) rfl (by kernel_rfl) (by kernel_rfl) (by kernel_rfl) (by kernel_rfl) (by kernel_rfl) (fun _ _ _ h => h) (rg_load (by rfl) (fun _ hS => hS.2.1) 38 _ rfl rfl Tryd.underlying38 rfl (by kernel_rfl)) hS ?_
                try simp only [Act.put, List.setIfInBounds_toArray, List.set_cons_zero, List.set_cons_succ]
                refine' wpAnyLast_take (i := 43) (oi := Oper.mk _ _ _ _ _ _) rfl (by kernel_rfl) (by kernel_rfl) (by kernel_rfl) (by kernel_rfl) (by kernel_rfl) (fun _ _ _ h => h) (Or.inl ⟨by rfl, ?hy25⟩) hS ?rest25
                case hy25 => (intro w hSw; (try dsimp only at hSw); first | (go_simp; done) | (go_simp; with_reducible rfl))
                try simp only [Act.put, List.setIfInBounds_toArray, List.set_cons_zero, List.set_cons_succ]
                refine wpAnyLast_take (i := 44) (oi := Oper.mk _ _ _ _ _ _) rfl (by kernel_rfl) (by kernel_rfl) (by kernel_rfl) (by kernel_rfl) (by kernel_rfl) (fun _ _ _ h => h) (rg_load1 (by rfl) (fun _ hS => hS.2.2.2.cell (i := 1) rfl) 3 _ rfl rfl (fun _ => by simp [isAgg, run_underlying Tryd.underlying3])) hS ?_
                try simp only [Act.put, List.setIfInBounds_toArray, List.set_cons_zero, List.set_cons_succ]
                refine wpAnyLast_ready (rs := [45]) (by kernel_rfl) (by simp) ?_
                refine AllReadyL.cons (o := Oper.mk _ _ _ _ _ _) rfl (by decide) (fun K hK => ?_) ?_
                · refine rg_call (by rfl) _ _ (.bool false) (by first | (go_simp; done) | (go_simp; rfl)) (Q.out.getI I2.out.hb _ false SFA.out.v3) ?_
                  intro W' hb
                  have In := Aside0.mk (I2.out.below hb.out)
                  have Xn := Aside0.mk (X2.out.below hb.out)
                  have HBDn := Aside0.mk (HBD.out.trans (hb.out.mono HBD.out.size))
                  clear I2 X2 HBD
                  have I2 := In
                  have X2 := Xn
                  have HBD := HBDn
                  clear In Xn HBDn
                  refine hK.out _ _ ⟨Q.out.b3.below I2.out.hb.out, Q.out.b4.below I2.out.hb.out, I2.out.b5, X2.out⟩ (fun hS => ?_)
                  clear hK K hb
                  try simp only [Act.put, List.setIfInBounds_toArray, List.set_cons_zero, List.set_cons_succ]
                  refine' wpAnyLast_take (i := 46) (oi := Oper.mk _ _ _ _ _ _) rfl (by kernel_rfl) (by kernel_rfl) (by kernel_rfl) (by kernel_rfl) (by kernel_rfl) (fun _ _ _ h => h) (Or.inl ⟨by rfl, ?hy26⟩) hS ?rest26
                  case hy26 => (intro w hSw; (try dsimp only at hSw); first | (go_simp; done) | (go_simp; with_reducible rfl))
                  try simp only [Act.put, List.setIfInBounds_toArray, List.set_cons_zero, List.set_cons_succ]
                  refine wpAnyLast_done (by kernel_rfl) ?_ _
                  refine Straight.normal ?_
                  have b5 := I2.out.b5
                  have k5 := b5.cell (i := 0) rfl
                  have kx1 := X2.out.cell (i := 1) rfl
                  have HB := I2.out.hb
                  gi_wp2_with (first
                    | ((with_reducible refine gate_In (Op.store 3 (.tmp 5) (.tmp 118)) rfl ?_); refine ev_store1In (i := 0) HB b5 GE_g5 rfl 3 _ _ rfl rfl _ rfl (by simp) (by kernel_rfl) rfl ?_; intro w26 B26 HB26 K_w26 KO_w26))
                  have q := PG.out
                  have Z := SZ.out
                  have nh := NH.out
                  refine ⟨((keepsOthers_below HBD.out).trans KO_w26.out).from _, fun k hk => (K_w26.out.2 k (fun c => by have := HXA.out k hk; omega)).trans (HBD.out.block k (HXA.out k hk).2), ⟨(K_w26.out.2 0 (by omega)).trans (HBD.out.block 0 (by omega)), (K_w26.out.2 h1 nh).trans (HBD.out.block h1 (by omega)), Nat.le_trans HBD.out.size K_w26.out.1⟩, ?_, HB26, Nat.le_trans I2.out.sz K_w26.out.1⟩
                  rw [show wrap64 (t + 1) = ((endU (pre ++ [x]) : Nat) : Int) by have e1 := hend.out.1; have e2 := hend.out.2; have e3 := HT2.out; have e4 := HS2.out; rw [e1, e3]; unfold wrap64; omega] at B26
                  exact B26
                exact AllReadyL.nil
              exact AllReadyL.nil
            exact AllReadyL.nil
          exact AllReadyL.nil
        exact AllReadyL.nil
      · have d5 : decide (t < (s.size : Int)) = false := decide_eq_false hts
        clear hts
        gi_upto_region 12 with (first
          | (gi_at_call 36; with_reducible refine (CallsIn.inRound l (callsIn_of HF (Q.out.get I0.out.hb _ true SFA.out.v1))).mono ?_; rintro e W1 ⟨rfl, hbq⟩; have I2 := Aside0.mk (I0.out.below hbq); have X2 := Aside0.mk (X0.out.below hbq); have HBDn := Aside0.mk (HBD.out.trans (hbq.mono HBD.out.size)); clear hbq HBD I0 X0 k5 kx0 kx1 k3a k3b k1; have HBD := HBDn; clear HBDn; have k5 := I2.out.b5.cell (i := 0) rfl; have kx0 := X2.out.cell (i := 0) rfl; have kx1 := X2.out.cell (i := 1) rfl; have k3a := (Q.out.b3.below I2.out.hb.out).cell (i := 0) rfl; have k3b := (Q.out.b3.below I2.out.hb.out).cell (i := 1) rfl; have k1 := (Q.out.b1.below I2.out.hb.out).cell (i := 0) rfl))
        have hdr : Aside0 (Below W1.heap.size W1 W1.drew) := ⟨below_drew (Below.refl _ _)⟩
        have In := Aside0.mk (I2.out.below hdr.out)
        have Xn := Aside0.mk (X2.out.below hdr.out)
        have HBDn := Aside0.mk (HBD.out.trans (hdr.out.mono HBD.out.size))
        clear I2 X2 HBD hdr k5 kx0 kx1 k3a k3b k1
        have I2 := In
        have X2 := Xn
        have HBD := HBDn
        clear In Xn HBDn
        refine wpIn_region_last_drew HF (S := fun W' => Blk W' g3 #[.int .i64 s.size, .slice A1 nw c1] 38 ∧ Blk W' g4 #[.int .i64 s.size, .slice A2 nw c2] 38 ∧ Blk W' g5 #[.int .i64 a] 3 ∧ Blk W' gb #[.int .i64 f, .int .i64 t] 30) (ds := []) (by kernel_rfl) (by kernel_rfl) ⟨Q.out.b3.below I2.out.hb.out, Q.out.b4.below I2.out.hb.out, I2.out.b5, X2.out⟩ (fun hS => ?_)
        refine wpAnyLast_take (i := 0) (oi := Oper.mk _ _ _ _ _ _) rfl (by kernel_rfl) (by kernel_rfl) (by kernel_rfl) (by kernel_rfl) (by kernel_rfl) (fun _ _ _ h => h) (rg_load (by rfl) (fun _ hS => hS.1) 38 _ rfl rfl Tryd.underlying38 rfl (by kernel_rfl)) hS ?_
        try simp only [Act.put, List.setIfInBounds_toArray, List.set_cons_zero, List.set_cons_succ]
        refine wpAnyLast_take (i := 1) (oi := Oper.mk _ _ _ _ _ _) rfl (by kernel_rfl) (by kernel_rfl) (by kernel_rfl) (by kernel_rfl) (by kernel_rfl) (fun _ _ _ h => h) (rg_load1 (by rfl) (fun _ hS => hS.2.2.1.cell (i := 0) rfl) 3 _ rfl rfl (fun _ => by simp [isAgg, run_underlying Tryd.underlying3])) hS ?_
        try simp only [Act.put, List.setIfInBounds_toArray, List.set_cons_zero, List.set_cons_succ]
        refine' wpAnyLast_take (i := 2) (oi := Oper.mk _ _ _ _ _ _) rfl (by kernel_rfl) (by kernel_rfl) (by kernel_rfl) (by kernel_rfl) (by kernel_rfl) (fun _ _ _ h => h) (Or.inl ⟨by rfl, ?hy27⟩) hS ?rest27
        case hy27 => (intro w hSw; (try dsimp only at hSw); first | (go_simp; done) | (go_simp; with_reducible rfl))
        try simp only [Act.put, List.setIfInBounds_toArray, List.set_cons_zero, List.set_cons_succ]
        refine wpAnyLast_take (i := 3) (oi := Oper.mk _ _ _ _ _ _) rfl (by kernel_rfl) (by kernel_rfl) (by kernel_rfl) (by kernel_rfl) (by kernel_rfl) (fun _ _ _ h => h) (rg_load1 (by rfl) (fun _ hS => hS.2.2.2.cell (i := 0) rfl) 3 _ rfl rfl (fun _ => by simp [isAgg, run_underlying Tryd.underlying3])) hS ?_
        try simp only [Act.put, List.setIfInBounds_toArray, List.set_cons_zero, List.set_cons_succ]
        refine' wpAnyLast_take (i := 4) (oi := Oper.mk _ _ _ _ _ _) rfl (by kernel_rfl) (by kernel_rfl) (by kernel_rfl) (by kernel_rfl) (by kernel_rfl) (fun _ _ _ h => h) (Or.inl ⟨by rfl, ?hy28⟩) hS ?rest28
        case hy28 => (intro w hSw; (try dsimp only at hSw); first | (go_simp; done) | (go_simp; with_reducible rfl))
        try simp only [Act.put, List.setIfInBounds_toArray, List.set_cons_zero, List.set_cons_succ]
        refine wpAnyLast_ready (rs := [5]) (by kernel_rfl) (by simp) ?_
        refine AllReadyL.cons (o := Oper.mk _ _ _ _ _ _) rfl (by decide) (fun K hK => ?_) ?_
        · refine rg_call (by rfl) _ _ (.int .i64 0) (by first | (go_simp; done) | (go_simp; rfl)) (Q.out.cnt I2.out.hb _ _ 0 SK.out.1) ?_
          intro W' hb
          have In := Aside0.mk (I2.out.below hb.out)
          have Xn := Aside0.mk (X2.out.below hb.out)
          have HBDn := Aside0.mk (HBD.out.trans (hb.out.mono HBD.out.size))
          clear I2 X2 HBD
          have I2 := In
          have X2 := Xn
          have HBD := HBDn
          clear In Xn HBDn
          refine hK.out _ _ ⟨Q.out.b3.below I2.out.hb.out, Q.out.b4.below I2.out.hb.out, I2.out.b5, X2.out⟩ (fun hS => ?_)
          clear hK K hb
          try simp only [Act.put, List.setIfInBounds_toArray, List.set_cons_zero, List.set_cons_succ]
          refine' wpAnyLast_take (i := 6) (oi := Oper.mk _ _ _ _ _ _) rfl (by kernel_rfl) (by kernel_rfl) (by kernel_rfl) (by kernel_rfl) (by kernel_rfl) (fun _ _ _ h => h) (Or.inl ⟨by rfl, ?hy29⟩) hS ?rest29
          case hy29 => (intro w hSw; (try dsimp only at hSw); first | (go_simp; done) | (go_simp; with_reducible rfl))
          try simp only [Act.put, List.setIfInBounds_toArray, List.set_cons_zero, List.set_cons_succ]
          refine' wpAnyLast_take (i := 7) (oi := Oper.mk _ _ _ _ _ _) rfl (by kernel_rfl) (by kernel_rfl) (by kernel_rfl) (by kernel_rfl) (by kernel_rfl) (fun _ _ _ h => h) (Or.inl ⟨by rfl, ?hy30⟩) hS ?rest30
          case hy30 => (intro w hSw; (try dsimp only at hSw); first | (go_simp; done) | (go_simp; with_reducible rfl))
          try simp only [Act.put, List.setIfInBounds_toArray, List.set_cons_zero, List.set_cons_succ]
          refine wpAnyLast_take (i := 8) (oi := Oper.mk _ _ _ _ _ _) rfl (by kernel_rfl) (by kernel_rfl) (by kernel_rfl) (by kernel_rfl) (by kernel_rfl) (fun _ _ _ h => h) (rg_load (by rfl) (fun _ hS => hS.2.1) 38 _ rfl rfl Tryd.underlying38 rfl (by kernel_rfl)) hS ?_
          try simp only [Act.put, List.setIfInBounds_toArray, List.set_cons_zero, List.set_cons_succ]
          refine wpAnyLast_take (i := 9) (oi := Oper.mk _ _ _ _ _ _) rfl (by kernel_rfl) (by kernel_rfl) (by kernel_rfl) (by kernel_rfl) (by kernel_rfl) (fun _ _ _ h => h) (rg_load1 (by rfl) (fun _ hS => hS.2.2.1.cell (i := 0) rfl) 3 _ rfl rfl (fun _ => by simp [isAgg, run_underlying Tryd.underlying3])) hS ?_
          try simp only [Act.put, List.setIfInBounds_toArray, List.set_cons_zero, List.set_cons_succ]
          refine' wpAnyLast_take (i := 10) (oi := Oper.mk _ _ _ _ _ _) rfl (by kernel_rfl) (by kernel_rfl) (by kernel_rfl) (by kernel_rfl) (by kernel_rfl) (fun _ _ _ h => h) (Or.inl ⟨by rfl, ?hy31⟩) hS ?rest31
          case hy31 => (intro w hSw; (try dsimp only at hSw); first | (go_simp; done) | (go_simp; with_reducible rfl))
          try simp only [Act.put, List.setIfInBounds_toArray, List.set_cons_zero, List.set_cons_succ]
          refine wpAnyLast_take (i := 11) (oi := Oper.mk _ _ _ _ _ _) rfl (by kernel_rfl) (by kernel_rfl) (by kernel_rfl) (by kernel_rfl) (by kernel_rfl) (fun _ _ _ h => h) (rg_load1 (by rfl) (fun _ hS => hS.2.2.2.cell (i := 0) rfl) 3 _ rfl rfl (fun _ => by simp [isAgg, run_underlying Tryd.underlying3])) hS ?_
          try simp only [Act.put, List.setIfInBounds_toArray, List.set_cons_zero, List.set_cons_succ]
          refine' wpAnyLast_take (i := 12) (oi := Oper.mk _ _ _ _ _ _) rfl (by kernel_rfl) (by kernel_rfl) (by kernel_rfl) (by kernel_rfl) (by kernel_rfl) (fun _ _ _ h => h) (Or.inl ⟨by rfl, ?hy32⟩) hS ?rest32
          case hy32 => (intro w hSw; (try dsimp only at hSw); first | (go_simp; done) | (go_simp; with_reducible rfl))
          try simp only [Act.put, List.setIfInBounds_toArray, List.set_cons_zero, List.set_cons_succ]
          refine wpAnyLast_ready (rs := [13]) (by kernel_rfl) (by simp) ?_
          refine AllReadyL.cons (o := Oper.mk _ _ _ _ _ _) rfl (by decide) (fun K hK => ?_) ?_
          · refine rg_call (by rfl) _ _ (.int .i64 0) (by first | (go_simp; done) | (go_simp; rfl)) (Q.out.cntI I2.out.hb _ _ 0 SK.out.2.1) ?_
            intro W' hb
            have In := Aside0.mk (I2.out.below hb.out)
            have Xn := Aside0.mk (X2.out.below hb.out)
            have HBDn := Aside0.mk (HBD.out.trans (hb.out.mono HBD.out.size))
            clear I2 X2 HBD
            have I2 := In
            have X2 := Xn
            have HBD := HBDn
            clear In Xn HBDn
            refine hK.out _ _ ⟨Q.out.b3.below I2.out.hb.out, Q.out.b4.below I2.out.hb.out, I2.out.b5, X2.out⟩ (fun hS => ?_)
            clear hK K hb
            try simp only [Act.put, List.setIfInBounds_toArray, List.set_cons_zero, List.set_cons_succ]
            refine' wpAnyLast_take (i := 14) (oi := Oper.mk _ _ _ _ _ _) rfl (by kernel_rfl) (by kernel_rfl) (by kernel_rfl) (by kernel_rfl) (by kernel_rfl) (fun _ _ _ h => h) (Or.inl ⟨by rfl, ?hy33⟩) hS ?rest33
            case hy33 => (intro w hSw; (try dsimp only at hSw); first | (go_simp; done) | (go_simp; with_reducible rfl))
            try simp only [Act.put, List.setIfInBounds_toArray, List.set_cons_zero, List.set_cons_succ]
            refine' wpAnyLast_take (i := 15) (oi := Oper.mk _ _ _ _ _ _) rfl (by kernel_rfl) (by kernel_rfl) (by kernel_rfl) (by kernel_rfl) (by kernel_rfl) (fun _ _ _ h => h) (Or.inl ⟨by rfl, ?hy34⟩) hS ?rest34
            case hy34 => (intro w hSw; (try dsimp only at hSw); first | (go_simp; done) | (go_simp; with_reducible rfl))
            try simp only [Act.put, List.setIfInBounds_toArray, List.set_cons_zero, List.set_cons_succ]
            refine' wpAnyLast_take (i := 16) (oi := Oper.mk _ _ _ _ _ _) rfl (by kernel_rfl) (by kernel_rfl) (by kernel_rfl) (by kernel_rfl) (by kernel_rfl) (fun _ _ _ h => h) (Or.inl ⟨by rfl, ?hy35⟩) hS ?rest35
            case hy35 => (intro w hSw; (try dsimp only at hSw); first | (go_simp; done) | (go_simp; with_reducible rfl))
            try simp only [Act.put, List.setIfInBounds_toArray, List.set_cons_zero, List.set_cons_succ]
            refine wpAnyLast_take (i := 17) (oi := Oper.mk _ _ _ _ _ _) rfl (by kernel_rfl) (by kernel_rfl) (by kernel_rfl) (by kernel_rfl) (by kernel_rfl) (fun _ _ _ h => h) (rg_load (by rfl) (fun _ hS => hS.1) 38 _ rfl rfl Tryd.underlying38 rfl (by kernel_rfl)) hS ?_
            try simp only [Act.put, List.setIfInBounds_toArray, List.set_cons_zero, List.set_cons_succ]
            refine' wpAnyLast_take (i := 18) (oi := Oper.mk _ _ _ _ _ _) rfl (by kernel_rfl) (by kernel_rfl) (by kernel_rfl) (by kernel_rfl) (by kernel_rfl) (fun _ _ _ h => h) (Or.inl ⟨by rfl, ?hy36⟩) hS ?rest36
            case hy36 => (intro w hSw; (try dsimp only at hSw); first | (go_simp; done) | (go_simp; with_reducible rfl))
            try simp only [Act.put, List.setIfInBounds_toArray, List.set_cons_zero, List.set_cons_succ]
            refine wpAnyLast_take (i := 19) (oi := Oper.mk _ _ _ _ _ _) rfl (by kernel_rfl) (by kernel_rfl) (by kernel_rfl) (by kernel_rfl) (by kernel_rfl) (fun _ _ _ h => h) (rg_load1 (by rfl) (fun _ hS => hS.2.2.2.cell (i := 0) rfl) 3 _ rfl rfl (fun _ => by simp [isAgg, run_underlying Tryd.underlying3])) hS ?_
            try simp only [Act.put, List.setIfInBounds_toArray, List.set_cons_zero, List.set_cons_succ]
            refine' wpAnyLast_take (i := 20) (oi := Oper.mk _ _ _ _ _ _) rfl (by kernel_rfl) (by kernel_rfl) (by kernel_rfl) (by kernel_rfl) (by kernel_rfl) (fun _ _ _ h => h) (Or.inl ⟨by rfl, ?hy37⟩) hS ?rest37
            case hy37 => (intro w hSw; (try dsimp only at hSw); first | (go_simp; done) | (go_simp; with_reducible rfl))
            try simp only [Act.put, List.setIfInBounds_toArray, List.set_cons_zero, List.set_cons_succ]
            refine wpAnyLast_take (i := 21) (oi := Oper.mk _ _ _ _ _ _) rfl (by kernel_rfl) (by kernel_rfl) (by kernel_rfl) (by kernel_rfl) (by kernel_rfl) (fun _ _ _ h => h) (rg_load1 (by rfl) (fun _ hS => hS.2.2.2.cell (i := 1) rfl) 3 _ rfl rfl (fun _ => by simp [isAgg, run_underlying Tryd.underlying3])) hS ?_
            try simp only [Act.put, List.setIfInBounds_toArray, List.set_cons_zero, List.set_cons_succ]
            refine wpAnyLast_ready (rs := [22]) (by kernel_rfl) (by simp) ?_
            refine AllReadyL.cons (o := Oper.mk _ _ _ _ _ _) rfl (by decide) (fun K hK => ?_) ?_
            · refine rg_call (by rfl) _ _ (.int .i64 0) (by first | (go_simp; done) | (go_simp; rfl)) (Q.out.cnt I2.out.hb _ _ 0 SFA.out.k3) ?_
              intro W' hb
              have In := Aside0.mk (I2.out.below hb.out)
              have Xn := Aside0.mk (X2.out.below hb.out)
              have HBDn := Aside0.mk (HBD.out.trans (hb.out.mono HBD.out.size))
              clear I2 X2 HBD
              have I2 := In
              have X2 := Xn
              have HBD := HBDn
              clear In Xn HBDn
              refine hK.out _ _ ⟨Q.out.b3.below I2.out.hb.out, Q.out.b4.below I2.out.hb.out, I2.out.b5, X2.out⟩ (fun hS => ?_)
              clear hK K hb
              try simp only [Act.put, List.setIfInBounds_toArray, List.set_cons_zero, List.set_cons_succ]
              refine' wpAnyLast_take (i := 23) (oi := Oper.mk _ _ _ _ _ _) rfl (by kernel_rfl) (by kernel_rfl) (by kernel_rfl) (by kernel_rfl) (by kernel_rfl) (fun _ _ _ h => h) (Or.inl ⟨by rfl, ?hy38⟩) hS ?rest38
              case hy38 => (intro w hSw; (try dsimp only at hSw); first | (go_simp; done) | (go_simp; with_reducible rfl))
              try simp only [Act.put, List.setIfInBounds_toArray, List.set_cons_zero, List.set_cons_succ]
              refine' wpAnyLast_take (i := 24) (oi := Oper.mk _ _ _ _ _ _) rfl (by kernel_rfl) (by kernel_rfl) (by kernel_rfl) (by kernel_rfl) (by kernel_rfl) (fun _ _ _ h => h) (Or.inl ⟨by rfl, ?hy39⟩) hS ?rest39
              case hy39 => (intro w hSw; (try dsimp only at hSw); first | (go_simp; done) | (go_simp; with_reducible rfl))
              try simp only [Act.put, List.setIfInBounds_toArray, List.set_cons_zero, List.set_cons_succ]
              refine' wpAnyLast_take (i := 25) (oi := Oper.mk _ _ _ _ _ _) rfl (by kernel_rfl) (by kernel_rfl) (by kernel_rfl) (by kernel_rfl) (by kernel_rfl) (fun _ _ _ h => h) (Or.inl ⟨by rfl, ?hy40⟩) hS ?rest40
              case hy40 => (intro w hSw; (try dsimp only at hSw); first | (go_simp; done) | (go_simp; with_reducible rfl))
              try simp only [Act.put, List.setIfInBounds_toArray, List.set_cons_zero, List.set_cons_succ]
              refine wpAnyLast_take (i := 26) (oi := Oper.mk _ _ _ _ _ _) rfl (by kernel_rfl) (by kernel_rfl) (by kernel_rfl) (by kernel_rfl) (by kernel_rfl) (fun _ _ _ h => h) (rg_load (by rfl) (fun _ hS => hS.2.1) 38 _ rfl rfl Tryd.underlying38 rfl (by kernel_rfl)) hS ?_
              try simp only [Act.put, List.setIfInBounds_toArray, List.set_cons_zero, List.set_cons_succ]
              refine' wpAnyLast_take (i := 27) (oi := Oper.mk _ _ _ _ _ _) rfl (by kernel_rfl) (by kernel_rfl) (by kernel_rfl) (by kernel_rfl) (by kernel_rfl) (fun _ _ _ h => h) (Or.inl ⟨by rfl, ?hy41⟩) hS ?rest41
              case hy41 => (intro w hSw; (try dsimp only at hSw); first | (go_simp; done) | (go_simp; with_reducible rfl))
              try simp only [Act.put, List.setIfInBounds_toArray, List.set_cons_zero, List.set_cons_succ]
              refine wpAnyLast_take (i := 28) (oi := Oper.mk _ _ _ _ _ _) rfl (by kernel_rfl) (by kernel_rfl) (by kernel_rfl) (by kernel_rfl) (by kernel_rfl) (fun _ _ _ h => h) (rg_load1 (by rfl) (fun _ hS => hS.2.2.2.cell (i := 0) rfl) 3 _ rfl rfl (fun _ => by simp [isAgg, run_underlying Tryd.underlying3])) hS ?_
              try simp only [Act.put, List.setIfInBounds_toArray, List.set_cons_zero, List.set_cons_succ]
              refine' wpAnyLast_take (i := 29) (oi := Oper.mk _ _ _ _ _ _) rfl (by kernel_rfl) (by kernel_rfl) (by kernel_rfl) (by kernel_rfl) (by kernel_rfl) (fun _ _ _ h => h) (Or.inl ⟨by rfl, ?hy42⟩) hS ?rest42
              case hy42 => (intro w hSw; (try dsimp only at hSw); first | (go_simp; done) | (go_simp; with_reducible rfl))
              try simp only [Act.put, List.setIfInBounds_toArray, List.set_cons_zero, List.set_cons_succ]
              refine' wpAnyLast_take (i := 30) (oi := Oper.mk _ _ _ _ _ _) rfl (by kernel_rfl) (by kernel_rfl) (by kernel_rfl) (by kernel_rfl) (by kernel_rfl) (fun _ _ _ h => h) (Or.inl ⟨by rfl, ?hy43⟩) hS ?rest43
              case hy43 => (intro w hSw; (try dsimp only at hSw); first | (go_simp; done) | (go_simp; with_reducible rfl))
              try simp only [Act.put, List.setIfInBounds_toArray, List.set_cons_zero, List.set_cons_succ]
              refine wpAnyLast_take (i := 31) (oi := Oper.mk _ _ _ _ _ _) rfl (by kernel_rfl) (by kernel_rfl) (by kernel_rfl) (by kernel_rfl) (by kernel_rfl) (fun _ _ _ h => h) (rg_load1 (by rfl) (fun _ hS => hS.2.2.2.cell (i := 1) rfl) 3 _ rfl rfl (fun _ => by simp [isAgg, run_underlying Tryd.underlying3])) hS ?_
              try simp only [Act.put, List.setIfInBounds_toArray, List.set_cons_zero, List.set_cons_succ]
              refine' wpAnyLast_take (i := 33) (oi := Oper.mk _ _ _ _ _ _) rfl (by kernel_rfl) (by kernel_rfl) (by kernel_rfl) (by kernel_rfl) (by kernel_rfl) (fun _ _ _ h => h) (Or.inl ⟨by rfl, ?hy44⟩) hS ?rest44
              case hy44 => (intro w hSw; (try dsimp only at hSw); first | (go_simp; done) | (go_simp; with_reducible rfl))
              try simp only [Act.put, List.setIfInBounds_toArray, List.set_cons_zero, List.set_cons_succ]
              refine wpAnyLast_take (i := 34) (oi := Oper.mk _ _ _ _ _ _) rfl (by kernel_rfl) (by kernel_rfl) (by kernel_rfl) (by kernel_rfl) (by kernel_rfl) (fun _ _ _ h => h) (rg_load1 (by rfl) (fun _ hS => hS.2.2.2.cell (i := 1) rfl) 3 _ rfl rfl (fun _ => by simp [isAgg, run_underlying Tryd.underlying3])) hS ?_
              try simp only [Act.put, List.setIfInBounds_toArray, List.set_cons_zero, List.set_cons_succ]
              refine' wpAnyLast_take (i := 35) (oi := Oper.mk _ _ _ _ _ _) rfl (by kernel_rfl) (by kernel_rfl) (by kernel_rfl) (by kernel_rfl) (by kernel_rfl) (fun _ _ _ h => h) (Or.inl ⟨by rfl, ?hy45⟩) hS ?rest45
              case hy45 => (intro w hSw; (try dsimp only at hSw); first | (go_simp; done) | (go_simp; with_reducible rfl))
              try simp only [Act.put, List.setIfInBounds_toArray, List.set_cons_zero, List.set_cons_succ]
              refine wpAnyLast_take (i := 36) (oi := Oper.mk _ _ _ _ _ _) rfl (by kernel_rfl) (by kernel_rfl) (by kernel_rfl) (by kernel_rfl) (by kernel_rfl) (fun _ _ _ h => h) (rg_load1 (by rfl) (fun _ hS => hS.2.2.2.cell (i := 0) rfl) 3 _ rfl rfl (fun _ => by simp [isAgg, run_underlying Tryd.underlying3])) hS ?_
              try simp only [Act.put, List.setIfInBounds_toArray, List.set_cons_zero, List.set_cons_succ]
              refine' wpAnyLast_take (i := 37) (oi := Oper.mk _ _ _ _ _ _) rfl (by kernel_rfl) (by kernel_rfl) (by kernel_rfl) (by kernel_rfl) (by kernel_rfl) (fun _ _ _ h => h) (Or.inl ⟨by rfl, ?hy46⟩) hS ?rest46
              case hy46 => (intro w hSw; (try dsimp only at hSw); first | (go_simp; done) | (go_simp; with_reducible rfl))
              try simp only [Act.put, List.setIfInBounds_toArray, List.set_cons_zero, List.set_cons_succ]
              refine' wpAnyLast_take (i := 38) (oi := Oper.mk _ _ _ _ _ _) rfl (by kernel_rfl) (by kernel_rfl) (by kernel_rfl) (by kernel_rfl) (by kernel_rfl) (fun _ _ _ h => h) (Or.inl ⟨by rfl, ?hy47⟩) hS ?rest47
              case hy47 => (intro w hSw; (try dsimp only at hSw); first | (go_simp; done) | (go_simp; with_reducible rfl))
              try simp only [Act.put, List.setIfInBounds_toArray, List.set_cons_zero, List.set_cons_succ]
              refine wpAnyLast_ready (rs := [32]) (by kernel_rfl) (by simp) ?_
              refine AllReadyL.cons (o := Oper.mk _ _ _ _ _ _) rfl (by decide) (fun K hK => ?_) ?_
              · refine rg_call (by rfl) _ _ (.int .i64 (IntKind.i64.wrap (IntKind.i64.wrap (t - f) + 1))) (by first | (go_simp; done) | (go_simp; rfl)) (Q.out.cntI I2.out.hb _ _ _ SK.out.2.2) ?_
                intro W' hb
                have In := Aside0.mk (I2.out.below hb.out)
                have Xn := Aside0.mk (X2.out.below hb.out)
                have HBDn := Aside0.mk (HBD.out.trans (hb.out.mono HBD.out.size))
                clear I2 X2 HBD
                have I2 := In
                have X2 := Xn
                have HBD := HBDn
                clear In Xn HBDn
                refine hK.out _ _ ⟨Q.out.b3.below I2.out.hb.out, Q.out.b4.below I2.out.hb.out, I2.out.b5, X2.out⟩ (fun hS => ?_)
                clear hK K hb
                try simp only [Act.put, List.setIfInBounds_toArray, List.set_cons_zero, List.set_cons_succ]
                refine' wpAnyLast_take (i := 39) (oi := Oper.mk _ _ _ _ _ _) rfl (by kernel_rfl) (by kernel_rfl) (by kernel_rfl) (by kernel_rfl) (by kernel_rfl) (fun _ _ _ h => h) (Or.inl ⟨by rfl, ?hy48⟩) hS ?rest48
                case hy48 => (intro w hSw; (try dsimp only at hSw); first | (go_simp; done) | (go_simp; with_reducible rfl))
                try simp only [Act.put, List.setIfInBounds_toArray, List.set_cons_zero, List.set_cons_succ]
                refine' wpAnyLast_take (i := 40) (oi := Oper.mk _ _ _ _ _ _) rfl (by kernel_rfl) (by kernel_rfl) (by kernel_rfl) (by kernel_rfl) (by kernel_rfl) (fun _ _ _ h => h) (Or.inl ⟨by rfl, ?hy49⟩) hS ?rest49
                case hy49 => (intro w hSw; (try dsimp only at hSw); first | (go_simp; done) | (go_simp; with_reducible rfl))
                try simp only [Act.put, List.setIfInBounds_toArray, List.set_cons_zero, List.set_cons_succ]
                refine' wpAnyLast_take (i := 41) (oi := Oper.mk _ _ _ _ _ _) rfl (by kernel_rfl) (by kernel_rfl) (by kernel_rfl) (by kernel_rfl) (by kernel_rfl) (fun _ _ _ h => h) (Or.inl ⟨by rfl, ?hy50⟩) hS ?rest50
                case hy50 => (intro w hSw; (try dsimp only at hSw); first | (go_simp; done) | (go_simp; with_reducible rfl))
                try simp only [Act.put, List.setIfInBounds_toArray, List.set_cons_zero, List.set_cons_succ]
                refine wpAnyLast_take (i := 42) (oi := Oper.mk _ _ _ _ _ _) rfl (by kernel_rfl) (by kernel_rfl) (by kernel_rfl) (by kernel_rfl) (by kernel_rfl) (fun _ _ _ h => h) (rg_load (by rfl) (fun _ hS => hS.2.1) 38 _ rfl rfl Tryd.underlying38 rfl (by kernel_rfl)) hS ?_
                try simp only [Act.put, List.setIfInBounds_toArray, List.set_cons_zero, List.set_cons_succ]
                refine' wpAnyLast_take (i := 43) (oi := Oper.mk _ _ _ _ _ _) rfl (by kernel_rfl) (by kernel_rfl) (by kernel_rfl) (by kernel_rfl) (by kernel_rfl) (fun _ _ _ h => h) (Or.inl ⟨by rfl, ?hy51⟩) hS ?rest51
                case hy51 => (intro w hSw; (try dsimp only at hSw); first | (go_simp; done) | (go_simp; with_reducible rfl))
                try simp only [Act.put, List.setIfInBounds_toArray, List.set_cons_zero, List.set_cons_succ]
                refine wpAnyLast_take (i := 44) (oi := Oper.mk _ _ _ _ _ _) rfl (by kernel_rfl) (by kernel_rfl) (by kernel_rfl) (by kernel_rfl) (by kernel_rfl) (fun _ _ _ h => h) (rg_load1 (by rfl) (fun _ hS => hS.2.2.2.cell (i := 1) rfl) 3 _ rfl rfl (fun _ => by simp [isAgg, run_underlying Tryd.underlying3])) hS ?_
                try simp only [Act.put, List.setIfInBounds_toArray, List.set_cons_zero, List.set_cons_succ]
                refine wpAnyLast_ready (rs := [45]) (by kernel_rfl) (by simp) ?_
                refine AllReadyL.cons (o := Oper.mk _ _ _ _ _ _) rfl (by decide) (fun K hK => ?_) ?_
                · refine rg_call (by rfl) _ _ (.bool false) (by first | (go_simp; done) | (go_simp; rfl)) (Q.out.getI I2.out.hb _ false SFA.out.v3) ?_
                  intro W' hb
                  have In := Aside0.mk (I2.out.below hb.out)
                  have Xn := Aside0.mk (X2.out.below hb.out)
                  have HBDn := Aside0.mk (HBD.out.trans (hb.out.mono HBD.out.size))
                  clear I2 X2 HBD
                  have I2 := In
                  have X2 := Xn
                  have HBD := HBDn
                  clear In Xn HBDn
                  refine hK.out _ _ ⟨Q.out.b3.below I2.out.hb.out, Q.out.b4.below I2.out.hb.out, I2.out.b5, X2.out⟩ (fun hS => ?_)
                  clear hK K hb
                  try simp only [Act.put, List.setIfInBounds_toArray, List.set_cons_zero, List.set_cons_succ]
                  refine' wpAnyLast_take (i := 46) (oi := Oper.mk _ _ _ _ _ _) rfl (by kernel_rfl) (by kernel_rfl) (by kernel_rfl) (by kernel_rfl) (by kernel_rfl) (fun _ _ _ h => h) (Or.inl ⟨by rfl, ?hy52⟩) hS ?rest52
                  case hy52 => (intro w hSw; (try dsimp only at hSw); first | (go_simp; done) | (go_simp; with_reducible rfl))
                  try simp only [Act.put, List.setIfInBounds_toArray, List.set_cons_zero, List.set_cons_succ]
                  refine wpAnyLast_done (by kernel_rfl) ?_ _
                  refine Straight.normal ?_
                  have b5 := I2.out.b5
                  have k5 := b5.cell (i := 0) rfl
                  have kx1 := X2.out.cell (i := 1) rfl
                  have HB := I2.out.hb
                  gi_wp2_with (first
                    | ((with_reducible refine gate_In (Op.store 3 (.tmp 5) (.tmp 118)) rfl ?_); refine ev_store1In (i := 0) HB b5 GE_g5 rfl 3 _ _ rfl rfl _ rfl (by simp) (by kernel_rfl) rfl ?_; intro w26 B26 HB26 K_w26 KO_w26))
                  have q := PG.out
                  have Z := SZ.out
                  have nh := NH.out
                  refine ⟨((keepsOthers_below HBD.out).trans KO_w26.out).from _, fun k hk => (K_w26.out.2 k (fun c => by have := HXA.out k hk; omega)).trans (HBD.out.block k (HXA.out k hk).2), ⟨(K_w26.out.2 0 (by omega)).trans (HBD.out.block 0 (by omega)), (K_w26.out.2 h1 nh).trans (HBD.out.block h1 (by omega)), Nat.le_trans HBD.out.size K_w26.out.1⟩, ?_, HB26, Nat.le_trans I2.out.sz K_w26.out.1⟩
                  rw [show wrap64 (t + 1) = ((endU (pre ++ [x]) : Nat) : Int) by have e1 := hend.out.1; have e2 := hend.out.2; have e3 := HT2.out; have e4 := HS2.out; rw [e1, e3]; unfold wrap64; omega] at B26
                  exact B26
                exact AllReadyL.nil
              exact AllReadyL.nil
            exact AllReadyL.nil
          exact AllReadyL.nil
        exact AllReadyL.nil
    case done =>
      rintro D X ys W hD hX rfl hI hK
      have EF := QsF.q9_endF_of s HS2.out HKK.out
      have HM := Aside0.mk (Marks.cons (Marks.nil (m := wc.heap.size) (W := W)) (Nat.le_trans HBW.le hD) hK (List.not_mem_nil))
      clear hX hD hK
      obtain ⟨a, ha⟩ : ∃ a : Int, a = ((endU (textsL s) : Nat) : Int) := ⟨_, rfl⟩
      rw [← ha] at hI EF
      clear ha
      have EFA := Aside0.mk EF
      clear EF
      have I0 := Aside0.mk hI
      have k5 := hI.b5.cell (i := 0) rfl
      have k3a := (Q.out.b3.below hI.hb.out).cell (i := 0) rfl
      have k3b := (Q.out.b3.below hI.hb.out).cell (i := 1) rfl
      have k1 := (Q.out.b1.below hI.hb.out).cell (i := 0) rfl
      have GE2 : Aside0 (w.heap.size ≤ g2) := ⟨Q.out.ge2⟩
      clear hI
      gi_wp2_with (first
        | (gi_at_call 37; with_reducible refine (callsIn_of HF (Q.out.cnt I0.out.hb _ _ 0 EFA.out.1)).mono ?_; rintro e W1 ⟨rfl, hb1⟩; have I1 := Aside0.mk (I0.out.below hb1); have HM1 := Aside0.mk (HM.out.below hb1); clear hb1 k5 k3a k3b k1 I0 HM; have k5 := I1.out.b5.cell (i := 0) rfl; have k4a := (Q.out.b4.below I1.out.hb.out).cell (i := 0) rfl; have k4b := (Q.out.b4.below I1.out.hb.out).cell (i := 1) rfl; have k1 := (Q.out.b1.below I1.out.hb.out).cell (i := 0) rfl)
        | (gi_at_call 37; with_reducible refine (callsIn_of HF (Q.out.cntI I1.out.hb _ _ 0 EFA.out.2)).mono ?_; rintro e W2 ⟨rfl, hb2⟩; have I2 := Aside0.mk (I1.out.below hb2); have HM2 := Aside0.mk (HM1.out.below hb2); clear hb2 k5 k4a k4b k1 I1 HM1; have b2 := Q.out.b2.below I2.out.hb.out; have HB := Q.out.hb.step I2.out.hb.out)
        | ((with_reducible refine gate_In (Op.store 4 (.tmp 2) (.tmp 132)) rfl ?_); refine ev_store1In (i := 0) HB b2 GE2 rfl 4 _ _ rfl rfl _ rfl (by simp) (by kernel_rfl) rfl ?_; intro w30 B30 HB30 K_w30 KO_w30))
      refine leaves_marksS (S := fun A => Blk A g2 #[.bool true] 4 ∧ BelowH w A) (fun A D' hs h1 h2 => ?_) [D] w30 ⟨B30, HB30⟩ (HM2.out.others KO_w30.out) fun A hA => ⟨_, results_cell1 rfl _ _ g2 4 _ _ rfl hA.1 Tryd.underlying4 rfl, rfl, hA.2.out⟩
      have hg := grownBy_putObj' A D' (.deferred none)
      have hr2 : ∀ r, some D' = some r → ∃ o : Obj, A.heap[r]? = some o ∧ o.isCells = false := fun r e => by
        cases e
        exact ⟨_, h2, rfl⟩
      exact ⟨hs.1.kept hg hr2, hs.2.kept hg (Nat.le_trans Q.out.hb.le h1) (fun r e => by cases e; exact Nat.le_refl _)⟩
    case stop =>
      intro D2 c pre W hD hp hf
      exact hf.elim
def quarrylaw07_QuotesSpans.f (a0 : ByteArray) : Option Bool := if a0.size ≤ 1048576 then some true else none
theorem quarrylaw07_QuotesSpans.calls (a0 : ByteArray) (r : Bool) (w : World) (hT : TabOk w) (h : quarrylaw07_QuotesSpans.f a0 = some r) :
    Calls Tryd.prog 9 #[.string a0] w fun e w' => e = .returned (.bool r) ∧ Below w.heap.size w w' := by
  unfold quarrylaw07_QuotesSpans.f at h
  by_cases hs : a0.size ≤ 1048576
  case neg => rw [if_neg hs] at h; cases h
  rw [if_pos hs] at h
  cases h
  exact quarrylaw07_QuotesSpans.true_ a0 hs w hT
def quarrylaw07_QuotesSpans.Pure : Prop := ∀ (a0 : ByteArray), a0.size ≤ 1048576 → quarrylaw07_QuotesSpans.f a0 = some true
theorem quarrylaw07_QuotesSpans.walk (P : quarrylaw07_QuotesSpans.Pure) (a0 : ByteArray) (w : World) (hT : TabOk w) (w0 : a0.size ≤ 1048576) :
    Calls Tryd.prog 9 #[.string a0] w fun e w' => e = .returned (.bool true) ∧ Below w.heap.size w w' :=
  quarrylaw07_QuotesSpans.calls a0 true w hT (P a0 w0)
end


end Go.Proofs.YtadcgjmhhodnoaaDoor.PS
