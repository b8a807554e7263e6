/-
  QuotesBehind: of two texts of at most 1048576 bytes together, one behind the other: the marks of the first one; then those of the second one, where nothing of it is escaped by the first one's end; and what is inside is turned if the first one is open.
-/
import Derived.Test.YtadcgjmhhodnoaaDoorPBx4
import Derived.Test.YtadcgjmhhodnoaaDoorQw
namespace Go.Proofs.YtadcgjmhhodnoaaDoor.Pure
open Go Go.RowKit Go.Proofs.YtadcgjmhhodnoaaDoor.PB Go.Proofs.YtadcgjmhhodnoaaDoorW.PrintWords Go.Proofs.YtadcgjmhhodnoaaDoorW.PrintLast Go.Proofs.YtadcgjmhhodnoaaDoorQ
set_option linter.unusedVariables false
set_option linter.unusedSimpArgs false
/-- How many bits of a byte are set. -/
def pcB (x : Nat) : Nat := x % 2 + x / 2 % 2 + x / 4 % 2 + x / 8 % 2 + x / 16 % 2 + x / 32 % 2 + x / 64 % 2 + x / 128 % 2
def dig (a b c d e f g h : Nat) : Nat := a + 256 * (b + 256 * (c + 256 * (d + 256 * (e + 256 * (f + 256 * (g + 256 * h))))))
theorem and_cons (a b c d : Nat) (ha : a < 256) (hc : c < 256) : (a + 256 * b) &&& (c + 256 * d) = (a &&& c) + 256 * (b &&& d) := by
  have h1 : ((a + 256 * b) &&& (c + 256 * d)) % 2 ^ 8 = ((a + 256 * b) % 2 ^ 8) &&& ((c + 256 * d) % 2 ^ 8) := Nat.and_mod_two_pow
  have h2 : ((a + 256 * b) &&& (c + 256 * d)) / 2 ^ 8 = ((a + 256 * b) / 2 ^ 8) &&& ((c + 256 * d) / 2 ^ 8) := Nat.and_div_two_pow
  rw [show (a + 256 * b) % 2 ^ 8 = a by omega, show (c + 256 * d) % 2 ^ 8 = c by omega] at h1
  rw [show (a + 256 * b) / 2 ^ 8 = b by omega, show (c + 256 * d) / 2 ^ 8 = d by omega] at h2
  omega
theorem and_dig (m a b c d e f g h : Nat) (hm : m < 256) (ha : a < 256) (hb : b < 256) (hc : c < 256) (hd : d < 256) (he : e < 256) (hf : f < 256) (hg : g < 256) :
    dig a b c d e f g h &&& dig m m m m m m m m = dig (a &&& m) (b &&& m) (c &&& m) (d &&& m) (e &&& m) (f &&& m) (g &&& m) (h &&& m) := by
  unfold dig
  rw [and_cons _ _ _ _ ha hm, and_cons _ _ _ _ hb hm, and_cons _ _ _ _ hc hm, and_cons _ _ _ _ hd hm, and_cons _ _ _ _ he hm, and_cons _ _ _ _ hf hm, and_cons _ _ _ _ hg hm]
def g1 (x : Nat) : Nat := (x / 2 &&& 85) + (x &&& 85)
def g2 (x : Nat) : Nat := (x / 4 &&& 51) + (x &&& 51)
theorem half_and : ∀ x, x < 256 → ∀ p, p < 2 → (x / 2 + 128 * p) &&& 85 = x / 2 &&& 85 := by decide +kernel
theorem quarter_and : ∀ x, x < 256 → ∀ p, p < 4 → (x / 4 + 64 * p) &&& 51 = x / 4 &&& 51 := by decide +kernel
theorem step1 (a b c d e f g h : Nat) (ha : a < 256) (hb : b < 256) (hc : c < 256) (hd : d < 256) (he : e < 256) (hf : f < 256) (hg : g < 256) (hh : h < 256) :
    (dig a b c d e f g h / 2 &&& 6148914691236517205) + (dig a b c d e f g h &&& 6148914691236517205) = dig (g1 a) (g1 b) (g1 c) (g1 d) (g1 e) (g1 f) (g1 g) (g1 h) := by
  rw [show (6148914691236517205 : Nat) = dig 85 85 85 85 85 85 85 85 by decide]
  have e1 : dig a b c d e f g h / 2 = dig (a / 2 + 128 * (b % 2)) (b / 2 + 128 * (c % 2)) (c / 2 + 128 * (d % 2)) (d / 2 + 128 * (e % 2)) (e / 2 + 128 * (f % 2)) (f / 2 + 128 * (g % 2)) (g / 2 + 128 * (h % 2)) (h / 2 + 128 * 0) := by unfold dig; omega
  rw [e1, and_dig _ _ _ _ _ _ _ _ _ (by decide) (by omega) (by omega) (by omega) (by omega) (by omega) (by omega) (by omega), and_dig _ _ _ _ _ _ _ _ _ (by decide) ha hb hc hd he hf hg,
    half_and a ha _ (by omega), half_and b hb _ (by omega), half_and c hc _ (by omega), half_and d hd _ (by omega), half_and e he _ (by omega), half_and f hf _ (by omega), half_and g hg _ (by omega), half_and h hh _ (by omega)]
  unfold dig g1
  omega
theorem step2 (a b c d e f g h : Nat) (ha : a < 256) (hb : b < 256) (hc : c < 256) (hd : d < 256) (he : e < 256) (hf : f < 256) (hg : g < 256) (hh : h < 256) :
    (dig a b c d e f g h / 4 &&& 3689348814741910323) + (dig a b c d e f g h &&& 3689348814741910323) = dig (g2 a) (g2 b) (g2 c) (g2 d) (g2 e) (g2 f) (g2 g) (g2 h) := by
  rw [show (3689348814741910323 : Nat) = dig 51 51 51 51 51 51 51 51 by decide]
  have e1 : dig a b c d e f g h / 4 = dig (a / 4 + 64 * (b % 4)) (b / 4 + 64 * (c % 4)) (c / 4 + 64 * (d % 4)) (d / 4 + 64 * (e % 4)) (e / 4 + 64 * (f % 4)) (f / 4 + 64 * (g % 4)) (g / 4 + 64 * (h % 4)) (h / 4 + 64 * 0) := by unfold dig; omega
  rw [e1, and_dig _ _ _ _ _ _ _ _ _ (by decide) (by omega) (by omega) (by omega) (by omega) (by omega) (by omega) (by omega), and_dig _ _ _ _ _ _ _ _ _ (by decide) ha hb hc hd he hf hg,
    quarter_and a ha _ (by omega), quarter_and b hb _ (by omega), quarter_and c hc _ (by omega), quarter_and d hd _ (by omega), quarter_and e he _ (by omega), quarter_and f hf _ (by omega), quarter_and g hg _ (by omega), quarter_and h hh _ (by omega)]
  unfold dig g2
  omega
theorem nib : ∀ u, u ≤ 4 → ∀ v, v ≤ 4 → ∀ p, p ≤ 4 → ((16 * u + v) / 16 + 16 * p + (16 * u + v)) &&& 15 = u + v := by decide +kernel
theorem step3 (a b c d e f g h : Nat) (ha : a / 16 ≤ 4 ∧ a % 16 ≤ 4) (hb : b / 16 ≤ 4 ∧ b % 16 ≤ 4) (hc : c / 16 ≤ 4 ∧ c % 16 ≤ 4) (hd : d / 16 ≤ 4 ∧ d % 16 ≤ 4) (he : e / 16 ≤ 4 ∧ e % 16 ≤ 4) (hf : f / 16 ≤ 4 ∧ f % 16 ≤ 4) (hg : g / 16 ≤ 4 ∧ g % 16 ≤ 4) (hh : h / 16 ≤ 4 ∧ h % 16 ≤ 4) :
    (dig a b c d e f g h / 16 + dig a b c d e f g h) &&& 1085102592571150095 = dig (a / 16 + a % 16) (b / 16 + b % 16) (c / 16 + c % 16) (d / 16 + d % 16) (e / 16 + e % 16) (f / 16 + f % 16) (g / 16 + g % 16) (h / 16 + h % 16) := by
  rw [show (1085102592571150095 : Nat) = dig 15 15 15 15 15 15 15 15 by decide]
  have k : ∀ x p, x / 16 ≤ 4 ∧ x % 16 ≤ 4 → p ≤ 4 → (x / 16 + 16 * p + x) &&& 15 = x / 16 + x % 16 := fun x p hx hp => by
    have := nib (x / 16) hx.1 (x % 16) hx.2 p hp
    rwa [show 16 * (x / 16) + x % 16 = x by omega] at this
  have e1 : dig a b c d e f g h / 16 + dig a b c d e f g h = dig (a / 16 + 16 * (b % 16) + a) (b / 16 + 16 * (c % 16) + b) (c / 16 + 16 * (d % 16) + c) (d / 16 + 16 * (e % 16) + d) (e / 16 + 16 * (f % 16) + e) (f / 16 + 16 * (g % 16) + f) (g / 16 + 16 * (h % 16) + g) (h / 16 + 16 * 0 + h) := by unfold dig; omega
  rw [e1, and_dig _ _ _ _ _ _ _ _ _ (by decide) (by omega) (by omega) (by omega) (by omega) (by omega) (by omega) (by omega),
    k a _ ha hb.2, k b _ hb hc.2, k c _ hc hd.2, k d _ hd he.2, k e _ he hf.2, k f _ hf hg.2, k g _ hg hh.2, k h _ hh (by omega)]
theorem nibs : ∀ x, x < 256 → g1 x < 256 ∧ g2 (g1 x) / 16 ≤ 4 ∧ g2 (g1 x) % 16 ≤ 4 ∧ g2 (g1 x) / 16 + g2 (g1 x) % 16 = pcB x ∧ pcB x ≤ 8 := by decide +kernel
theorem step4 (a b c d e f g h : Nat) (ha : a ≤ 8) (hb : b ≤ 8) (hc : c ≤ 8) (hd : d ≤ 8) (he : e ≤ 8) (hf : f ≤ 8) (hg : g ≤ 8) (hh : h ≤ 8) (C D E : Nat) (hC : C = dig a b c d e f g h) (hD : D = C + C / 256) (hE : E = D + D / 65536) :
    D < 18446744073709551616 ∧ E < 18446744073709551616 ∧ E + E / 4294967296 < 9223372036854775808 ∧ (E + E / 4294967296) % 128 = a + b + c + d + e + f + g + h := by
  have h1 : C / 256 = dig b c d e f g h 0 := by rw [hC]; unfold dig; omega
  have hD' : D = dig (a + b) (b + c) (c + d) (d + e) (e + f) (f + g) (g + h) h := by rw [hD, h1, hC]; unfold dig; omega
  clear hD h1 hC
  have h2 : D / 65536 = dig (c + d) (d + e) (e + f) (f + g) (g + h) h 0 0 := by rw [hD']; unfold dig; omega
  have hE' : E = dig (a + b + c + d) (b + c + d + e) (c + d + e + f) (d + e + f + g) (e + f + g + h) (f + g + h) (g + h) h := by rw [hE, h2, hD']; unfold dig; omega
  clear hE h2
  have h3 : E / 4294967296 = dig (e + f + g + h) (f + g + h) (g + h) h 0 0 0 0 := by rw [hE']; unfold dig; omega
  have hF : E + E / 4294967296 = dig (a + b + c + d + (e + f + g + h)) (b + c + d + e + (f + g + h)) (c + d + e + f + (g + h)) (d + e + f + g + h) (e + f + g + h) (f + g + h) (g + h) h := by rw [h3, hE']; unfold dig; omega
  refine ⟨by rw [hD']; unfold dig; omega, by rw [hE']; unfold dig; omega, by rw [hF]; unfold dig; omega, ?_⟩
  rw [hF]
  unfold dig
  omega
def cnt (q : Nat → Bool) : Nat → Nat
  | 0 => 0
  | n + 1 => cnt q n + (q n).toNat
theorem bit_nat (N i : Nat) : (N.testBit i).toNat = N / 2 ^ i % 2 := by
  rw [Nat.testBit_eq_decide_div_mod_eq]
  by_cases h : N / 2 ^ i % 2 = 1
  · rw [decide_eq_true h, h]; rfl
  · rw [decide_eq_false h]
    show 0 = _
    omega
theorem cnt_byte (N k : Nat) : cnt (fun i => N.testBit i) (8 * (k + 1)) = cnt (fun i => N.testBit i) (8 * k) + pcB (N / 256 ^ k % 256) := by
  have h : ∀ j, N / 2 ^ (8 * k + j) = N / 256 ^ k / 2 ^ j := fun j => by
    rw [Nat.pow_add, Nat.pow_mul, Nat.div_div_eq_div_mul]
  rw [show 8 * (k + 1) = 8 * k + 7 + 1 by omega]
  simp only [cnt, bit_nat]
  rw [h 7, h 6, h 5, h 4, h 3, h 2, h 1, show 8 * k = 8 * k + 0 by omega, h 0]
  unfold pcB
  generalize N / 256 ^ k = y
  omega
theorem dig_of (N : Nat) (h : N < 18446744073709551616) : N = dig (N % 256) (N / 256 % 256) (N / 65536 % 256) (N / 16777216 % 256) (N / 4294967296 % 256) (N / 1099511627776 % 256) (N / 281474976710656 % 256) (N / 72057594037927936 % 256) := by
  unfold dig
  omega
theorem dig_lt (a b c d e f g h : Nat) (ha : a < 256) (hb : b < 256) (hc : c < 256) (hd : d < 256) (he : e < 256) (hf : f < 256) (hg : g < 256) (hh : h < 256) : dig a b c d e f g h < 18446744073709551616 := by
  unfold dig
  omega
set_option maxHeartbeats 4000000 in
/-- The sum of the bits, as it is reckoned. -/
theorem pop_nat (N a b c d e : Nat) (hN : N < 18446744073709551616)
    (ha : a = (N / 2 &&& 6148914691236517205) + (N &&& 6148914691236517205))
    (hb : b = (a / 4 &&& 3689348814741910323) + (a &&& 3689348814741910323))
    (hc : c = (b / 16 + b) &&& 1085102592571150095)
    (hd : d = c + c / 256) (he : e = d + d / 65536) :
    a < 18446744073709551616 ∧ b < 18446744073709551616 ∧ b / 16 + b < 18446744073709551616 ∧ c < 18446744073709551616 ∧ d < 18446744073709551616 ∧ e < 18446744073709551616 ∧ e + e / 4294967296 < 9223372036854775808 ∧ (e + e / 4294967296) % 128 = cnt (fun i => N.testBit i) 64 := by
  have l0 : N % 256 < 256 := by omega
  have l1 : N / 256 % 256 < 256 := by omega
  have l2 : N / 65536 % 256 < 256 := by omega
  have l3 : N / 16777216 % 256 < 256 := by omega
  have l4 : N / 4294967296 % 256 < 256 := by omega
  have l5 : N / 1099511627776 % 256 < 256 := by omega
  have l6 : N / 281474976710656 % 256 < 256 := by omega
  have l7 : N / 72057594037927936 % 256 < 256 := by omega
  have hcnt : cnt (fun i => N.testBit i) 64 = pcB (N % 256) + pcB (N / 256 % 256) + pcB (N / 65536 % 256) + pcB (N / 16777216 % 256) + pcB (N / 4294967296 % 256) + pcB (N / 1099511627776 % 256) + pcB (N / 281474976710656 % 256) + pcB (N / 72057594037927936 % 256) := by
    have h0 := cnt_byte N 0
    have h1 := cnt_byte N 1
    have h2 := cnt_byte N 2
    have h3 := cnt_byte N 3
    have h4 := cnt_byte N 4
    have h5 := cnt_byte N 5
    have h6 := cnt_byte N 6
    have h7 := cnt_byte N 7
    simp only [Nat.reduceMul, Nat.reduceAdd, Nat.reducePow, Nat.div_one] at h0 h1 h2 h3 h4 h5 h6 h7
    have z : cnt (fun i => N.testBit i) 0 = 0 := rfl
    omega
  have hNd := dig_of N hN
  rw [hcnt]
  generalize N % 256 = x0 at *
  generalize N / 256 % 256 = x1 at *
  generalize N / 65536 % 256 = x2 at *
  generalize N / 16777216 % 256 = x3 at *
  generalize N / 4294967296 % 256 = x4 at *
  generalize N / 1099511627776 % 256 = x5 at *
  generalize N / 281474976710656 % 256 = x6 at *
  generalize N / 72057594037927936 % 256 = x7 at *
  obtain ⟨p0, q0, r0, s0, t0⟩ := nibs x0 l0
  obtain ⟨p1, q1, r1, s1, t1⟩ := nibs x1 l1
  obtain ⟨p2, q2, r2, s2, t2⟩ := nibs x2 l2
  obtain ⟨p3, q3, r3, s3, t3⟩ := nibs x3 l3
  obtain ⟨p4, q4, r4, s4, t4⟩ := nibs x4 l4
  obtain ⟨p5, q5, r5, s5, t5⟩ := nibs x5 l5
  obtain ⟨p6, q6, r6, s6, t6⟩ := nibs x6 l6
  obtain ⟨p7, q7, r7, s7, t7⟩ := nibs x7 l7
  rw [hNd, step1 _ _ _ _ _ _ _ _ l0 l1 l2 l3 l4 l5 l6 l7] at ha
  have la := dig_lt _ _ _ _ _ _ _ _ p0 p1 p2 p3 p4 p5 p6 p7
  rw [ha, step2 _ _ _ _ _ _ _ _ p0 p1 p2 p3 p4 p5 p6 p7] at hb
  have m : ∀ y, y / 16 ≤ 4 ∧ y % 16 ≤ 4 → y < 69 := fun y hy => by omega
  have lb := dig_lt _ _ _ _ _ _ _ _ (Nat.lt_trans (m _ ⟨q0, r0⟩) (by decide)) (Nat.lt_trans (m _ ⟨q1, r1⟩) (by decide)) (Nat.lt_trans (m _ ⟨q2, r2⟩) (by decide)) (Nat.lt_trans (m _ ⟨q3, r3⟩) (by decide)) (Nat.lt_trans (m _ ⟨q4, r4⟩) (by decide)) (Nat.lt_trans (m _ ⟨q5, r5⟩) (by decide)) (Nat.lt_trans (m _ ⟨q6, r6⟩) (by decide)) (Nat.lt_trans (m _ ⟨q7, r7⟩) (by decide))
  have lb2 : b / 16 + b < 18446744073709551616 := by
    have k : b < 69 * 72057594037927936 := by
      have k0 := m _ ⟨q0, r0⟩
      have k1 := m _ ⟨q1, r1⟩
      have k2 := m _ ⟨q2, r2⟩
      have k3 := m _ ⟨q3, r3⟩
      have k4 := m _ ⟨q4, r4⟩
      have k5 := m _ ⟨q5, r5⟩
      have k6 := m _ ⟨q6, r6⟩
      have k7 := m _ ⟨q7, r7⟩
      rw [hb]
      unfold dig
      omega
    omega
  rw [hb] at lb2
  rw [hb, step3 _ _ _ _ _ _ _ _ ⟨q0, r0⟩ ⟨q1, r1⟩ ⟨q2, r2⟩ ⟨q3, r3⟩ ⟨q4, r4⟩ ⟨q5, r5⟩ ⟨q6, r6⟩ ⟨q7, r7⟩, s0, s1, s2, s3, s4, s5, s6, s7] at hc
  have lc := dig_lt _ _ _ _ _ _ _ _ (Nat.lt_of_le_of_lt t0 (by decide)) (Nat.lt_of_le_of_lt t1 (by decide)) (Nat.lt_of_le_of_lt t2 (by decide)) (Nat.lt_of_le_of_lt t3 (by decide)) (Nat.lt_of_le_of_lt t4 (by decide)) (Nat.lt_of_le_of_lt t5 (by decide)) (Nat.lt_of_le_of_lt t6 (by decide)) (Nat.lt_of_le_of_lt t7 (by decide))
  obtain ⟨g1', g2', g3', g4'⟩ := step4 _ _ _ _ _ _ _ _ t0 t1 t2 t3 t4 t5 t6 t7 c d e hc hd he
  refine ⟨by rw [ha]; exact la, by rw [hb]; exact lb, by rw [hb]; exact lb2, by rw [hc]; exact lc, g1', g2', g3', g4'⟩
/-- How many backslashes end ahead of a place. -/
def runs (s : ByteArray) : Nat → Nat
  | 0 => 0
  | i + 1 => if bt s (i : Int) = 92 then runs s i + 1 else 0
theorem runs_le (s : ByteArray) : ∀ i, runs s i ≤ i
  | 0 => Nat.le_refl _
  | i + 1 => by have := runs_le s i; unfold runs; split <;> omega
theorem odd_loop (s : ByteArray) (a : Int) (ha0 : 0 ≤ a) (ha : a ≤ s.size) (hn : s.size ≤ 281474976702464) :
    ∀ (i k : Nat), (i : Int) ≤ a → i < k → escape_Odd.l0 k s a (i : Int) = some ((i : Int) - runs s i, (Int.tmod (a - ((i : Int) - runs s i)) 2 == 1)) := by
  intro i
  induction i with
  | zero =>
    intro k hi hk
    obtain ⟨k, rfl⟩ : ∃ m, k = m + 1 := ⟨k - 1, by omega⟩
    have e : wrap64 (a - ((0 : Nat) : Int)) = a - ((0 : Nat) : Int) := by unfold wrap64; omega
    simp only [escape_Odd.l0, runs]
    rw [if_neg (by omega), e]
    simp
  | succ i ih =>
    intro k hi hk
    obtain ⟨k, rfl⟩ : ∃ m, k = m + 1 := ⟨k - 1, by omega⟩
    have e1 : wrap64 (((i + 1 : Nat) : Int) - 1) = (i : Int) := by unfold wrap64; omega
    have hr := runs_le s i
    simp only [escape_Odd.l0, e1]
    rw [if_pos (by omega), if_pos (by omega), if_pos (by omega)]
    by_cases h : bt s (i : Int) = 92
    · rw [if_pos h, ih k (by omega) (by omega)]
      simp only [runs, if_pos h]
      have : ((i : Int) - (runs s i : Nat)) = ((i + 1 : Nat) : Int) - ((runs s i + 1 : Nat) : Int) := by omega
      rw [this]
    · rw [if_neg h]
      simp only [runs, if_neg h]
      have e : wrap64 (a - ((i + 1 : Nat) : Int)) = a - ((i + 1 : Nat) : Int) := by unfold wrap64; omega
      rw [e]
      simp
/-- An odd number of backslashes ahead, and the byte is escaped. -/
theorem esc_runs (s : ByteArray) : ∀ i, esc s false i = decide (runs s i % 2 = 1)
  | 0 => rfl
  | i + 1 => by
    have := esc_runs s i
    show (decide (bt s (i : Int) = 92) && !esc s false i) = _
    by_cases h : bt s (i : Int) = 92
    · have e : runs s (i + 1) = runs s i + 1 := if_pos h
      rw [e, this, decide_eq_true h, Bool.true_and]
      by_cases g : runs s i % 2 = 1
      · rw [decide_eq_true g, decide_eq_false (by omega)]; rfl
      · rw [decide_eq_false g, decide_eq_true (by omega)]; rfl
    · have e : runs s (i + 1) = 0 := if_neg h
      rw [e, decide_eq_false h]; rfl
theorem odd_eq (s : ByteArray) (hn : s.size ≤ 281474976702464) (i k : Nat) (hi : i ≤ s.size) (hk : s.size + 1 < k) :
    escape_Odd.f k s (i : Int) = some (((i - runs s i : Nat) : Int), esc s false i) := by
  obtain ⟨k, rfl⟩ : ∃ m, k = m + 1 := ⟨k - 1, by omega⟩
  have hr := runs_le s i
  unfold escape_Odd.f
  rw [if_neg (by omega)]
  simp only [escape_Odd.j0]
  rw [if_neg (by simpa using by omega), odd_loop s (i : Int) (by omega) (by omega) hn i k (by omega) (by omega)]
  have e : (i : Int) - (runs s i : Nat) = ((i - runs s i : Nat) : Int) := by omega
  have e2 : (i : Int) - ((i - runs s i : Nat) : Int) = ((runs s i : Nat) : Int) := by omega
  rw [e, e2, esc_runs]
  have e3 : Int.tmod ((runs s i : Nat) : Int) 2 = ((runs s i % 2 : Nat) : Int) := rfl
  rw [e3]
  by_cases g : runs s i % 2 = 1
  · rw [g]; rfl
  · rw [show runs s i % 2 = 0 by omega]; rfl
/-- The bytes of the run are backslashes, and the byte ahead of it is none. -/
theorem runs_all (s : ByteArray) : ∀ i j, i - runs s i ≤ j → j < i → bt s (j : Int) = 92
  | 0, _, _, h => absurd h (by omega)
  | i + 1, j, h1, h2 => by
    simp only [runs] at h1
    by_cases h : bt s (i : Int) = 92
    · rw [if_pos h] at h1
      by_cases g : j = i
      · rw [g]; exact h
      · exact runs_all s i j (by omega) (by omega)
    · rw [if_neg h] at h1; omega
theorem runs_before (s : ByteArray) : ∀ i, 0 < i - runs s i → bt s ((i - runs s i - 1 : Nat) : Int) ≠ 92
  | 0, h => absurd h (by omega)
  | i + 1, h1 => by
    simp only [runs] at h1 ⊢
    have hr := runs_le s i
    by_cases h : bt s (i : Int) = 92
    · rw [if_pos h] at h1 ⊢
      have := runs_before s i (by omega)
      rw [show i + 1 - (runs s i + 1) - 1 = i - runs s i - 1 by omega]
      exact this
    · rw [if_neg h]; exact h
theorem size_eq (n : Nat) (h : n ≤ 281474976710656) : bitmap_size.f (n : Int) = some ((nwords n : Nat) : Int) := by
  unfold bitmap_size.f
  have e1 : Int.tmod (n : Int) 64 = ((n % 64 : Nat) : Int) := rfl
  have e2 : Int.tdiv (n : Int) 64 = ((n / 64 : Nat) : Int) := rfl
  have e3 : wrap64 ((n / 64 : Nat) : Int) = ((n / 64 : Nat) : Int) := by unfold wrap64; omega
  rw [e1, e2, e3]
  have e4 : wrap64 (((n / 64 : Nat) : Int) + 1) = ((n / 64 : Nat) : Int) + 1 := by unfold wrap64; omega
  rw [e4]
  unfold nwords
  by_cases h : n % 64 = 0
  · rw [if_pos (by omega)]; congr 1; omega
  · rw [if_neg (by omega)]; congr 1; omega
/-- The bits that the last word of a row may have. -/
def tailW (n : Nat) : BitVec 64 := if n % 64 = 0 then 18446744073709551615#64 else BitVec.ofNat 64 (2 ^ (n % 64) - 1)
theorem shl_one (m : Nat) (h : m < 64) : shl .u64 1 (m : Int) = ((2 ^ m : Nat) : Int) := by
  have : ∀ m : Fin 64, shl .u64 1 ((m.val : Nat) : Int) = ((2 ^ m.val : Nat) : Int) := by decide
  exact this ⟨m, h⟩
theorem tail_eq (n : Nat) : bitmap_tail.f (n : Int) = some (iv (tailW n)) := by
  unfold bitmap_tail.f tailW
  have e1 : Int.tmod (n : Int) 64 = ((n % 64 : Nat) : Int) := rfl
  rw [e1]
  by_cases h : n % 64 = 0
  · rw [if_pos (by omega), if_pos h]; rfl
  · rw [if_neg (by omega), if_neg h, if_pos (by omega), shl_one _ (by omega)]
    have hp : 0 < 2 ^ (n % 64) := Nat.pow_pos (by decide)
    have hq : 2 ^ (n % 64) < 2 ^ 64 := Nat.pow_lt_pow_right (by decide) (by omega)
    have : ((2 ^ (n % 64) : Nat) : Int) - 1 = ((2 ^ (n % 64) - 1 : Nat) : Int) := by omega
    rw [this, wrap_nat]
    unfold iv
    rw [BitVec.toNat_ofNat]
theorem rd_words (n : Nat) (p : Nat → Bool) (k : Nat) (h : k < nwords n) : rd (wordsOf n p) (k : Int) = iv (wordAt n p k) := by
  unfold rd
  rw [Int.toNat_natCast]
  exact wordsOf_get n p k h
/-- What is told of a row of bits is well formed. -/
theorem formed_eq (n : Nat) (p : Nat → Bool) (h : n ≤ 281474976710656) : bitmap_Formed.f (n : Int) (wordsOf n p) = some true := by
  unfold bitmap_Formed.f
  rw [if_neg (by omega), size_eq n h, Option.bind_some, wordsOf_length, if_pos rfl]
  by_cases h0 : n = 0
  · rw [if_pos (by omega)]
  · have hw : 0 < nwords n := by unfold nwords; omega
    have hb : nwords n ≤ 281474976710656 := by unfold nwords; omega
    have e : wrap64 (((nwords n : Nat) : Int) - 1) = ((nwords n - 1 : Nat) : Int) := by unfold wrap64; omega
    rw [if_neg (by omega), e, if_pos (by omega), if_pos (by omega), tail_eq, Option.bind_some, rd_words n p _ (by omega), bits_andNot]
    have hz : wordAt n p (nwords n - 1) &&& ~~~tailW n = 0#64 := by
      refine BitVec.eq_of_getLsbD_eq fun i hi => ?_
      rw [BitVec.getLsbD_and, BitVec.getLsbD_not]
      unfold wordAt
      rw [word_bit]
      unfold tailW
      have hn : nwords n = (n + 63) / 64 := rfl
      by_cases g : n % 64 = 0
      · rw [if_pos g]
        have : (18446744073709551615#64).getLsbD i = true := by
          have : ∀ i : Fin 64, (18446744073709551615#64).getLsbD i.val = true := by decide
          exact this ⟨i, hi⟩
        rw [this]; simp
      · rw [if_neg g, BitVec.getLsbD_ofNat, Nat.testBit_two_pow_sub_one]
        by_cases g2 : i < n % 64
        · simp [g2, hi]
        · have : ¬ (64 * (nwords n - 1) + i < n) := by omega
          simp [this]
    rw [hz]
    rfl
theorem get_eq (n : Nat) (p : Nat → Bool) (h : n ≤ 281474976710656) (i : Nat) (hi : i < n) : bitmap_Get.f (n : Int) (wordsOf n p) (i : Int) = some (p i) := by
  unfold bitmap_Get.f
  have e1 : Int.tmod (i : Int) 64 = ((i % 64 : Nat) : Int) := rfl
  have e2 : Int.tdiv (i : Int) 64 = ((i / 64 : Nat) : Int) := rfl
  have e3 : wrap64 ((i / 64 : Nat) : Int) = ((i / 64 : Nat) : Int) := by unfold wrap64; omega
  have hn : nwords n = (n + 63) / 64 := rfl
  rw [formed_eq n p h, Option.bind_some, if_pos rfl, if_pos (by omega), if_pos (by omega), e1, e2, e3, if_pos (by omega), if_pos (by rw [wordsOf_length]; omega), if_pos (by omega), rd_words n p _ (by omega)]
  have es : shr .u64 (iv (wordAt n p (i / 64))) ((i % 64 : Nat) : Int) = iv (wordAt n p (i / 64) >>> (i % 64)) := by
    rw [← shr_iv]
    unfold shr
    rw [Int.toNat_natCast, Nat.min_eq_left (by show i % 64 ≤ 64; omega)]
  have e1' : (1 : Int) = iv (1#64) := rfl
  rw [es, e1', bits_and]
  have hb : (wordAt n p (i / 64) >>> (i % 64)) &&& 1#64 = if p i then 1#64 else 0#64 := by
    refine BitVec.eq_of_getLsbD_eq fun j hj => ?_
    rw [BitVec.getLsbD_and, BitVec.getLsbD_ushiftRight]
    unfold wordAt
    rw [word_bit]
    have h1 : (1#64).getLsbD j = decide (j = 0) := by
      have : ∀ i : Fin 64, (1#64).getLsbD i.val = decide (i.val = 0) := by decide
      exact this ⟨j, hj⟩
    rw [h1]
    by_cases g : j = 0
    · subst g
      have a1 : i % 64 + 0 < 64 := by omega
      have a2 : 64 * (i / 64) + (i % 64 + 0) = i := by omega
      rw [a2]
      rw [decide_eq_true a1, decide_eq_true hi]
      cases p i <;> rfl
    · cases p i <;> simp [g, h1]
  rw [hb]
  cases p i <;> rfl
theorem esc_first (s : ByteArray) (f : Bool) : ∀ i, esc s f i = (esc s false i ^^ (f && decide (runs s i = i)))
  | 0 => by cases f <;> rfl
  | i + 1 => by
    have h := esc_first s f i
    have hr := runs_le s i
    show (decide (bt s (i : Int) = 92) && !esc s f i) = ((decide (bt s (i : Int) = 92) && !esc s false i) ^^ _)
    by_cases g : bt s (i : Int) = 92
    · have e : runs s (i + 1) = runs s i + 1 := if_pos g
      have e2 : decide (runs s i + 1 = i + 1) = decide (runs s i = i) := decide_eq_decide.mpr (by omega)
      rw [e, e2, h, decide_eq_true g]
      cases esc s false i <;> cases (f && decide (runs s i = i)) <;> rfl
    · have e : runs s (i + 1) = 0 := if_neg g
      rw [e, decide_eq_false g, decide_eq_false (show ¬ 0 = i + 1 by omega)]
      cases f <;> rfl
/-- Behind: is what comes behind the text escaped. -/
theorem behind_all (s : ByteArray) (hn : s.size ≤ 281474976702464) (f : Bool) (k : Nat) (hk : s.size + 1 < k) : escape_Behind.f k s f = some (esc s f s.size) := by
  have hr := runs_le s s.size
  unfold escape_Behind.f
  rw [odd_eq s hn s.size k (Nat.le_refl _) hk, Option.bind_some, esc_first s f]
  by_cases h : ((s.size - runs s s.size : Nat) : Int) = 0
  · rw [if_pos h, decide_eq_true (show runs s s.size = s.size by omega)]
    cases f
    · rw [if_neg (by decide)]; simp
    · rw [if_pos rfl]; simp
  · rw [if_neg h, decide_eq_false (show ¬ runs s s.size = s.size by intro g; exact h (by omega))]
    simp
theorem bt_left (s t : ByteArray) (i : Nat) (h : i < s.size) : bt (s ++ t) (i : Int) = bt s (i : Int) := by
  have hz : (s ++ t).size = s.size + t.size := ByteArray.size_append
  unfold bt
  simp only [Int.toNat_natCast]
  rw [dif_pos (by omega), dif_pos h, ByteArray.getElem_append_left h]
theorem bt_right (s t : ByteArray) (i : Nat) : bt (s ++ t) ((s.size + i : Nat) : Int) = bt t (i : Int) := by
  have hz : (s ++ t).size = s.size + t.size := ByteArray.size_append
  unfold bt
  simp only [Int.toNat_natCast]
  by_cases h : i < t.size
  · rw [dif_pos (by omega), dif_pos h, ByteArray.getElem_append_right (by omega)]
    simp only [Nat.add_sub_cancel_left]
  · rw [dif_neg (by omega), dif_neg h]
theorem esc_left (s t : ByteArray) (f : Bool) : ∀ i, i ≤ s.size → esc (s ++ t) f i = esc s f i
  | 0, _ => rfl
  | i + 1, h => by simp only [esc]; rw [esc_left s t f i (by omega), bt_left s t i (by omega)]
theorem esc_right (s t : ByteArray) (f : Bool) : ∀ i, esc (s ++ t) f (s.size + i) = esc t (esc s f s.size) i
  | 0 => esc_left s t f s.size (Nat.le_refl _)
  | i + 1 => by
    show (decide (bt (s ++ t) ((s.size + i : Nat) : Int) = 92) && !esc (s ++ t) f (s.size + i)) = _
    rw [bt_right, esc_right s t f i]; rfl
theorem cnt_le (q : Nat → Bool) : ∀ n, cnt q n ≤ n
  | 0 => Nat.le_refl _
  | n + 1 => by
    have := cnt_le q n
    have : (q n).toNat ≤ 1 := by cases q n <;> simp
    simp only [cnt]
    omega
theorem cnt_add (q : Nat → Bool) (m : Nat) : ∀ n, cnt q (m + n) = cnt q m + cnt (fun i => q (m + i)) n
  | 0 => rfl
  | n + 1 => by
    show cnt q (m + n) + (q (m + n)).toNat = cnt q m + (cnt (fun i => q (m + i)) n + (q (m + n)).toNat)
    rw [cnt_add q m n, Nat.add_assoc]
theorem cnt_congr {q r : Nat → Bool} : ∀ n, (∀ i, i < n → q i = r i) → cnt q n = cnt r n
  | 0, _ => rfl
  | n + 1, h => by
    show cnt q n + (q n).toNat = cnt r n + (r n).toNat
    rw [cnt_congr n fun i hi => h i (by omega), h n (by omega)]
theorem cnt_none (q : Nat → Bool) : ∀ n, (∀ i, i < n → q i = false) → cnt q n = 0
  | 0, _ => rfl
  | n + 1, h => by
    show cnt q n + (q n).toNat = 0
    rw [cnt_none q n fun i hi => h i (by omega), h n (by omega)]
    rfl
theorem bits_and_i64_127 (f : Nat) (h : f < 9223372036854775808) : bits .and .i64 (f : Int) 127 = ((f % 128 : Nat) : Int) := by
  show IntKind.i64.wrap ((BitVec.ofInt 64 (f : Int) &&& BitVec.ofInt 64 127).toNat : Int) = _
  have e1 : (BitVec.ofInt 64 (f : Int) &&& BitVec.ofInt 64 127).toNat = f % 128 := by
    rw [BitVec.toNat_and, BitVec.ofInt_natCast, BitVec.toNat_ofNat, show (BitVec.ofInt 64 127).toNat = 2 ^ 7 - 1 by decide, Nat.and_two_pow_sub_one_eq_mod]
    omega
  rw [e1, IntKind.wrap_i64]
  omega
theorem wrap_next (i : Nat) (h : i ≤ 281474976710656) : wrap64 ((i : Int) + 1) = ((i + 1 : Nat) : Int) := by
  unfold wrap64
  omega
theorem wrap_sum (a b m : Nat) (h1 : a ≤ m) (h2 : b ≤ 64) (hm : m ≤ 281474976710656) : wrap64 ((a : Int) + (b : Int)) = ((a + b : Nat) : Int) := by
  unfold wrap64
  omega
theorem ones_eq (v : BitVec 64) : bits_OnesCount64.f (iv v) = some ((cnt (fun i => v.getLsbD i) 64 : Nat) : Int) := by
  obtain ⟨N, hN⟩ : ∃ N, N = v.toNat := ⟨_, rfl⟩
  have hl : N < 18446744073709551616 := hN ▸ v.isLt
  have hv : iv v = (N : Int) := by rw [hN]; rfl
  have hc : cnt (fun i => v.getLsbD i) 64 = cnt (fun i => N.testBit i) 64 := cnt_congr _ fun i _ => by rw [hN]; rfl
  rw [hv, hc]
  obtain ⟨a, ha⟩ : ∃ a, a = (N / 2 &&& 6148914691236517205) + (N &&& 6148914691236517205) := ⟨_, rfl⟩
  obtain ⟨b, hb⟩ : ∃ b, b = (a / 4 &&& 3689348814741910323) + (a &&& 3689348814741910323) := ⟨_, rfl⟩
  obtain ⟨c, hcc⟩ : ∃ c, c = (b / 16 + b) &&& 1085102592571150095 := ⟨_, rfl⟩
  obtain ⟨d, hd⟩ : ∃ d, d = c + c / 256 := ⟨_, rfl⟩
  obtain ⟨e, he⟩ : ∃ e, e = d + d / 65536 := ⟨_, rfl⟩
  obtain ⟨la, lb, lb2, lc, ld, le, lf, hr⟩ := pop_nat N a b c d e hl ha hb hcc hd he
  have w : ∀ x : Nat, x < 18446744073709551616 → IntKind.u64.wrap (x : Int) = (x : Int) := fun x hx => by rw [wrap_nat, Nat.mod_eq_of_lt hx]
  have e1 : Go.bits .and .u64 ((N : Int) / 2) 6148914691236517205 = ((N / 2 &&& 6148914691236517205 : Nat) : Int) := bits_and_u64_nat (N / 2) 6148914691236517205 (by omega) (by decide)
  have e2 : Go.bits .and .u64 (N : Int) 6148914691236517205 = ((N &&& 6148914691236517205 : Nat) : Int) := bits_and_u64_nat N 6148914691236517205 hl (by decide)
  have e3 : IntKind.u64.wrap (Go.bits .and .u64 ((N : Int) / 2) 6148914691236517205 + Go.bits .and .u64 (N : Int) 6148914691236517205) = (a : Int) := by
    rw [e1, e2, ← w a la, ha]
    rfl
  have e4 : Go.bits .and .u64 ((a : Int) / 4) 3689348814741910323 = ((a / 4 &&& 3689348814741910323 : Nat) : Int) := bits_and_u64_nat (a / 4) 3689348814741910323 (by omega) (by decide)
  have e5 : Go.bits .and .u64 (a : Int) 3689348814741910323 = ((a &&& 3689348814741910323 : Nat) : Int) := bits_and_u64_nat a 3689348814741910323 la (by decide)
  have e6 : IntKind.u64.wrap (Go.bits .and .u64 ((a : Int) / 4) 3689348814741910323 + Go.bits .and .u64 (a : Int) 3689348814741910323) = (b : Int) := by
    rw [e4, e5, ← w b lb, hb]
    rfl
  have e7 : IntKind.u64.wrap ((b : Int) / 16 + (b : Int)) = ((b / 16 + b : Nat) : Int) := by
    rw [← w (b / 16 + b) lb2]
    rfl
  have e8 : Go.bits .and .u64 ((b / 16 + b : Nat) : Int) 1085102592571150095 = (c : Int) := by
    rw [hcc]
    exact bits_and_u64_nat (b / 16 + b) 1085102592571150095 lb2 (by decide)
  have e9 : IntKind.u64.wrap ((c : Int) + (c : Int) / 256) = (d : Int) := by
    rw [← w d ld, hd]
    rfl
  have e10 : IntKind.u64.wrap ((d : Int) + (d : Int) / 65536) = (e : Int) := by
    rw [← w e le, he]
    rfl
  have e11 : IntKind.u64.wrap ((e : Int) + (e : Int) / 4294967296) = ((e + e / 4294967296 : Nat) : Int) := by
    rw [← w (e + e / 4294967296) (by omega)]
    rfl
  have e12 : wrap64 ((e + e / 4294967296 : Nat) : Int) = ((e + e / 4294967296 : Nat) : Int) := by
    unfold wrap64
    omega
  unfold bits_OnesCount64.f
  rw [e3, e6, e7, e8, e9, e10, e11, e12, bits_and_i64_127 _ lf, hr]
theorem rank_all (v : BitVec 64) : words_Rank.f (iv v) 64 = some ((cnt (fun i => v.getLsbD i) 64 : Nat) : Int) := by
  unfold words_Rank.f
  rw [if_neg (by omega), if_neg (by omega), ones_eq]
  rfl
theorem rank_eq (v : BitVec 64) (k : Nat) (h : k < 64) : words_Rank.f (iv v) (k : Int) = some ((cnt (fun i => v.getLsbD i) k : Nat) : Int) := by
  unfold words_Rank.f
  by_cases h0 : k = 0
  · subst h0
    rfl
  have hp : 0 < 2 ^ k := Nat.pow_pos (by decide)
  have hq : 2 ^ k < 2 ^ 64 := Nat.pow_lt_pow_right (by decide) h
  have em : IntKind.u64.wrap (((2 ^ k : Nat) : Int) - 1) = iv (BitVec.ofNat 64 (2 ^ k - 1)) := by
    have : ((2 ^ k : Nat) : Int) - 1 = ((2 ^ k - 1 : Nat) : Int) := by omega
    rw [this, wrap_nat]
    unfold iv
    rw [BitVec.toNat_ofNat]
  rw [if_neg (by omega), if_pos (by omega), if_pos (by omega), shl_one _ h, em, bits_and, ones_eq, Option.bind_some]
  congr 2
  have e : 64 = k + (64 - k) := by omega
  rw [show cnt (fun i => (v &&& BitVec.ofNat 64 (2 ^ k - 1)).getLsbD i) 64 = cnt (fun i => (v &&& BitVec.ofNat 64 (2 ^ k - 1)).getLsbD i) (k + (64 - k)) by rw [← e], cnt_add, cnt_none _ (64 - k), Nat.add_zero]
  · exact cnt_congr _ fun i hi => by
      rw [BitVec.getLsbD_and, BitVec.getLsbD_ofNat, Nat.testBit_two_pow_sub_one]
      simp [hi, show i < 64 by omega]
  · intro i hi
    rw [BitVec.getLsbD_and, BitVec.getLsbD_ofNat, Nat.testBit_two_pow_sub_one]
    simp [show ¬ (k + i < k) by omega]
theorem cnt_word (n : Nat) (p : Nat → Bool) (k m : Nat) (hm : m ≤ 64) (h : 64 * k + m ≤ n) : cnt (fun i => (wordAt n p k).getLsbD i) m = cnt (fun i => p (64 * k + i)) m := cnt_congr _ fun i hi => by
  unfold wordAt
  rw [word_bit]
  simp [show i < 64 by omega, show 64 * k + i < n by omega]
theorem below_room (i d m n : Nat) (hn : n ≤ 281474976710656) (hm : m ≤ n) (hi : i + (d + 1) = m / 64) : i ≤ 281474976710656 ∧ 64 * i ≤ 281474976710656 ∧ i < m / 64 ∧ 64 * i + 64 ≤ n ∧ i + 1 + d = m / 64 := by
  refine ⟨?_, ?_, ?_, ?_, ?_⟩ <;> omega
theorem below_eq (n : Nat) (p : Nat → Bool) (m k : Nat) (hn : n ≤ 281474976710656) (hm : m ≤ n) (hk : m / 64 < k) : bitmap_below.f k (n : Int) (wordsOf n p) (m : Int) = some ((cnt p m : Nat) : Int) := by
  have e1 : Int.tmod (m : Int) 64 = ((m % 64 : Nat) : Int) := rfl
  have e2 : Int.tdiv (m : Int) 64 = ((m / 64 : Nat) : Int) := rfl
  have e3 : wrap64 ((m / 64 : Nat) : Int) = ((m / 64 : Nat) : Int) := by unfold wrap64; omega
  have hw : nwords n = (n + 63) / 64 := rfl
  have hle := cnt_le p
  unfold bitmap_below.f
  rw [e2, e3, if_pos (by omega), wordsOf_length, if_pos (by omega), Int.toNat_natCast]
  have hlen : ((wordsOf n p).take (m / 64)).length = m / 64 := by rw [List.length_take, wordsOf_length]; omega
  have hrd : ∀ i, i < m / 64 → rd ((wordsOf n p).take (m / 64)) (i : Int) = iv (wordAt n p i) := fun i hi => by
    rw [← rd_words n p i (by omega)]
    unfold rd
    rw [Int.toNat_natCast, List.getD_eq_getElem?_getD, List.getD_eq_getElem?_getD, List.getElem?_take_of_lt hi]
  generalize hL : (wordsOf n p).take (m / 64) = L at hlen hrd ⊢
  have key : ∀ (d i k : Nat), i + d = m / 64 → d < k → bitmap_below.l0 k (m : Int) ((cnt p (64 * i) : Nat) : Int) L (L.length : Int) (i : Int) (n : Int) (wordsOf n p) = some ((cnt p m : Nat) : Int) := by
    intro d
    induction d with
    | zero =>
      intro i k hi hk
      obtain ⟨k, rfl⟩ : ∃ k', k = k' + 1 := ⟨k - 1, by omega⟩
      unfold bitmap_below.l0
      rw [if_neg (by rw [hlen]; omega), e1]
      have hm2 : m = 64 * i + m % 64 := by omega
      by_cases g : m % 64 = 0
      · rw [if_neg (by omega)]
        congr 3
        omega
      · have h6 : m % 64 ≤ 64 := by omega
        have h7 : 64 * i ≤ 281474976710656 := by omega
        have h1 := hle (64 * i)
        have h2 := cnt_le (fun j => p (64 * i + j)) (m % 64)
        have e4 : cnt p m = cnt p (64 * i) + cnt (fun j => p (64 * i + j)) (m % 64) := by
          rw [← cnt_add, ← hm2]
        rw [if_pos (by omega), e2, e3, if_pos (by omega), wordsOf_length, if_pos (by omega), rd_words n p _ (by omega), rank_eq _ _ (by omega), Option.bind_some, show m / 64 = i by omega,
          cnt_word n p i (m % 64) (by omega) (by omega), e4, wrap_sum _ _ _ h1 (Nat.le_trans h2 h6) h7]
    | succ d ih =>
      intro i k hi hk
      obtain ⟨k, rfl⟩ : ∃ k', k = k' + 1 := ⟨k - 1, by omega⟩
      obtain ⟨l0, h7, l1, l2, l3⟩ := below_room i d m n hn hm hi
      have e6 := wrap_next i l0
      have l4 : d < k := Nat.lt_of_succ_lt_succ hk
      have l5 : (i : Int) < (L.length : Int) := by
        rw [hlen]
        exact Int.ofNat_lt.mpr l1
      have h1 := hle (64 * i)
      have h2 := cnt_le (fun j => p (64 * i + j)) 64
      have h3 : cnt p (64 * (i + 1)) = cnt p (64 * i) + cnt (fun j => p (64 * i + j)) 64 := by
        rw [show 64 * (i + 1) = 64 * i + 64 from rfl]
        rw [← cnt_add]
      have e5 : wrap64 (((cnt p (64 * i) : Nat) : Int) + ((cnt (fun j => p (64 * i + j)) 64 : Nat) : Int)) = ((cnt p (64 * (i + 1)) : Nat) : Int) := by
        rw [h3]
        exact wrap_sum _ _ _ h1 h2 h7
      unfold bitmap_below.l0
      rw [if_pos l5, if_pos (Int.natCast_nonneg i), if_pos l5, hrd i l1, rank_all, Option.bind_some, cnt_word n p i 64 (Nat.le_refl _) l2, e5, e6]
      exact ih (i + 1) k l3 l4
  exact key (m / 64) 0 k (by omega) hk
theorem count_all (n : Nat) (p : Nat → Bool) (k : Nat) (hn : n ≤ 281474976710656) (hk : n / 64 < k) : bitmap_Count.f k (n : Int) (wordsOf n p) 0 (n : Int) = some ((cnt p n : Nat) : Int) := by
  unfold bitmap_Count.f
  rw [formed_eq n p hn, Option.bind_some, if_pos rfl]
  have e1 : mx (0 : Int) 0 = ((0 : Nat) : Int) := by unfold mx; simp
  have e2 : mn (n : Int) (n : Int) = (n : Int) := by unfold mn; simp
  have h := cnt_le p n
  rw [e1, e2]
  by_cases h0 : n = 0
  · subst h0
    rfl
  · rw [if_neg (by omega), below_eq n p n k hn (Nat.le_refl _) hk, below_eq n p 0 k hn (by omega) (by omega), Option.bind_some, Option.bind_some]
    congr 1
    show wrap64 (_ - 0) = _
    unfold wrap64
    omega
theorem cnt_par (q : Nat → Bool) : ∀ n, cnt q n % 2 = (par q n).toNat
  | 0 => rfl
  | n + 1 => by
    have h := cnt_par q n
    show (cnt q n + (q n).toNat) % 2 = (par q n ^^ q n).toNat
    cases hp : par q n <;> cases hq : q n <;> rw [hp] at h <;> simp at h ⊢ <;> omega
theorem last_ins (s : ByteArray) (h : 0 < s.size) : insS s (s.size - 1) = par (mkq s) s.size := by
  obtain ⟨m, hm⟩ : ∃ m, s.size = m + 1 := ⟨s.size - 1, by omega⟩
  rw [hm]
  rfl
theorem tmod_par (q : Nat → Bool) (n : Nat) : (Int.tmod ((cnt q n : Nat) : Int) 2 == 1) = par q n := by
  have h := cnt_par q n
  have e : Int.tmod ((cnt q n : Nat) : Int) 2 = ((cnt q n % 2 : Nat) : Int) := by rw [Int.tmod_eq_emod_of_nonneg (by omega)]; omega
  rw [e, h]
  cases par q n <;> rfl
theorem open_eq (s : ByteArray) (hn : s.size ≤ 140737488351232) (k : Nat) (hk : s.size + 1 < k) : quotes_Open.f k s = some (par (mkq s) s.size) := by
  unfold quotes_Open.f quotes_Marks.f
  rw [if_pos (by omega), Option.bind_some, count_all s.size (mkq s) k (by omega) (by omega), Option.bind_some, tmod_par]
theorem mkq_left (s t : ByteArray) (i : Nat) (h : i < s.size) : mkq (s ++ t) i = mkq s i := by
  unfold mkq
  rw [bt_left s t i h, esc_left s t false i (by omega)]
theorem mkq_right (s t : ByteArray) (h : esc s false s.size = false) (i : Nat) : mkq (s ++ t) (s.size + i) = mkq t i := by
  unfold mkq
  rw [bt_right s t i, esc_right s t false i, h]
theorem par_left (s t : ByteArray) (i : Nat) (h : i ≤ s.size) : par (mkq (s ++ t)) i = par (mkq s) i := par_congr _ fun j hj => mkq_left s t j (by omega)
theorem par_right (s t : ByteArray) (h : esc s false s.size = false) (i : Nat) : par (mkq (s ++ t)) (s.size + i) = (par (mkq s) s.size ^^ par (mkq t) i) := by
  rw [par_add, par_left s t s.size (Nat.le_refl _)]
  congr 1
  exact par_congr _ fun j _ => mkq_right s t h j
theorem ins_left (s t : ByteArray) (i : Nat) (h : i < s.size) : insS (s ++ t) i = insS s i := par_left s t (i + 1) (by omega)
theorem ins_right (s t : ByteArray) (h : esc s false s.size = false) (i : Nat) : insS (s ++ t) (s.size + i) = (par (mkq s) s.size ^^ insS t i) := par_right s t h (i + 1)
theorem behind_second (s t : ByteArray) (hn : s.size + t.size ≤ 1048576) (he : esc s false s.size = false) :
    ∀ (d i k : Nat), i + d = t.size → d + s.size + t.size + 3 < k → quarrylaw07_QuotesBehind.l1 k s t (par (mkq s) s.size) (i : Int) (t.size : Int) (wordsOf t.size (mkq t)) ((s ++ t).size : Int) (wordsOf (s ++ t).size (mkq (s ++ t))) (t.size : Int) (wordsOf t.size (insS t)) ((s ++ t).size : Int) (wordsOf (s ++ t).size (insS (s ++ t))) = some true := by
  have hz : (s ++ t).size = s.size + t.size := ByteArray.size_append
  intro d
  induction d with
  | zero =>
    intro i k hi hk
    obtain ⟨k, rfl⟩ : ∃ m, k = m + 1 := ⟨k - 1, by omega⟩
    have h1 := open_eq (s ++ t) (by omega) k (by omega)
    have h2 := open_eq t (by omega) k (by omega)
    rw [hz, par_right s t he t.size] at h1
    unfold quarrylaw07_QuotesBehind.l1
    rw [if_neg (by omega), if_pos (by omega), h1, Option.bind_some, h2, Option.bind_some]
    cases par (mkq s) s.size <;> cases par (mkq t) t.size <;> rfl
  | succ d ih =>
    intro i k hi hk
    obtain ⟨k, rfl⟩ : ∃ m, k = m + 1 := ⟨k - 1, by omega⟩
    have hw : wrap64 ((i : Int) + 1) = ((i + 1 : Nat) : Int) := by unfold wrap64; omega
    have hw2 : wrap64 ((s.size : Int) + (i : Int)) = ((s.size + i : Nat) : Int) := by unfold wrap64; omega
    have h1 := get_eq (s ++ t).size (mkq (s ++ t)) (by omega) (s.size + i) (by omega)
    have h2 := get_eq t.size (mkq t) (by omega) i (by omega)
    have h3 := get_eq (s ++ t).size (insS (s ++ t)) (by omega) (s.size + i) (by omega)
    have h4 := get_eq t.size (insS t) (by omega) i (by omega)
    rw [mkq_right s t he i] at h1
    rw [ins_right s t he i] at h3
    have h5 := ih (i + 1) k (by omega) (by omega)
    unfold quarrylaw07_QuotesBehind.l1
    rw [if_pos (by omega), hw2, h1, Option.bind_some, h2, Option.bind_some, if_neg (by simp), h3, Option.bind_some, h4, Option.bind_some, hw, if_neg (by cases par (mkq s) s.size <;> cases insS t i <;> decide)]
    exact h5
theorem behind_first (s t : ByteArray) (hn : s.size + t.size ≤ 1048576) :
    ∀ (d i k : Nat), i + d = s.size → d + s.size + 2 * t.size + 5 < k → quarrylaw07_QuotesBehind.l0 k s t (i : Int) (s.size : Int) (wordsOf s.size (mkq s)) (t.size : Int) (wordsOf t.size (mkq t)) ((s ++ t).size : Int) (wordsOf (s ++ t).size (mkq (s ++ t))) (s.size : Int) (wordsOf s.size (insS s)) (t.size : Int) (wordsOf t.size (insS t)) ((s ++ t).size : Int) (wordsOf (s ++ t).size (insS (s ++ t))) = some true := by
  have hz : (s ++ t).size = s.size + t.size := ByteArray.size_append
  intro d
  induction d with
  | zero =>
    intro i k hi hk
    obtain ⟨k, rfl⟩ : ∃ m, k = m + 1 := ⟨k - 1, by omega⟩
    unfold quarrylaw07_QuotesBehind.l0
    rw [if_neg (by omega), behind_all s (by omega) false k (by omega), Option.bind_some]
    cases he : esc s false s.size
    · rw [if_neg (by decide), open_eq s (by omega) k (by omega), Option.bind_some]
      exact behind_second s t hn he t.size 0 k (by omega) (by omega)
    · rw [if_pos rfl]
      by_cases h0 : (t.size : Int) = 0
      · rw [if_pos h0]
      · rw [if_neg h0, get_eq (s ++ t).size (mkq (s ++ t)) (by omega) s.size (by omega), Option.bind_some]
        have h : mkq (s ++ t) s.size = false := by
          unfold mkq
          rw [esc_left s t false s.size (Nat.le_refl _), he]
          simp
        rw [h]
        rfl
  | succ d ih =>
    intro i k hi hk
    obtain ⟨k, rfl⟩ : ∃ m, k = m + 1 := ⟨k - 1, by omega⟩
    have hw : wrap64 ((i : Int) + 1) = ((i + 1 : Nat) : Int) := by unfold wrap64; omega
    have h1 := get_eq (s ++ t).size (mkq (s ++ t)) (by omega) i (by omega)
    have h2 := get_eq s.size (mkq s) (by omega) i (by omega)
    have h3 := get_eq (s ++ t).size (insS (s ++ t)) (by omega) i (by omega)
    have h4 := get_eq s.size (insS s) (by omega) i (by omega)
    rw [mkq_left s t i (by omega)] at h1
    rw [ins_left s t i (by omega)] at h3
    have h5 := ih (i + 1) k (by omega) (by omega)
    unfold quarrylaw07_QuotesBehind.l0
    rw [if_pos (by omega), h1, Option.bind_some, h2, Option.bind_some, if_neg (by simp), h3, Option.bind_some, h4, Option.bind_some, hw, if_neg (by simp)]
    exact h5
theorem QuotesBehind (s t : ByteArray) (hn : s.size + t.size ≤ 1048576) : ∃ k, quarrylaw07_QuotesBehind.f k s t = some true := by
  have hz : (s ++ t).size = s.size + t.size := ByteArray.size_append
  have m : ∀ x : ByteArray, x.size ≤ 1048576 → quotes_Marks.f x = some ((x.size : Int), wordsOf x.size (mkq x)) := fun x hx => by unfold quotes_Marks.f; rw [if_pos (by omega)]
  have n : ∀ x : ByteArray, x.size ≤ 1048576 → quotes_Inside.f x = some ((x.size : Int), wordsOf x.size (insS x)) := fun x hx => by unfold quotes_Inside.f; rw [if_pos (by omega)]; rfl
  have hw : wrap64 ((s.size : Int) + (t.size : Int)) = ((s ++ t).size : Int) := by rw [hz]; unfold wrap64; omega
  obtain ⟨K, hK⟩ : ∃ K, K = 2 * s.size + 2 * t.size + 7 := ⟨_, rfl⟩
  refine ⟨K + 1, ?_⟩
  have h0 := behind_first s t hn s.size 0 K (by omega) (by omega)
  unfold quarrylaw07_QuotesBehind.f
  rw [show quarrylaw07_awake.f = some true from rfl, Option.bind_some, if_pos rfl, m s (by omega), Option.bind_some, m t (by omega), Option.bind_some, if_pos (by omega), m (s ++ t) (by omega), Option.bind_some, n s (by omega), Option.bind_some, n t (by omega), Option.bind_some, n (s ++ t) (by omega), Option.bind_some, hw]
  simp only [if_true, bne_self_eq_false]
  simp only [quarrylaw07_QuotesBehind.j0, Bool.false_eq_true, if_false]
  exact h0

end Go.Proofs.YtadcgjmhhodnoaaDoor.Pure
